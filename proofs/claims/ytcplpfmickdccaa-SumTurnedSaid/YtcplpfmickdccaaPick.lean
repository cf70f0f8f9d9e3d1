/- watershedkit.Pick: any number is brought into 0 to n - 1. -/
import Derived.Test.YtcplpfmickdccaaChecked
import Derived.Test.YtcplpfmickdccaaMem
namespace Go.Proofs.Ytcplpfmickdccaa
open Go.RowKit
theorem pick_tmod (x n : Int) (hn : 1 ≤ n) : (x.tmod n < 0 → x.tmod n + n = x % n) ∧ (¬ x.tmod n < 0 → x.tmod n = x % n) := by
  have h1 := Int.emod_nonneg x (show n ≠ 0 by omega)
  have h2 := Int.emod_lt_of_pos x (show 0 < n by omega)
  have h3 := Int.tmod_eq_emod (a := x) (b := n)
  have h4 : (n.natAbs : Int) = n := by omega
  split at h3 <;> omega
set_option maxHeartbeats 400000 in
theorem Pick_any (x n : Int) (w : World) (hn : 1 ≤ n) (hn2 : n ≤ 1000000000000) (lo : -9223372036854775808 ≤ x) (hi : x ≤ 9223372036854775807) :
    Calls Try.prog 17 #[.int .i64 x, .int .i64 n] w fun e w' => e = .returned (.int .i64 (x % n)) ∧ w = w' := by
  have h1 := Int.emod_nonneg x (show n ≠ 0 by omega)
  by_cases hx : 0 ≤ x
  · go_enter Try.func17, Try.ntmps17
    go_wp2
    go_ret
    exact ⟨rfl, rfl⟩
  · obtain ⟨h2, h3⟩ := pick_tmod x n hn
    have h4 : -n < x.tmod n := Int.lt_tmod_of_pos x (by omega)
    have h5 : x.tmod n < n := Int.tmod_lt_of_pos x (by omega)
    have hz : (n == 0) = false := by simp; omega
    by_cases h : x.tmod n < 0
    · have H2 := Lib.hid (h2 h)
      clear h2 h3
      go_enter Try.func17, Try.ntmps17
      go_wp2
      go_ret
      exact ⟨ret_int H2.out, rfl⟩
    · have H3 := Lib.hid (h3 h)
      clear h2 h3
      go_enter Try.func17, Try.ntmps17
      go_wp2
      go_ret
      exact ⟨ret_int H3.out, rfl⟩
end Go.Proofs.Ytcplpfmickdccaa
