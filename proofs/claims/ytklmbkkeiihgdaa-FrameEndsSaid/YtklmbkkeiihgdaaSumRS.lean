/- The reference's sum of parts. -/
import Derived.Test.YtklmbkkeiihgdaaSumR
import Derived.Test.YtklmbkkeiihgdaaRows2
namespace Go.Proofs.Ytklmbkkeiihgdaa
open Go.RowKit
set_option maxRecDepth 100000
set_option maxHeartbeats 1000000 in
theorem rSum_any (F : Nat → Prop) (rs : List (List UInt8)) (A : Option Addr) (n c : Nat) (w : World) (hr : Rep F w (dRows rs) (.slice A n c)) (hs : rs.flatten.length ≤ 1000000000) :
    Calls Try.prog 32 #[.slice A n c] w fun e w' => e = .returned (.int .u32 ((Crc.more 0#32 rs.flatten).toNat : Int)) ∧ Keep (fun _ => False) w w' := by
  obtain ⟨i0, hi0, hz0, hz1, hz2⟩ := info_parts byte_info
  have hm := hr.rows_max
  have HR := Lib.hid hr.bound
  have HS := Lib.hid hs
  clear hr hs
  go_enter Try.func32, Try.ntmps32
  go_wp2
  go_loopw [3, 4] (fun v i wr => ∃ k : Nat, k ≤ n ∧ i = .int .i64 k ∧ wr.ownsRow w.heap.size 5 1 v (rs.take k).flatten.length ((rs.take k).flatten.map vB) ∧ Keep (fun _ => False) w wr) (fun _ i _ => n - (intOf i).toNat)
  case atStart => exact ⟨0, by omega, rfl, World.ownsRow_nil _ _ _ _, Keep.refl _ _⟩
  case round =>
    obtain ⟨k, hk, rfl, hO, hK⟩ := hrel
    obtain ⟨v3, rfl⟩ : ∃ v, v = u3 := ⟨_, rfl⟩
    by_cases hlt : k < n
    · obtain ⟨ad, A', c', rfl, hlr, hc1, hRk⟩ := (HR.out.kept hK).rows_at hlt
      have hle := get_le_flatten rs k hlr
      have HLE := Lib.hid hle
      have HO := Lib.hid hO
      have HK := Lib.hid hK
      have HRk := Lib.hid hRk
      have hs := hK.size
      clear hO hK hRk hle
      go_wp2_with (at_builtin
                   refine append_all _ rfl _ _ _ rfl w.heap.size 5 i0 _ 1 1 Try.underlying23 hi0 hz0 hz1 hz2 rfl (by omega) _ _ _ rfl HO.out A' _ c' (rs[k].map vB) rfl ?_ HRk.out.form.2.2.2.2.1 HRk.out.bytes (vB_oneCell _) ?_ ?_ ?_ ?_
                   · simp
                   · have := HS.out; have := HLE.out; simp only [maxLen]; omega
                   · have := HS.out; have := HLE.out; omega
                   · omega
                   intro v4 w4 hO4 hG4 _
                   have HO4 := Lib.hid hO4
                   have HG4 := Lib.hid hG4
                   clear hO4 hG4)
      go_roundw
      case rel =>
        refine ⟨k + 1, by omega, by go_num, ?_, HK.out.grown HG4.out (fun g hg hl => by have := (HO.out.lt g hg).1; omega)⟩
        rw [map_take_snoc rs k hlr, List.flatten_append, List.flatten_singleton, List.map_append, List.length_append]
        exact HO4.out
      case measure => simp [intOf]; omega
    · have : k = n := by omega
      subst this
      have hl := HR.out.rows_len
      rw [List.take_of_length_le (by omega)] at hO
      have hOr := own_rep (F := fun _ => True) (ds := rs.flatten.map dB) hO (fun _ _ => trivial) (by rw [← dB_val]; exact Reps.of_flat _ _ (dB_flat _)) (by have := HS.out; omega)
      have HOr := Lib.hid hOr
      have HK := Lib.hid hK
      have HRl : Hid (∃ A1 c1, v3 = .slice A1 rs.flatten.length c1) := by
        rcases hO.2 with ⟨he, h0⟩ | ⟨g, cap, cur, hv, _⟩
        · exact ⟨none, 0, by rw [he, h0]⟩
        · exact ⟨_, _, hv⟩
      clear hl hO hK hlt hOr
      obtain ⟨A1, c1, rfl⟩ := HRl
      have hs' : rs.flatten.length ≤ 1000000000 := HS.out
      clear HS HR
      generalize hbs : rs.flatten = bs at *
      have HBS := Lib.hid hbs
      clear hbs
      go_wp2
      go_loop [5, 6] (fun x i => ∃ j : Nat, j ≤ bs.length ∧ i = .int .i64 j ∧ x = .int .u32 ((Crc.feeds (4294967295#32) (bs.take j)).toNat : Int)) (fun _ i => bs.length - (intOf i).toNat)
      case atStart => exact ⟨0, by omega, rfl, rfl⟩
      case round =>
        obtain ⟨j, hj, rfl, rfl⟩ := hrel
        by_cases hlj : j < bs.length
        · obtain ⟨ad', rfl, _, _, hlb, hc2⟩ := Rep.bytes_at (l := bs) HOr.out hlj
          go_wp2_with fail
          refine (rfeed_any _ (bs[j]) _).mono ?_
          rintro e w3 ⟨rfl, rfl⟩
          go_wp2
          go_round
          case rel => exact ⟨j + 1, by omega, by go_num, by rw [map_take_snoc _ j hlb, Crc.feeds_snoc]⟩
          case measure => simp [intOf]; omega
        · have : j = bs.length := by omega
          subst this
          clear hlj
          go_wp2
          go_ret
          exact ⟨ret_int (by rw [HBS.out, B32.not_]; rfl), HK.out⟩
end Go.Proofs.Ytklmbkkeiihgdaa
