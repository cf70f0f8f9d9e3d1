/- The walks of watershedkit over bytes: marks, what is lent, whether it is kept. -/
import Derived.Test.YtklmbkkeiihgdaaProg
import Derived.Test.YtklmbkkeiihgdaaRows2
import Derived.BigQuiet
import Derived.Deep.QuietTactic
namespace Go.Proofs.Ytklmbkkeiihgdaa
open Go.RowKit
set_option maxRecDepth 100000
set_option maxHeartbeats 400000 in
theorem mark_any (k i : Int) (w : World) (hk : 0 ≤ k) (hk' : k ≤ 1000000) (hi : 0 ≤ i) (hi' : i ≤ 1000000000000) :
    Calls Try.prog 34 #[.int .i64 k, .int .i64 i] w fun e w' => e = .returned (.int .i64 (1000003 * (k + 7) + i)) ∧ w = w' := by
  go_enter Try.func34, Try.ntmps34
  go_wp2
  go_ret
  exact ⟨rfl, rfl⟩
def markW (k i : Int) : Int := IntKind.u64.wrap ((1000003 * (k + 7) + i) * 11400714819323198485) / 72057594037927936 % 256
def vMark (i : Nat) : Value := .int .u8 (markW 1 i)
set_option maxHeartbeats 400000 in
theorem markByte_any (k i : Int) (w : World) (hk : 0 ≤ k) (hk' : k ≤ 1000000) (hi : 0 ≤ i) (hi' : i ≤ 1000000000000) :
    Calls Try.prog 23 #[.int .i64 k, .int .i64 i] w fun e w' => e = .returned (.int .u8 (markW k i)) ∧ w = w' := by
  go_enter Try.func23, Try.ntmps23
  go_wp2_with fail
  refine (mark_any _ _ _ (by omega) (by omega) (by omega) (by omega)).mono ?_
  rintro e w' ⟨rfl, rfl⟩
  go_wp2
  go_ret
  exact ⟨rfl, rfl⟩

def marks (k : Nat) : List Value := (List.range k).map vMark
theorem marks_succ (k : Nat) : marks (k + 1) = marks k ++ [vMark k] := by simp [marks, List.range_succ]
theorem marks_length (k : Nat) : (marks k).length = k := by simp [marks]
set_option maxHeartbeats 1000000 in
theorem LentBytes_any (F : Nat → Prop) (l : List UInt8) (A : Option Addr) (n c : Nat) (w : World) (hr : Rep F w (dBytes l) (.slice A n c)) (hn : n ≤ 1000000000) :
    Calls Try.prog 9 #[.slice A n c] w fun e w' => e = .returned (.slice (some ⟨w.heap.size, 0, none⟩) n (n + 12)) ∧ Blk w' w.heap.size 5 (l.map vB ++ marks 12).toArray ∧ Keep (fun _ => False) w w' := by
  obtain ⟨i0, hi0, hz0, hz1, hz2⟩ := info_parts byte_info
  obtain ⟨h1, h2, h3, _, h4, _⟩ := hr.form
  have HL := Lib.hid hr.bytes_len
  have H4 := Lib.hid h4
  have HR := Lib.hid hr
  clear h1 h4 hr
  go_enter Try.func9, Try.ntmps9
  go_wp2_with (first
    | (at_make
       refine wpList_make_own _ rfl _ _ _ rfl w.heap.size 5 i0 _ 1 Try.underlying23 hi0 hz0 hz1 .i64 .i64 _ (n + 12) rfl rfl (by omega) ?_ (by simp only [maxLen]; omega) (Nat.le_refl _) ?_
       · rw [hz2]; omega
       intro w1 hown1 hg1
       have HK1 : Hid (Keep (fun _ => False) w w1) := ((Keep.refl _ w).grown0 hg1))
    | (at_builtin
       go_loud (refine wpList_append_fits_any _ rfl _ _ _ rfl w.heap.size 5 i0 1 Try.underlying23 hi0 hz1 w.heap.size 0 (n + 12) [] rfl hown1 A n c (l.map vB) rfl ?_ H4.out (HR.out.kept HK1.out).bytes ?_ (by omega) ?_)
       · have := HL.out; simp [this]
       · intro u hu; simp only [List.mem_map] at hu; obtain ⟨b, _, rfl⟩ := hu; rfl
       intro w2 hown2 hg2
       have HK2 : Hid (Keep (fun _ => False) w w2) := (HK1.out.grownNew hg2 (Nat.le_refl _))))
  go_loopw [3, 4] (fun v i wr => ∃ k : Nat, k ≤ 12 ∧ i = .int .i64 k ∧ v = .slice (some ⟨w.heap.size, 0, none⟩) (n + k) (n + 12) ∧
      wr.ownsRow w.heap.size 5 1 (.slice (some ⟨w.heap.size, 0, none⟩) (n + k) (n + 12)) (n + k) (l.map vB ++ marks k) ∧ Keep (fun _ => False) w wr) (fun _ i _ => 12 - (intOf i).toNat)
  case atStart => exact ⟨0, by omega, rfl, by simp, by simpa [marks] using hown2, HK2.out⟩
  case round =>
    obtain ⟨k, hk, rfl, rfl, hown, hK⟩ := hrel
    by_cases hlt : k < 12
    · have HO := Lib.hid hown
      have HK := Lib.hid hK
      have hs := hK.size
      clear hown hK hown1 hown2 hg1 hg2 HK1 HK2
      go_wp2_with (first
        | (go_at_call 23; refine (markByte_any 1 k _ (by omega) (by omega) (by omega) (by omega)).mono ?_; rintro e w' ⟨rfl, rfl⟩)
        | (at_builtin
           refine wpList_append_fits _ rfl _ _ _ rfl w.heap.size 5 i0 1 Try.underlying23 hi0 hz1 w.heap.size (n + k) (n + 12) _ rfl (HO.out.alloc _) ⟨wr.heap.size, 0, none⟩ 1 1 [vMark k] rfl rfl ?_ ?_ (by omega) ?_
           · exact cell_one_new _ _ _
           · intro u hu; simp at hu; subst hu; rfl
           intro w3 hown3 hg3))
      go_roundw
      case rel => exact ⟨k + 1, by omega, by go_num, by simp; omega, by rw [marks_succ, ← List.append_assoc, ← Nat.add_assoc]; exact hown3, (HK.out.alloc _).grownNew hg3 (Nat.le_refl _)⟩
      case measure => simp [intOf]; omega
    · have : k = 12 := by omega
      subst this
      go_wp2
      go_ret
      exact ⟨rfl, blk_of_own hown, hK⟩
set_option maxHeartbeats 1000000 in
theorem KeptBytes_any (F : Nat → Prop) (l : List UInt8) (A : Option Addr) (n c g : Nat) (w : World) (hr : Rep F w (dBytes l) (.slice A n c)) (hB : Blk w g 5 (l.map vB ++ marks 12).toArray) (hn : n ≤ 1000000000) :
    Calls Try.prog 17 #[.slice (some ⟨g, 0, none⟩) n (n + 12), .slice A n c] w fun e w' => e = .returned (.bool true) ∧ Drawn w w' := by
  have HR := Lib.hid hr
  have HB := Lib.hid hB
  have hl := hr.bytes_len
  have HL := Lib.hid hl
  clear hr hB hl
  have hne : ((n : Int) != n) = false := by simp
  go_enter Try.func17, Try.ntmps17
  go_wp2
  go_loopw [6] (fun i wr => ∃ k : Nat, k ≤ n + 12 ∧ i = .int .i64 k ∧ Drawn w wr) (fun i _ => (n + 12) - (intOf i).toNat)
  case atStart => exact ⟨0, by omega, rfl, Drawn.refl _⟩
  case round =>
    obtain ⟨k, hk, rfl, hD⟩ := hrel
    have hRw := HR.out.kept hD.keep
    have hBw := HB.out.kept hD.keep
    have HD := Lib.hid hD
    clear hD
    by_cases hlt : k < n + 12
    · by_cases h1 : k < n
      · obtain ⟨ad, rfl, _, _, h2, h3⟩ := hRw.bytes_at h1
        have hc1 : wr.cell? ⟨g, k, none⟩ = some (.int .u8 (l[k].toNat : Int)) := by
          rw [hBw.cell]; simp [List.getElem?_append, h2, vB]
        have hd2 : decide (n ≤ k) = false := by simp; omega
        clear hRw hBw
        go_wp2
        go_quiet (fail)
        go_wp2
        go_roundw
        case rel => exact ⟨k + 1, by omega, by go_num, HD.out.drewN _⟩
        case measure => simp [intOf]; omega
      · have hc1 : wr.cell? ⟨g, k, none⟩ = some (.int .u8 (markW 1 ((k : Int) - n))) := by
          have hl := HL.out
          rw [hBw.cell]; simp [List.getElem?_append, marks, vMark, hl, h1, show k - n < 12 from by omega]
          congr 1; omega
        have hd1 : decide (k < n) = false := by simp; omega
        have hd2 : decide (n ≤ k) = true := by simp; omega
        have hge : (n : Int) ≤ k := by omega
        have hm := fun w => markByte_any 1 ((k : Int) - n) w (by omega) (by omega) (by omega) (by omega)
        have HM := Lib.hid hm
        clear hRw hBw hm
        go_wp2
        go_quiet ((go_at_call 23; exact quietEq (HM.out _)))
        go_wp2
        go_roundw
        case rel => exact ⟨k + 1, by omega, by go_num, HD.out.drewN _⟩
        case measure => simp [intOf]; omega
    · clear hRw hBw
      go_wp2
      go_ret
      exact ⟨rfl, HD.out⟩
end Go.Proofs.Ytklmbkkeiihgdaa
