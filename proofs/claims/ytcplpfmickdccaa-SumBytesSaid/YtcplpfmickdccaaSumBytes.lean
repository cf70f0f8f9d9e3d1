/- The walk of SumBytes. -/
import Derived.Test.YtcplpfmickdccaaSumTells
import Derived.Deep.RegionHeld3
namespace Go.Proofs.Ytcplpfmickdccaa
open Go.RowKit
theorem add_off (g i : Nat) : (⟨g, 0, none⟩ : Addr).add i = ⟨g, i, none⟩ := by
  unfold Addr.add; split <;> simp_all
/-- A list written out: a block of its own. -/
theorem rep_blk {F : Nat → Prop} {w : World} {g n sz : Nat} {e : TypeId} {vs : List Value} {ds : List D} (hB : Blk w g e vs.toArray) (hF : F g) (hr : Reps F w ds vs) (hn : ds.length = n * sz) (hl : n ≤ 1000000000) : Rep F w (.l sz ds) (.slice (some ⟨g, 0, none⟩) n n) := by
  refine Rep.of_list hn (Nat.le_refl _) (by simp only [maxLen]; omega) (by omega) (fun h => by cases h) ?_
  intro ad ha _
  injection ha with ha
  subst ha
  refine ⟨hF, hB.lt, fun j d hd => ?_⟩
  obtain ⟨v, hv, hr⟩ := hr.get hd
  exact ⟨v, by rw [add_off, hB.cell]; simpa using hv, hr⟩
theorem rep_alloc {F : Nat → Prop} {w : World} {n sz : Nat} {e : TypeId} {vs : List Value} {ds : List D} (hF : F w.heap.size) (hr : Reps F w ds vs) (hn : ds.length = n * sz) (hl : n ≤ 1000000000) :
    Rep F (w.alloc (.cells vs.toArray e)) (.l sz ds) (.slice (some ⟨w.heap.size, 0, none⟩) n n) :=
  rep_blk (Blk.new w e vs.toArray) hF (hr.kept ((Keep.refl _ _).alloc _)) hn hl
def sumsOf : List (BitVec 32) := [0#32, 1#32, 2147483648#32, 4294967295#32, 3988292384#32, 3736805603#32]
theorem bcell {W w1 : World} (hb : Keep (fun _ => False) W w1) : (∀ b o, b < W.heap.size → w1.cell? ⟨b, o, none⟩ = W.cell? ⟨b, o, none⟩) :=
  fun b o h => hb.cell (p := ⟨b, o, none⟩) h id
/-- One row, two rows of one list each, and a nil between them, written out. -/
theorem rows_one {F : Nat → Prop} {w : World} {g : Nat} {l : List UInt8} {v : Value} (hc : w.cell? ⟨g, 0, none⟩ = some v) (hF : F g) (hr : Rep F w (dBytes l) v) : Rep F w (dRows [l]) (.slice (some ⟨g, 0, none⟩) 1 1) := by
  refine Rep.of_list rfl (Nat.le_refl _) (by simp [maxLen]) (by omega) (fun h => by cases h) ?_
  intro ad ha _
  injection ha with ha
  subst ha
  refine ⟨hF, World.block_lt_of_cell? w _ hc, fun j d hd => ?_⟩
  match j, hd with
  | 0, hd => injection hd with hd; subst hd; exact ⟨v, by rw [add_off]; exact hc, hr⟩
theorem rows_two {F : Nat → Prop} {w : World} {g : Nat} {l m : List UInt8} {v u : Value} (hc : w.cell? ⟨g, 0, none⟩ = some v) (hc1 : w.cell? ⟨g, 1, none⟩ = some u) (hF : F g) (hr : Rep F w (dBytes l) v) (hr1 : Rep F w (dBytes m) u) : Rep F w (dRows [l, m]) (.slice (some ⟨g, 0, none⟩) 2 2) := by
  refine Rep.of_list rfl (Nat.le_refl _) (by simp [maxLen]) (by omega) (fun h => by cases h) ?_
  intro ad ha _
  injection ha with ha
  subst ha
  refine ⟨hF, World.block_lt_of_cell? w _ hc, fun j d hd => ?_⟩
  match j, hd with
  | 0, hd => injection hd with hd; subst hd; exact ⟨v, by rw [add_off]; exact hc, hr⟩
  | 1, hd => injection hd with hd; subst hd; exact ⟨u, by rw [add_off]; exact hc1, hr1⟩
theorem rows_three {F : Nat → Prop} {w : World} {g : Nat} {l m k : List UInt8} {v u x : Value} (hc : w.cell? ⟨g, 0, none⟩ = some v) (hc1 : w.cell? ⟨g, 1, none⟩ = some u) (hc2 : w.cell? ⟨g, 2, none⟩ = some x) (hF : F g) (hr : Rep F w (dBytes l) v) (hr1 : Rep F w (dBytes m) u) (hr2 : Rep F w (dBytes k) x) : Rep F w (dRows [l, m, k]) (.slice (some ⟨g, 0, none⟩) 3 3) := by
  refine Rep.of_list rfl (Nat.le_refl _) (by simp [maxLen]) (by omega) (fun h => by cases h) ?_
  intro ad ha _
  injection ha with ha
  subst ha
  refine ⟨hF, World.block_lt_of_cell? w _ hc, fun j d hd => ?_⟩
  match j, hd with
  | 0, hd => injection hd with hd; subst hd; exact ⟨v, by rw [add_off]; exact hc, hr⟩
  | 1, hd => injection hd with hd; subst hd; exact ⟨u, by rw [add_off]; exact hc1, hr1⟩
  | 2, hd => injection hd with hd; subst hd; exact ⟨x, by rw [add_off]; exact hc2, hr2⟩
theorem More_is (F : Nat → Prop) (rs : List (List UInt8)) {A : Option Addr} {n c : Nat} (s : BitVec 32) {w : World} {x : Int} (hx : Hid (((Crc.more s rs.flatten).toNat : Int) = x)) (hr : Rep F w (dRows rs) (.slice A n c)) :
    Calls Try.prog 12 #[.int .u32 (s.toNat : Int), .slice A n c] w fun e w' => e = .returned (.int .u32 x) ∧ Keep (fun _ => False) w w' := by
  have := More_any F rs A n c s w hr
  rwa [hx.out] at this
theorem rMore_is (F : Nat → Prop) (rs : List (List UInt8)) {A : Option Addr} {n c : Nat} (s : BitVec 32) {w : World} {x : Int} (hx : Hid (((Crc.more s rs.flatten).toNat : Int) = x)) (hr : Rep F w (dRows rs) (.slice A n c)) :
    Calls Try.prog 13 #[.int .u32 (s.toNat : Int), .slice A n c] w fun e w' => e = .returned (.int .u32 x) ∧ w = w' := by
  have := rMore_any F rs A n c s w hr
  rwa [hx.out] at this
theorem nil_bytes {F : Nat → Prop} {w : World} : Rep F w (dBytes []) (.slice none 0 0) := Rep.of_list rfl (by omega) (by simp [maxLen]) (by omega) (fun _ => ⟨rfl, rfl⟩) (fun ad ha _ => by cases ha)
set_option maxRecDepth 100000 in
set_option maxHeartbeats 2000000 in
theorem SumBytes_any (w : World) :
    Calls Try.prog 4 #[] w fun e w' => e = .returned (.bool true) ∧ Keep (fun _ => False) w w' := by
  go_enter Try.func4, Try.ntmps4
  go_wp2
  go_loopw [2, 3, 4] (fun i _ _ wr => ∃ k : Nat, k ≤ 256 ∧ i = .int .i64 k ∧ Blk wr w.heap.size 23 (sumsOf.map vU32).toArray ∧ Keep (fun _ => False) w wr) (fun i _ _ _ => 256 - (intOf i).toNat)
  case atStart => exact ⟨0, by omega, rfl, Blk.new w 23 (sumsOf.map vU32).toArray, (Keep.refl _ _).alloc _⟩
  case round =>
    obtain ⟨k, hk, rfl, hB, hK⟩ := hrel
    have HB := Lib.hid hB
    have HK := Lib.hid hK
    have hs := hK.size
    clear hB hK
    by_cases hlt : k < 256
    · have hd : decide ((k : Int) < 256) = true := by simp; omega
      obtain ⟨b, hb8⟩ : ∃ b : UInt8, (b.toNat : Int) = (k : Int) := ⟨UInt8.ofNat k, by simp; omega⟩
      have Hb8 := Lib.hid hb8
      clear hb8
      obtain ⟨wo, rfl⟩ : ∃ wo : World, wo = wr := ⟨_, rfl⟩
      go_wp2
      go_loopw [4] (fun i wr => ∃ j : Nat, j ≤ 6 ∧ i = .int .i64 j ∧ Blk wr w.heap.size 23 (sumsOf.map vU32).toArray ∧ Blk wr wo.heap.size 5 #[.int .u8 (b.toNat : Int)] ∧ Keep (fun _ => False) w wr) (fun i _ => 6 - (intOf i).toNat)
      case atStart => exact ⟨0, by omega, rfl, HB.out.alloc _, by rw [Hb8.out]; exact Blk.new _ _ _, HK.out.alloc _⟩
      case round =>
        obtain ⟨j, hj, rfl, hB, hb, hK⟩ := hrel
        by_cases hlj : j < 6
        · obtain ⟨s, hs⟩ : ∃ s, sumsOf[j]? = some s := ⟨_, List.getElem?_eq_getElem hlj⟩
          have hc : wr.cell? ⟨w.heap.size, j, none⟩ = some (.int .u32 (s.toNat : Int)) := by
            rw [hB.cell]; simp [hs]; rfl
          have hrb : Rep (fun _ => True) wr (dBytes [b]) (.slice (some ⟨wo.heap.size, 0, none⟩) 1 1) := rep_blk (vs := [vB b]) (e := 5) hb trivial ⟨rfl, trivial⟩ rfl (by omega)
          have HRB := Lib.hid hrb
          have HB := Lib.hid hB
          have Hb := Lib.hid hb
          have HK := Lib.hid hK
          have hj0 : (0 : Int) ≤ (j : Int) := by omega
          have hj6 : (j : Int) < 6 := by omega
          clear hB hb hK hrb hs
          obtain ⟨x1, hx1⟩ : ∃ x : Int, ((Crc.more s [[b]].flatten).toNat : Int) = x := ⟨_, rfl⟩
          obtain ⟨x2, hx2⟩ : ∃ x : Int, ((Crc.more s [[b], [], [b]].flatten).toNat : Int) = x := ⟨_, rfl⟩
          have hx3 : ((Crc.more s [[b], [b]].flatten).toNat : Int) = x2 := hx2
          have HX1 := Lib.hid hx1
          have HX2 := Lib.hid hx2
          have HX3 := Lib.hid hx3
          clear hx1 hx2 hx3
          have hn1 : (x1 != x1) = false := by simp
          have hn2 : (x2 != x2) = false := by simp
          go_wp2
          go_region_held3 (fun w' => Keep (fun _ => False) wr w' ∧ w'.cell? ⟨w.heap.size, j, none⟩ = some (.int .u32 (s.toNat : Int)))
            ((refine held1 ?_ hc; repeat (first | exact Keep.refl _ _ | assumption | refine Keep.drew ?_ | refine Keep.drewN ?_ _ | refine Keep.alloc ?_ _ | refine Keep.then_ (by assumption) ?_)))
            (first
              | (go_at_call 12
                 with_reducible refine (More_is (fun _ => True) [[b]] s HX1 (rows_one (v := .slice (some ⟨wo.heap.size, 0, none⟩) 1 1) ?_ trivial (HRB.out.kept ?_))).mono ?_
                 · go_simp
                 · repeat (first | exact Keep.refl _ _ | assumption | refine Keep.drew ?_ | refine Keep.drewN ?_ _ | refine Keep.alloc ?_ _ | refine Keep.then_ (by assumption) ?_)
                 rintro e w7 ⟨rfl, hk7⟩
                 have hc7 := bcell hk7
                 simp at hc7)
              | (go_at_call 13
                 with_reducible refine (rMore_is (fun _ => True) [[b]] s HX1 (rows_one (v := .slice (some ⟨wo.heap.size, 0, none⟩) 1 1) ?_ trivial (HRB.out.kept ?_))).mono ?_
                 · go_simp
                 · repeat (first | exact Keep.refl _ _ | assumption | refine Keep.drew ?_ | refine Keep.drewN ?_ _ | refine Keep.alloc ?_ _ | refine Keep.then_ (by assumption) ?_)
                 rintro e w7 ⟨rfl, rfl⟩)
              | (go_at_call 12
                 with_reducible refine (More_is (fun _ => True) [[b], [], [b]] s HX2 (rows_three (v := .slice (some ⟨wo.heap.size, 0, none⟩) 1 1) (u := .slice none 0 0) (x := .slice (some ⟨wo.heap.size, 0, none⟩) 1 1) ?_ ?_ ?_ trivial (HRB.out.kept ?_) nil_bytes (HRB.out.kept ?_))).mono ?_
                 · go_simp
                 · go_simp
                 · go_simp
                 · repeat (first | exact Keep.refl _ _ | assumption | refine Keep.drew ?_ | refine Keep.drewN ?_ _ | refine Keep.alloc ?_ _ | refine Keep.then_ (by assumption) ?_)
                 · repeat (first | exact Keep.refl _ _ | assumption | refine Keep.drew ?_ | refine Keep.drewN ?_ _ | refine Keep.alloc ?_ _ | refine Keep.then_ (by assumption) ?_)
                 rintro e w7 ⟨rfl, hk7⟩
                 have hc7 := bcell hk7
                 simp at hc7)
              | (go_at_call 13
                 with_reducible refine (rMore_is (fun _ => True) [[b], [b]] s HX3 (rows_two (v := .slice (some ⟨wo.heap.size, 0, none⟩) 1 1) (u := .slice (some ⟨wo.heap.size, 0, none⟩) 1 1) ?_ ?_ trivial (HRB.out.kept ?_) (HRB.out.kept ?_))).mono ?_
                 · go_simp
                 · go_simp
                 · repeat (first | exact Keep.refl _ _ | assumption | refine Keep.drew ?_ | refine Keep.drewN ?_ _ | refine Keep.alloc ?_ _ | refine Keep.then_ (by assumption) ?_)
                 · repeat (first | exact Keep.refl _ _ | assumption | refine Keep.drew ?_ | refine Keep.drewN ?_ _ | refine Keep.alloc ?_ _ | refine Keep.then_ (by assumption) ?_)
                 rintro e w7 ⟨rfl, rfl⟩))
          all_goals
            go_wp2
            go_roundw
            case rel =>
              refine ⟨j + 1, by omega, by go_num, HB.out.kept ?_, Hb.out.kept ?_, HK.out.trans ?_⟩
              · repeat (first | exact Keep.refl _ _ | assumption | refine Keep.drew ?_ | refine Keep.drewN ?_ _ | refine Keep.alloc ?_ _ | refine Keep.then_ (by assumption) ?_)
              · repeat (first | exact Keep.refl _ _ | assumption | refine Keep.drew ?_ | refine Keep.drewN ?_ _ | refine Keep.alloc ?_ _ | refine Keep.then_ (by assumption) ?_)
              · repeat (first | exact Keep.refl _ _ | assumption | refine Keep.drew ?_ | refine Keep.drewN ?_ _ | refine Keep.alloc ?_ _ | refine Keep.then_ (by assumption) ?_)
            case measure => simp [intOf]; omega
        · have : j = 6 := by omega
          subst this
          have HB := Lib.hid hB
          have HK := Lib.hid hK
          clear hlj hB hb hK
          go_wp2
          go_roundw
          case rel => exact ⟨k + 1, by omega, by go_num, HB.out, HK.out⟩
          case measure => simp [intOf]; omega
    · have : k = 256 := by omega
      subst this
      clear hlt
      go_wp2_with fail
      refine (Table_any _).mono ?_
      rintro e w3 ⟨rfl, hK3⟩
      have HK3 := Lib.hid hK3
      clear hK3
      go_wp2_with fail
      refine (rTable_any _).mono ?_
      rintro e w4 ⟨rfl, hK4⟩
      have HK4 := Lib.hid hK4
      clear hK4
      have heq : ∀ w, (binOp .eql 35 (.agg (tabCells 256)) (.agg (tabCells 256))).run Try.prog w = .ok (.bool true) w := fun _ => by kernel_rfl
      go_wp2_with fail
      refine (awake_any _).mono ?_
      rintro e w5 ⟨rfl, hK5⟩
      have HK5 := Lib.hid hK5
      clear hK5
      go_wp2
      go_ret
      exact ⟨rfl, ((HK.out.trans HK3.out).trans HK4.out).trans HK5.out⟩
end Go.Proofs.Ytcplpfmickdccaa
