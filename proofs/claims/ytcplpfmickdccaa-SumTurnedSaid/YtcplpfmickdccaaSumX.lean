/- Lists of rows written out; the sums' contracts at a named value. -/
import Derived.Test.YtcplpfmickdccaaSumTells
import Derived.Deep.RegionHeld3
namespace Go.Proofs.Ytcplpfmickdccaa
open Go.RowKit
theorem add_off (g i : Nat) : (⟨g, 0, none⟩ : Addr).add i = ⟨g, i, none⟩ := by
  unfold Addr.add; split <;> simp_all
/-- A list written out: a block of its own. -/
theorem rep_blk {F : Nat → Prop} {w : World} {g n sz : Nat} {e : TypeId} {vs : List Value} {ds : List D} (hB : Blk w g e vs.toArray) (hF : F g) (hr : Reps F w ds vs) (hn : ds.length = n * sz) (hl : n ≤ 1000000000) : Rep F w (.l sz ds) (.slice (some ⟨g, 0, none⟩) n n) := by
  refine Rep.of_list hn (Nat.le_refl _) (by simp only [maxLen]; omega) (by omega) (fun h => by cases h) ?_
  intro ad ha _
  injection ha with ha
  subst ha
  refine ⟨hF, hB.lt, fun j d hd => ?_⟩
  obtain ⟨v, hv, hr⟩ := hr.get hd
  exact ⟨v, by rw [add_off, hB.cell]; simpa using hv, hr⟩
theorem rep_alloc {F : Nat → Prop} {w : World} {n sz : Nat} {e : TypeId} {vs : List Value} {ds : List D} (hF : F w.heap.size) (hr : Reps F w ds vs) (hn : ds.length = n * sz) (hl : n ≤ 1000000000) :
    Rep F (w.alloc (.cells vs.toArray e)) (.l sz ds) (.slice (some ⟨w.heap.size, 0, none⟩) n n) :=
  rep_blk (Blk.new w e vs.toArray) hF (hr.kept ((Keep.refl _ _).alloc _)) hn hl
theorem bcell {W w1 : World} (hb : Keep (fun _ => False) W w1) : (∀ b o, b < W.heap.size → w1.cell? ⟨b, o, none⟩ = W.cell? ⟨b, o, none⟩) :=
  fun b o h => hb.cell (p := ⟨b, o, none⟩) h id
/-- One row, two rows of one list each, and a nil between them, written out. -/
theorem rows_one {F : Nat → Prop} {w : World} {g : Nat} {l : List UInt8} {v : Value} (hc : w.cell? ⟨g, 0, none⟩ = some v) (hF : F g) (hr : Rep F w (dBytes l) v) : Rep F w (dRows [l]) (.slice (some ⟨g, 0, none⟩) 1 1) := by
  refine Rep.of_list rfl (Nat.le_refl _) (by simp [maxLen]) (by omega) (fun h => by cases h) ?_
  intro ad ha _
  injection ha with ha
  subst ha
  refine ⟨hF, World.block_lt_of_cell? w _ hc, fun j d hd => ?_⟩
  match j, hd with
  | 0, hd => injection hd with hd; subst hd; exact ⟨v, by rw [add_off]; exact hc, hr⟩
theorem rows_two {F : Nat → Prop} {w : World} {g : Nat} {l m : List UInt8} {v u : Value} (hc : w.cell? ⟨g, 0, none⟩ = some v) (hc1 : w.cell? ⟨g, 1, none⟩ = some u) (hF : F g) (hr : Rep F w (dBytes l) v) (hr1 : Rep F w (dBytes m) u) : Rep F w (dRows [l, m]) (.slice (some ⟨g, 0, none⟩) 2 2) := by
  refine Rep.of_list rfl (Nat.le_refl _) (by simp [maxLen]) (by omega) (fun h => by cases h) ?_
  intro ad ha _
  injection ha with ha
  subst ha
  refine ⟨hF, World.block_lt_of_cell? w _ hc, fun j d hd => ?_⟩
  match j, hd with
  | 0, hd => injection hd with hd; subst hd; exact ⟨v, by rw [add_off]; exact hc, hr⟩
  | 1, hd => injection hd with hd; subst hd; exact ⟨u, by rw [add_off]; exact hc1, hr1⟩
theorem rows_three {F : Nat → Prop} {w : World} {g : Nat} {l m k : List UInt8} {v u x : Value} (hc : w.cell? ⟨g, 0, none⟩ = some v) (hc1 : w.cell? ⟨g, 1, none⟩ = some u) (hc2 : w.cell? ⟨g, 2, none⟩ = some x) (hF : F g) (hr : Rep F w (dBytes l) v) (hr1 : Rep F w (dBytes m) u) (hr2 : Rep F w (dBytes k) x) : Rep F w (dRows [l, m, k]) (.slice (some ⟨g, 0, none⟩) 3 3) := by
  refine Rep.of_list rfl (Nat.le_refl _) (by simp [maxLen]) (by omega) (fun h => by cases h) ?_
  intro ad ha _
  injection ha with ha
  subst ha
  refine ⟨hF, World.block_lt_of_cell? w _ hc, fun j d hd => ?_⟩
  match j, hd with
  | 0, hd => injection hd with hd; subst hd; exact ⟨v, by rw [add_off]; exact hc, hr⟩
  | 1, hd => injection hd with hd; subst hd; exact ⟨u, by rw [add_off]; exact hc1, hr1⟩
  | 2, hd => injection hd with hd; subst hd; exact ⟨x, by rw [add_off]; exact hc2, hr2⟩
theorem More_is (F : Nat → Prop) (rs : List (List UInt8)) {A : Option Addr} {n c : Nat} (s : BitVec 32) {w : World} {x : Int} (hx : Hid (((Crc.more s rs.flatten).toNat : Int) = x)) (hr : Rep F w (dRows rs) (.slice A n c)) :
    Calls Try.prog 12 #[.int .u32 (s.toNat : Int), .slice A n c] w fun e w' => e = .returned (.int .u32 x) ∧ Keep (fun _ => False) w w' := by
  have := More_any F rs A n c s w hr
  rwa [hx.out] at this
theorem rMore_is (F : Nat → Prop) (rs : List (List UInt8)) {A : Option Addr} {n c : Nat} (s : BitVec 32) {w : World} {x : Int} (hx : Hid (((Crc.more s rs.flatten).toNat : Int) = x)) (hr : Rep F w (dRows rs) (.slice A n c)) :
    Calls Try.prog 13 #[.int .u32 (s.toNat : Int), .slice A n c] w fun e w' => e = .returned (.int .u32 x) ∧ w = w' := by
  have := rMore_any F rs A n c s w hr
  rwa [hx.out] at this
theorem nil_bytes {F : Nat → Prop} {w : World} : Rep F w (dBytes []) (.slice none 0 0) := Rep.of_list rfl (by omega) (by simp [maxLen]) (by omega) (fun _ => ⟨rfl, rfl⟩) (fun ad ha _ => by cases ha)
end Go.Proofs.Ytcplpfmickdccaa
