/- What a registry writes, byte by byte (round 21Z: RegistryTurns). -/
import Derived.Test.YtaihdjknneiciaaGreatAwt
import Derived.Test.YtaihdjknneiciaaGreatRdt
namespace Go.Proofs.YtaihdjknneiciaaGreat
open Go.RowKit
set_option maxRecDepth 100000
set_option linter.unusedVariables false
set_option linter.unusedSimpArgs false
def catN (xs : List Int) : List UInt8 := (xs.map fun x => numF x.toNat).flatten
theorem numsW_good : ∀ (xs : List Int) (sp : Bool) (b : List UInt8), xs.all goodB = true → numsW xs (sp, b) = (sp, b ++ catN xs)
  | [], sp, b, _ => by simp [numsW, catN]
  | x :: xs, sp, b, h => by
    simp only [List.all_cons, Bool.and_eq_true] at h
    have : numsW (x :: xs) (sp, b) = numsW xs (numW x (sp, b)) := rfl
    rw [this]
    unfold numW
    rw [if_pos h.1, numsW_good xs sp _ h.2]
    simp [catN]
theorem catN_len : ∀ xs : List Int, xs.all goodB = true → (catN xs).length ≤ 9 * xs.length
  | [], _ => by simp [catN]
  | x :: xs, h => by
    simp only [List.all_cons, Bool.and_eq_true] at h
    have h1 := catN_len xs h.2
    have := goodB_iff.1 h.1
    have h2 := numF_len9 (n := x.toNat) (by omega)
    have : catN (x :: xs) = numF x.toNat ++ catN xs := by simp [catN]
    rw [this, List.length_append, List.length_cons]; omega
theorem Numbers_g {xs : List Int} {sp : Bool} {b : List UInt8} (hg : xs.all goodB = true) (hx : xs.length ≤ 1000) (hb : b.length ≤ 100000) : wire_Numbers xs (true, sp, b, ()) = some ((), ((true, sp, b ++ catN xs, ()), (), (), ())) := by
  rw [Numbers_p hx hb, numsW_good xs sp b hg]
theorem Numbers_h {xs : List Int} {sp : Bool} {b : List UInt8} (hg : xs.all goodB = true) (hx : xs.length ≤ 1000) (hb : b.length ≤ 100000) : wire_Numbers_2 (0, xs.length, xs.length) (true, sp, b, ()) xs = some ((), ((true, sp, b ++ catN xs, ()), xs, (), (), ())) := by
  rw [Numbers2_p hx hb, numsW_good xs sp b hg]
theorem Texts_1 {t : List UInt8} {sp : Bool} {b : List UInt8} (ht : t.length ≤ 20000) (hb : b.length ≤ 90000) : wire_Texts [t] (true, sp, b, ()) = some ((), ((true, sp, b ++ rowF t, ()), (), (), ())) := by
  unfold wire_Texts
  refine bindS rfl (condT rfl (bindS (v := (((), ()), ((true, sp, b ++ rowF t, ()), (), (), ()))) ((loopM_next (a' := (((), [t], 1, 1, ()), ((true, sp, b ++ rowF t, ()), (), ()))) ?_).trans (loopM_end ?_)) rfl))
  · unfold wire_Texts_l1
    exact condT rfl (bindS (v := t) rfl (iteT (by omega) (bindS (Rows1_p (by omega) (by (try dsimp only); omega)) rfl)))
  · unfold wire_Texts_l1
    exact condF rfl rfl
theorem Texts_1A {t : List UInt8} {sp : Bool} {b : List UInt8} (ht : t.length ≤ 20000) (hb : b.length ≤ 90000) : wire_Texts_2 (0, 1, 1) (true, sp, b, ()) [t] = some ((), ((true, sp, b ++ rowF t, ()), [t], (), (), ())) := by
  unfold wire_Texts_2
  refine bindS rfl (condT rfl (bindS (v := (((), ()), ((true, sp, b ++ rowF t, ()), [t], (), (), ()))) ((loopM_next (a' := (((), (0, 1, 1), 1, 1, ()), ((true, sp, b ++ rowF t, ()), [t], (), ()))) ?_).trans (loopM_end ?_)) rfl))
  · unfold wire_Texts_2_l1
    exact condT rfl (iteT (by (try dsimp only); omega) (bindS (v := t) rfl (iteT (by omega) (bindS (Rows1_p (by omega) (by (try dsimp only); omega)) rfl))))
  · unfold wire_Texts_2_l1
    exact condF rfl rfl
def flagF (u : Bool) : List UInt8 := [if u = true then 1 else 0]
theorem Flags_1 (u sp : Bool) {b : List UInt8} (hb : b.length ≤ 100000) : wire_Flags [u] (true, sp, b, ()) = some ((), ((true, sp, b ++ flagF u, ()), (), (), ())) := by
  unfold wire_Flags
  refine bindS rfl (condT rfl (bindS (v := (((), ()), ((true, sp, b ++ flagF u, ()), (), (), ()))) ((loopM_next (a' := (((), [u], 1, 1, ()), ((true, sp, b ++ flagF u, ()), (), ()))) ?_).trans (loopM_end ?_)) rfl))
  · unfold wire_Flags_l1
    refine condT rfl (bindS (v := u) rfl ?_)
    cases u with
    | true => exact condT rfl (bindS (v := (1 : UInt8)) rfl (bindS (put_p (by simp only [List.length_singleton]; omega)) rfl))
    | false => exact condF rfl (bindS (v := (0 : UInt8)) rfl (bindS (put_p (by simp only [List.length_singleton]; omega)) rfl))
  · unfold wire_Flags_l1
    exact condF rfl rfl
theorem Flags_1A (u sp : Bool) {b : List UInt8} (hb : b.length ≤ 100000) : wire_Flags_2 (0, 1, 1) (true, sp, b, ()) [u] = some ((), ((true, sp, b ++ flagF u, ()), [u], (), (), ())) := by
  unfold wire_Flags_2
  refine bindS rfl (condT rfl (bindS (v := (((), ()), ((true, sp, b ++ flagF u, ()), [u], (), (), ()))) ((loopM_next (a' := (((), (0, 1, 1), 1, 1, ()), ((true, sp, b ++ flagF u, ()), [u], (), ()))) ?_).trans (loopM_end ?_)) rfl))
  · unfold wire_Flags_2_l1
    refine condT rfl (iteT (by (try dsimp only); omega) (bindS (v := u) rfl ?_))
    cases u with
    | true => exact condT rfl (bindS (v := (1 : UInt8)) rfl (bindS (put_p (by simp only [List.length_singleton]; omega)) rfl))
    | false => exact condF rfl (bindS (v := (0 : UInt8)) rfl (bindS (put_p (by simp only [List.length_singleton]; omega)) rfl))
  · unfold wire_Flags_2_l1
    exact condF rfl rfl
/-- A handoff, as bytes. -/
def schB (x : DScheme) : List UInt8 := catN [x.num] ++ (rowF x.span.lo ++ rowF x.span.hi) ++ catN [x.from_, x.to_, x.epoch, x.under, x.stage]
theorem good1 {x : Int} (h0 : 0 ≤ x) (h1 : x ≤ 1073741824) : goodB x = true := goodB_iff.2 ⟨h0, by omega⟩
theorem rightS_nums {x : DScheme} (h : rightS x = true) : (0 ≤ x.num ∧ x.num ≤ 1073741824) ∧ (0 ≤ x.from_ ∧ x.from_ ≤ 4) ∧ (0 ≤ x.to_ ∧ x.to_ ≤ 4) ∧ (0 ≤ x.epoch ∧ x.epoch ≤ 1073741824) ∧ (0 ≤ x.under ∧ x.under ≤ 1073741824) ∧ (1 ≤ x.stage ∧ x.stage ≤ 9) ∧ rightB x.span = true := by
  obtain ⟨h1, h2, h3, h4, h5, h6, h7, h8⟩ := rightS_iff.1 h
  refine ⟨by omega, by omega, by omega, by omega, ?_, h7, h2⟩
  split at h8 <;> omega
theorem schB_good {x : DScheme} (h : rightS x = true) : ([x.num] : List Int).all goodB = true ∧ ([x.from_, x.to_, x.epoch, x.under, x.stage] : List Int).all goodB = true := by
  obtain ⟨h1, h2, h3, h4, h5, h6, h7⟩ := rightS_nums h
  constructor
  · simp [good1 h1.1 h1.2]
  · simp [good1 (x := x.from_) (by omega) (by omega), good1 (x := x.to_) (by omega) (by omega), good1 h4.1 h4.2, good1 h5.1 h5.2, good1 (x := x.stage) (by omega) (by omega)]
theorem schB_len {x : DScheme} (h : rightS x = true) : (schB x).length ≤ 120 := by
  obtain ⟨h1, h2, h3, h4, h5, h6, h7⟩ := rightS_nums h
  obtain ⟨g1, g2⟩ := schB_good h
  have l1 := catN_len _ g1
  have l2 := catN_len _ g2
  obtain ⟨k1, k2⟩ := rightB_len h7
  have r1 := rowF_len k1
  have r2 := rowF_len k2
  unfold schB
  simp only [List.length_append, List.length_cons, List.length_nil] at *
  omega
theorem swrite_g {x : DScheme} (h : rightS x = true) (sp : Bool) {b : List UInt8} (hb : b.length ≤ 9000) : scheme_Write x (true, sp, b, ()) = some ((), ((true, sp, b ++ schB x, ()), (), (), ())) := by
  obtain ⟨h1, h2, h3, h4, h5, h6, h7⟩ := rightS_nums h
  obtain ⟨g1, g2⟩ := schB_good h
  have l1 := catN_len _ g1
  obtain ⟨k1, k2⟩ := rightB_len h7
  have r1 := rowF_len k1
  have r2 := rowF_len k2
  simp only [List.length_cons, List.length_nil] at l1
  have n1 := Numbers_g (sp := sp) (b := b) g1 (by simp) (by omega)
  have t1 := TextsA_p (t := x.span.lo) (u := x.span.hi) (sp := sp) (b := b ++ catN [x.num]) (by omega) (by omega) (by rw [List.length_append]; omega)
  have n2 := Numbers_h (sp := sp) (b := b ++ catN [x.num] ++ rowF x.span.lo ++ rowF x.span.hi) g2 (by simp) (by simp only [List.length_append]; omega)
  unfold scheme_Write
  refine bindS n1 (bindS t1 ?_)
  dsimp only
  rw [w64 (n := x.stage) (by omega)]
  refine bindS n2 ?_
  unfold schB
  simp only [List.append_assoc]
def shB (x : DShare) : List UInt8 := rowF x.span.lo ++ rowF x.span.hi ++ catN [x.group, x.epoch]
def shsB (l : List DShare) : List UInt8 := (l.map shB).flatten
theorem shsB_snoc (l : List DShare) (x : DShare) : shsB (l ++ [x]) = shsB l ++ shB x := by simp [shsB]
def planB (s : DShares) (u : Bool) (x : DScheme) : List UInt8 := catN [s.epoch, (s.list.length : Int)] ++ shsB s.list ++ flagF u ++ (if u = true then schB x else [])
/-- A plan that a registry has. -/
structure PlanOk (s : DShares) (u : Bool) (x : DScheme) (n : Int) : Prop where
  pl : PlOk s u x n
  on : u = true → rightS x = true ∧ ¬ x.stage = 6 ∧ ¬ x.stage = 9 ∧ x.num = n
  off : u = false → x = noSc
theorem share_good {s : DShares} (h : rightW s = true) {x : DShare} (hx : x ∈ s.list) : (1 ≤ x.group ∧ x.group ≤ 4) ∧ (1 ≤ x.epoch ∧ x.epoch ≤ 1073741824) ∧ x.span.lo.length ≤ 20 ∧ x.span.hi.length ≤ 20 := by
  obtain ⟨h1, h2, h3, h4⟩ := right_iff.1 h
  obtain ⟨g1, g2⟩ := wrong_of.1 (h3 x hx)
  exact ⟨g1, by omega, rightB_len ((rightW_spans h).2 x hx)⟩
theorem shB_good {s : DShares} (h : rightW s = true) {x : DShare} (hx : x ∈ s.list) : ([x.group, x.epoch] : List Int).all goodB = true := by
  obtain ⟨h1, h2, _⟩ := share_good h hx
  simp [good1 (x := x.group) (by omega) (by omega), good1 (x := x.epoch) (by omega) (by omega)]
theorem shB_len {s : DShares} (h : rightW s = true) {x : DShare} (hx : x ∈ s.list) : (shB x).length ≤ 76 := by
  obtain ⟨h1, h2, h3, h4⟩ := share_good h hx
  have l := catN_len _ (shB_good h hx)
  have r1 := rowF_len h3
  have r2 := rowF_len h4
  unfold shB
  simp only [List.length_append, List.length_cons, List.length_nil] at *
  omega
theorem shsB_len {s : DShares} (h : rightW s = true) (i : Nat) : (shsB (s.list.take i)).length ≤ 76 * i := by
  induction i with
  | zero => simp [shsB]
  | succ i ih =>
    by_cases hi : i < s.list.length
    · rw [List.take_succ_eq_append_getElem hi, shsB_snoc, List.length_append]
      have := shB_len h (List.getElem_mem hi)
      omega
    · rw [List.take_of_length_le (by omega)]
      rw [List.take_of_length_le (by omega)] at ih
      omega
theorem plan_nums {s : DShares} (h : rightW s = true) : ([s.epoch, (s.list.length : Int)] : List Int).all goodB = true := by
  obtain ⟨h1, h2, h3, h4⟩ := right_iff.1 h
  simp [good1 (x := s.epoch) (by omega) (by omega), good1 (x := (s.list.length : Int)) (by omega) (by omega)]
theorem write_g {s : DShares} {u : Bool} {x : DScheme} (hr : rightW s = true) (hu : u = true → rightS x = true) : registry_write ⟨s, u, x⟩ (true, false, [], ()) = some ((), ((true, false, planB s u x, ()), (), (), ())) := by
  obtain ⟨e1, e2, e3, e4⟩ := right_iff.1 hr
  have hg := plan_nums hr
  have hl := catN_len _ hg
  simp only [List.length_cons, List.length_nil] at hl
  have n1 := Numbers_g (sp := false) (b := []) hg (by simp) (by simp)
  rw [List.nil_append] at n1
  generalize hC : catN [s.epoch, (s.list.length : Int)] = C at n1 hl
  have key : loopM registry_write_l1 (((), (), s.list, (s.list.length : Int), 0, ()), ((true, false, C, ()), ⟨s, u, x⟩, (), ())) = some (((), (), ()), ((true, false, C ++ shsB s.list, ()), ⟨s, u, x⟩, (), (), ())) := by
    have h0 : C = C ++ shsB (s.list.take 0) := by simp [shsB]
    rw [show (((true, false, C, ()), (⟨s, u, x⟩ : DPlan), (), ()) : (Bool × Bool × List UInt8 × Unit) × DPlan × Unit × Unit) = ((true, false, C ++ shsB (s.list.take 0), ()), ⟨s, u, x⟩, (), ()) by rw [← h0]]
    refine loopM_run (step := registry_write_l1) (fun i : Nat => (((), (), s.list, (s.list.length : Int), (i : Int), ()), ((true, false, C ++ shsB (s.list.take i), ()), ⟨s, u, x⟩, (), ()))) (N := s.list.length) (fun i hi => ?_) ?_
    · obtain ⟨g1, g2, g3, g4⟩ := share_good hr (List.getElem_mem hi)
      have hsl := shsB_len hr i
      have r1 := rowF_len g3
      have r2 := rowF_len g4
      have t1 := Texts2_p (t := s.list[i].span.lo) (u := s.list[i].span.hi) (sp := false) (b := C ++ shsB (s.list.take i)) (by omega) (by omega) (by rw [List.length_append]; omega)
      have n2 := Numbers_h (xs := [s.list[i].group, s.list[i].epoch]) (sp := false) (b := C ++ shsB (s.list.take i) ++ rowF s.list[i].span.lo ++ rowF s.list[i].span.hi) (shB_good hr (List.getElem_mem hi)) (by simp) (by simp only [List.length_append]; omega)
      unfold registry_write_l1
      refine condT (dT (by (try dsimp only); omega)) (bindS (getI_lt hi) (bindS t1 (bindS n2 ?_)))
      dsimp only
      rw [w64 (by omega), List.take_succ_eq_append_getElem hi, shsB_snoc]
      unfold shB
      simp only [List.append_assoc]
      rfl
    · unfold registry_write_l1
      refine condF (dF (by (try dsimp only); omega)) ?_
      dsimp only
      rw [List.take_length]
  have hsl := shsB_len hr s.list.length
  rw [List.take_length] at hsl
  have q2 := Flags_1 u false (b := C ++ shsB s.list) (by rw [List.length_append]; omega)
  unfold registry_write planB
  rw [hC]
  refine bindS n1 (bindS key (bindS q2 ?_))
  cases u with
  | true => exact condT rfl (bindS (swrite_g (hu rfl) false (by simp only [List.length_append, flagF, List.length_singleton]; omega)) rfl)
  | false => simp
theorem planB_len {s : DShares} {u : Bool} {x : DScheme} (hr : rightW s = true) (hu : u = true → rightS x = true) : (planB s u x).length ≤ 3300 := by
  obtain ⟨e1, e2, e3, e4⟩ := right_iff.1 hr
  have hl := catN_len _ (plan_nums hr)
  have hsl := shsB_len hr s.list.length
  rw [List.take_length] at hsl
  simp only [List.length_cons, List.length_nil] at hl
  unfold planB
  simp only [List.length_append, flagF, List.length_singleton]
  cases u with
  | true =>
    have := schB_len (hu rfl)
    simp only [if_true]
    omega
  | false => simp; omega
theorem View_g {s : DShares} {u : Bool} {x : DScheme} {n : Int} (hr : rightW s = true) (hu : u = true → rightS x = true) (l : List DVerdict) (m : Nm) : registry_View (plc s u x n) (l, (), ()) m = some (planB s u x, (plc s u x n, (l, (), ()), m, (), (), (), ())) := by
  have hl := planB_len hr hu
  obtain ⟨st, hd⟩ := Done_p (sp := false) (b := planB s u x) (by omega)
  unfold registry_View
  refine bindS (v := (true, (plc s u x n, (l, (), ()), m, (), (), ()))) rfl (condF rfl (bindS rfl (bindS (write_g hr hu) (bindS hd ?_))))
  rfl
end Go.Proofs.YtaihdjknneiciaaGreat
