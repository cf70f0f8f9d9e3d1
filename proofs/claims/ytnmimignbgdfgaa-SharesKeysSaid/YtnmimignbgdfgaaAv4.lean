/- What each operation does in the model is what was said of it. -/
import Derived.Test.YtnmimignbgdfgaaAv3
namespace Go.Proofs.Ytnmimignbgdfgaa
open Go.RowKit
set_option maxRecDepth 100000
set_option linter.unusedVariables false

theorem foldl_set (off : Nat) : ∀ (vs : List Value) (k : Nat) (cs : Array Value), off + k + vs.length ≤ cs.size →
    ((vs.zipIdx k).foldl (fun (cs : Array Value) (x : Value × Nat) => cs.setIfInBounds (off + x.2) x.1) cs) = (cs.toList.take (off + k) ++ vs ++ cs.toList.drop (off + k + vs.length)).toArray
  | [], k, cs, _ => by simp
  | v :: vs, k, cs, h => by
    simp only [List.length_cons] at h
    rw [List.zipIdx_cons, List.foldl_cons]
    have ih := foldl_set off vs (k + 1) (cs.setIfInBounds (off + k) v) (by simp; omega)
    rw [ih]
    have e := list_seg_step cs.toList (off + k) v vs (by simp; omega)
    simp only [Array.toList_setIfInBounds, List.length_cons]
    exact congrArg List.toArray (by simpa [Nat.add_assoc, Nat.add_comm 1] using e)
theorem fill_sound (place : Nat → Option (Nat × Nat)) : ∀ (parts : List (Nat × AV)) (cells r : List AV), aFill place cells parts = some r →
    Instr.fill place (cells.map AV.val).toArray (parts.map fun x => (x.1, x.2.val)) = some (r.map AV.val).toArray
  | [], cells, r, h => by
    unfold aFill at h
    injection h with h
    subst h
    simp [Instr.fill]
  | (i, v) :: rest, cells, r, h => by
    unfold aFill at h
    cases hp : place i with
    | none => rw [hp] at h; cases h
    | some p =>
      obtain ⟨off, size⟩ := p
      rw [hp] at h
      dsimp only at h
      split at h
      · cases h
      · rename_i hc
        simp only [Bool.or_eq_true, Bool.not_eq_true', decide_eq_true_eq, not_or] at hc
        obtain ⟨⟨h1, h2⟩, h3⟩ := hc
        have h1 : notTup v = true := by simpa using h1
        have hcv := AV.cells_val v
        have hlen : v.val.cells.size = v.cells.length := by
          have := congrArg List.length hcv
          simpa using this.symm
        have hs : v.cells.length = size := by simpa using h2
        have ih := fill_sound place rest _ r h
        have hcond : (decide (v.val.cells.size ≠ size) || decide (off + v.val.cells.size > (cells.map AV.val).toArray.size)) = false := by
          rw [hlen, hs]
          have : off + v.cells.length ≤ cells.length := by omega
          simp; omega
        rw [List.map_cons]
        unfold Instr.fill
        rw [hp]
        dsimp only
        rw [hcond]
        simp only [Bool.false_eq_true, if_false]
        rw [← Array.foldl_toList, Array.toList_zipIdx]
        rw [foldl_set off v.val.cells.toList 0 _ (by simp [hlen]; omega)]
        rw [← hcv]
        rw [← ih]
        congr 2
        simp [splice]
theorem built_sound {P : Program} {t : TypeId} {z : Value} {pl : List (Nat × Nat)} {parts : List (Nat × AV)} {cells : List AV} (hz : zeroA P t = some z) (hp : placesB P t = some pl) (h : aFill (fun i => pl[i]?) (AV.ofV z).cells parts = some cells) :
    P.built t (parts.map fun x => (x.1, x.2.val)) = some (cells.map AV.val).toArray := by
  unfold zeroA at hz
  unfold placesB at hp
  unfold Program.built
  cases hi : P.info? t with
  | none => rw [hi] at hz; cases hz
  | some i =>
    rw [hi] at hz
    simp only [Option.bind_some] at hz
    split at hp
    · rename_i fields hu
      rw [hu]
      dsimp only
      rw [hz, hp]
      dsimp only
      have := fill_sound _ _ _ _ h
      rw [AV.cells_val _] at this
      simpa using this
    · cases hp
theorem zip_vals {α : Type} (is : List α) : ∀ (vs : List AV), ((is.zip vs).map fun x => (x.1, x.2.val)) = is.zip (vs.map AV.val) := by
  induction is with
  | nil => simp
  | cons i is ih => intro vs; cases vs <;> simp [ih]
theorem zip_parts (ρ : Operand → Value) (ps : List (Nat × Operand)) : (ps.map (·.1)).zip ((ps.map (·.2)).map ρ) = ps.map fun x => (x.1, ρ x.2) := by
  induction ps with
  | nil => rfl
  | cons p ps ih => simpa using ih
theorem aFill_length (place : Nat → Option (Nat × Nat)) : ∀ (parts : List (Nat × AV)) (cells r : List AV), aFill place cells parts = some r → r.length = cells.length
  | [], cells, r, h => by unfold aFill at h; injection h with h; subst h; rfl
  | (i, v) :: rest, cells, r, h => by
    unfold aFill at h
    cases hpl : place i with
    | none => rw [hpl] at h; cases h
    | some p =>
      obtain ⟨off, size⟩ := p
      rw [hpl] at h
      dsimp only at h
      split at h
      · cases h
      · rename_i hc
        simp only [Bool.or_eq_true, decide_eq_true_eq, not_or] at hc
        rw [aFill_length place rest _ r h]
        simp [splice]
        omega
theorem aFill_valid {w : World} {B : Nat → Nat → Prop} (place : Nat → Option (Nat × Nat)) : ∀ (parts : List (Nat × AV)) (cells r : List AV), aFill place cells parts = some r → (∀ c ∈ cells, Valid w B c) → (∀ p ∈ parts, Valid w B p.2) → ∀ c ∈ r, Valid w B c
  | [], cells, r, h, hc, _ => by unfold aFill at h; injection h with h; subst h; exact hc
  | (i, v) :: rest, cells, r, h, hc, hp => by
    unfold aFill at h
    cases hpl : place i with
    | none => rw [hpl] at h; cases h
    | some p =>
      obtain ⟨off, size⟩ := p
      rw [hpl] at h
      dsimp only at h
      split at h
      · cases h
      · refine aFill_valid place rest _ r h ?_ (fun p hp' => hp p (List.mem_cons_of_mem _ hp'))
        intro c hc'
        unfold splice at hc'
        simp only [List.mem_append] at hc'
        rcases hc' with (h' | h') | h'
        · exact hc c (List.mem_of_mem_take h')
        · exact (hp (i, v) (List.mem_cons_self)).cells c h'
        · exact hc c (List.mem_of_mem_drop h')
theorem raw_cells_valid {w : World} {B : Nat → Nat → Prop} (z : Value) : ∀ c ∈ (AV.ofV z).cells, Valid w B c := by
  have : Valid w B (AV.ofV z) := ofV_valid z
  exact this.cells
theorem ValidAt.drop {w : World} {B : Nat → Nat → Prop} {ad : Addr} {cells : List AV} (h : ValidAt w B ad 0 cells) (o : Nat) : ValidAt w B (ad.add o) 0 (cells.drop o) := by
  refine ValidAt.mk fun i d hd => ?_
  rw [List.getElem?_drop] at hd
  have := h.get hd
  have e1 : (ad.add o).add (0 + i) = ad.add (0 + (o + i)) := by
    unfold Addr.add
    by_cases ho : o = 0 <;> by_cases hi : i = 0 <;> simp [ho, hi, Nat.add_assoc]
  have e2 : (ad.add o).block = ad.block := by unfold Addr.add; split <;> rfl
  have e3 : (ad.add o).off + (0 + i) = ad.off + (0 + (o + i)) := by
    have : (ad.add o).off = ad.off + o := by unfold Addr.add; split <;> simp_all
    omega
  rw [e1, e2, e3]
  exact this
end Go.Proofs.Ytnmimignbgdfgaa
