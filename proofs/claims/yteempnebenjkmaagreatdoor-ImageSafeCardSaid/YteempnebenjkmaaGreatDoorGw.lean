/- slices.Grow of a list that is nil: a new array, nothing of it told. -/
import Derived.Test.YteempnebenjkmaaGreatDoorWr
import Derived.Shelf.Spec.SlicesGrow
namespace Go.Proofs.YteempnebenjkmaaGreatDoor
open Go.RowKit
set_option linter.unusedSimpArgs false
set_option maxRecDepth 100000
set_option linter.unusedVariables false
variable {T : Nat -> Type}
section
variable {C : Zaw T} {P : Program}
theorem Zm3 {ρ0 : Go.Shelf.Ren} (L : Lays8.n4 P ρ0) {f : FuncId} {e : TypeId} {E : Nat} (he : ρ0.t 25 = e) (hf0 : ρ0.f 4 = f) {zv : Value} {sz by_ : Nat} (kp : Bool) (hsz : Zax P e = some sz) (hz : ZaR P e = some zv) (hby : Zcd P e = some by_) (hzs : zv.cells.size = sz) (hE : sz = C.sz E) (hfu : C.full E = false)
 (hf : ZcZ P f = true) (n : Int) (h0 : 0 <= n) (h1 : n <= 140737488355328) (h2 : n * by_ <= 140737488355328) : Tr C P (fun _ => True) f [.nil, .int .i64 n] [] (.as E 0 0 0 none) [.arr e E kp []] := by
 subst he hf0
 intro ρ σ vs hs H
 obtain ⟨N, rfl⟩ : ∃ N : Nat, n = (N : Int) := ⟨n.toNat, by omega⟩
 cases hs with
 | nil hs =>
 cases hs with
 | int _ _ hs =>
 cases hs with
 | none =>
 refine fun w Z hH hV => .inl ⟨hf, ?_⟩
 by_cases hN : N = 0
 ·subst hN
  refine Calls.mono (Any8.slices_Grow_room L none 0 0 0 w (by omega) (by omega) (by omega) (by omega)) ?_
  rintro e' w' ⟨rfl, rfl⟩
  obtain ⟨g1, g2⟩ := H.newNil (U := fun _ => True) (e := ρ0.t 25) (E := E) (kp := kp)
  exact ⟨.lst none 0 0 [], σ, by simp, ⟨_, ZbE.2 (.inr ⟨rfl, rfl, by simp, Zav _ _ _, fun c' hc => by cases hc⟩), g1, g2⟩, hH, ZcF, Grow.refl _ _⟩
 ·obtain ⟨i', hi', hsi⟩ := Zjl hsz
  have hzi : i'.zero = some zv := by unfold ZaR at hz; rw [hi'] at hz; simpa using hz
  have hbi : i'.bytes = by_ := by unfold Zcd at hby; rw [hi'] at hby; simpa using hby
  have hpos := C.pos E
  have hb4 : N * by_ <= 140737488355328 := by
   have : ((N * by_ : Nat) : Int) <= 140737488355328 := by rw [Int.natCast_mul]; exact h2
   omega
  refine Calls.mono (Any8.slices_Grow_grow L i' zv hi' hzi (by omega) none 0 0 N [] w (by omega) (by omega) (by rw [hbi]; simpa using hb4) (by omega) (by simp) (fun _ => rfl) (fun a ha => by cases ha)) ?_
  rintro e' w' ⟨rfl, rfl⟩
  have hge := grownCap_ge w (0 + N) 0 (ρ0.t 25)
  have hcm := grownCap_le_maxLen w (0 + N) 0 (ρ0.t 25) (by unfold maxLen; omega)
  generalize grownCap w (0 + N) 0 (ρ0.t 25) = cap at *
  have harr : ([] : List Value).toArray ++ Builtin.zeroCells zv.cells (0 + N - 0) ++ Builtin.zeroCells zv.cells (cap - (0 + N)) = ((((Builtin.zeroCells zv.cells N).toList.map AV.raw ++ (Builtin.zeroCells zv.cells (cap - (0 + N))).toList.map AV.raw)).map AV.val).toArray := by
   apply Array.ext'
   simp [Function.comp_def]
  rw [harr]
  obtain ⟨f1, f2, f3, f4⟩ := hH.made (ρ0.t 25) (((Builtin.zeroCells zv.cells N).toList.map AV.raw ++ (Builtin.zeroCells zv.cells (cap - (0 + N))).toList.map AV.raw)) (fun q hq => by
   rcases List.mem_append.1 hq with hq | hq
   ·obtain ⟨v, _, rfl⟩ := List.mem_map.1 hq
    exact Zaz _
   ·obtain ⟨v, _, rfl⟩ := List.mem_map.1 hq
    exact Zaz _)
  obtain ⟨g1, g2⟩ := H.newArr (U := fun _ => True) kp f1 f2 (ρ0.t 25) (E := E) (K := cap) (xs := []) (pre := []) (rest := ((Builtin.zeroCells zv.cells N).toList.map AV.raw ++ (Builtin.zeroCells zv.cells (cap - (0 + N))).toList.map AV.raw)) (fun _ _ => .none) (by
   simp only [List.nil_append, List.length_append, List.length_map, Array.length_toList, size_zeroCells, hzs]
   rw [<- Nat.add_mul, hE]
   congr 1
   omega) hcm (fun h => by rw [hfu] at h; cases h)
  refine ⟨.raw (.slice (some ⟨w.heap.size, 0, none⟩) 0 cap), _, by simp, ⟨_, ZbE.2 (.inl ⟨_, _, rfl, by simp, Nat.zero_le _, hcm, by omega, ⟨w.heap.size, by rw [Nat.zero_add]; exact Zav _ _ _, fun _ => by rw [Nat.zero_mul]⟩, fun c' hc => by cases hc⟩), g1, g2⟩, f3, Zaz _, f4⟩
end
end Go.Proofs.YteempnebenjkmaaGreatDoor
