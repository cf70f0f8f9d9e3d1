/- What comes in, as typed data; what a law's contract says of its call. -/
import Derived.Test.YtlmmpfbdgiokmaaGreatX16
import Derived.Test.YtlmmpfbdgiokmaaGreatOpen
namespace Go.Proofs.YtlmmpfbdgiokmaaGreat
open Go.RowKit
set_option maxRecDepth 100000
set_option linter.unusedVariables false
variable {T : Nat -> Type}
inductive DXs (C : Zau T) : List (XV T) -> List D -> Prop where
 | none : DXs C [] []
 | int (k : IntKind) (n : Int) {vs ds} : DXs C vs ds -> DXs C (.int k n :: vs) (.i k n :: ds)
 | bool (b : Bool) {vs ds} : DXs C vs ds -> DXs C (.bool b :: vs) (.b b :: ds)
 | str (s : List UInt8) {vs ds} : DXs C vs ds -> DXs C (.str s :: vs) (.s s :: ds)
 | sl (E : Nat) (xs : List (T E)) (es : List D) {vs ds} : DXs C (xs.flatMap (C.enc E)) es -> DXs C vs ds -> DXs C (.sl E xs Option.none :: vs) (.l (C.sz E) es :: ds)
section
variable {C : Zau T}
theorem DXs.len {vs : List (XV T)} {ds : List D} (h : DXs C vs ds) : ds.length = vs.length := by
 induction h with
 | none => rfl
 | sl E xs es h1 h2 ih1 ih2 => simp [ih2]
 | _ => simp_all
theorem DXs.app {vs us : List (XV T)} {ds es : List D} (h : DXs C vs ds) (k : DXs C us es) : DXs C (vs ++ us) (ds ++ es) := by
 induction h with
 | none => exact k
 | int k n h ih => exact .int k n ih
 | bool b h ih => exact .bool b ih
 | str s h ih => exact .str s ih
 | sl E xs es h1 h2 ih1 ih2 => exact .sl E xs es h1 ih2
def σ0 (w : World) : St := ⟨fun _ => none, fun b => b < w.heap.size, ⟨w.heap.size, fun n hn => ⟨by omega, rfl⟩⟩⟩
theorem σ0_ok (w : World) : Zap w (σ0 w) (fun _ => False) := ⟨fun b h => h, (fun b h => h.elim), (fun b t cs h => by cases h), (fun b t k s h => by cases h), (fun b es h => by cases h)⟩
inductive ZrD : D -> Prop where
 | i (k n) : ZrD (.i k n)
 | b (x) : ZrD (.b x)
 | s (l) : ZrD (.s l)
 | l (sz) (ds : List D) : ds.length <= 140737488355328 * sz -> (∀ d ∈ ds, ZrD d) -> ZrD (.l sz ds)
mutual
theorem Rep.smallD {F : Nat -> Prop} {w : World} : (d : D) -> {v : Value} -> Rep F w d v -> ZrD d
 | .i k n, _, _ => .i k n
 | .b x, _, _ => .b x
 | .s l, _, _ => .s l
 | .l sz cells, v, h => by
  unfold Rep at h
  obtain ⟨A, n, c, rfl, h1, h2, h3, h3', h4, h5⟩ := h
  refine .l sz cells (by rw [h1]; exact Nat.mul_le_mul_right _ h3') ?_
  cases A with
  | none =>
   have : cells = [] := List.eq_nil_of_length_eq_zero (by rw [h1, (h4 rfl).1]; simp)
   subst this
   simp
  | some ad =>
   by_cases hp : 0 < n
   ·exact ZbQ.smallD 0 cells (h5 ad rfl hp).2.2
   ·have : cells = [] := List.eq_nil_of_length_eq_zero (by rw [h1, show n = 0 from by omega]; simp)
    subst this
    simp
theorem ZbQ.smallD {F : Nat -> Prop} {w : World} {ad : Addr} : (j : Nat) -> (ds : List D) -> ZbQ F w ad j ds -> ∀ d ∈ ds, ZrD d
 | _, [], _, d, hd => by cases hd
 | j, x :: r, h, d, hd => by
  unfold ZbQ at h
  obtain ⟨⟨v, h1, h2⟩, h3⟩ := h
  rcases List.mem_cons.1 hd with e | hd
  ·rw [e]; exact Rep.smallD x h2
  ·exact ZbQ.smallD (j + 1) r h3 d hd
end
theorem ZkJ.smallD {F : Nat -> Prop} {w : World} : ∀ {ds : List D} {vs : List Value}, ZkJ F w ds vs -> ∀ d ∈ ds, ZrD d
 | [], _, _, d, hd => by cases hd
 | x :: ds, [], h, d, hd => by simp [ZkJ] at h
 | x :: ds, v :: vs, h, d, hd => by
  rcases List.mem_cons.1 hd with rfl | hd
  ·exact Rep.smallD _ h.1
  ·exact ZkJ.smallD h.2 d hd
def InK (k : IntKind) (n : Int) : Prop := (Lit.int k n).wf = true
theorem InK.i64 {n : Int} (h : InK .i64 n) : -9223372036854775808 <= n /\ n <= 9223372036854775807 := by
 simpa [InK, Lit.wf, IntKind.bits, IntKind.signed, IntKind.min, IntKind.max] using h
theorem InK.u8 {n : Int} (h : InK .u8 n) : 0 <= n /\ n <= 255 := by
 simpa [InK, Lit.wf, IntKind.bits, IntKind.signed, IntKind.min, IntKind.max] using h
structure OkL {α : Type} (m : Nat) (ok : α -> Prop) (xs : List α) : Prop where
 len : xs.length <= 140737488355328
 all : ∀ x ∈ xs, ok x
 room : xs.length * m <= 140737488351232
theorem Zu9.enter {P : Program} {f : FuncId} {vals : Array Value} {w : World} {Q : Ending -> World -> Prop} (h : Zu9 P f vals w Q) (hf : Zgx P f = true) : Calls P f vals w Q := by
 rcases h with ⟨_, h⟩ | ⟨v, w', h1, _⟩
 ·exact h
 ·exfalso
  unfold Zgx at hf
  cases hfn : P.funcs[f]? with
  | none => rw [hfn] at hf; cases hf
  | some fn =>
   rw [hfn] at hf
   simp only [Bool.and_eq_true, bne_iff_ne, ne_eq] at hf
   obtain ⟨hb, hn⟩ := hf
   have hb' : fn.body ≠ none := by
    intro h
    rw [h] at hb; cases hb
   simp [callFunc, hfn, hn, hb'] at h1
theorem Zxa {P : Program} {f : FuncId} {args : List (XV T)} {h' : List (HI T)} (hf : Zgx P f = true) (ht : Tr C P (fun _ => True) f args [] (.bool true) h') {w : World} {as_ : List AV} (hs : SVs C 0 (fun _ => default) args as_) (hv : ∀ a ∈ as_, Zag w ((σ0 w).free fun _ => False) a) {vals : Array Value} (he : vals = (as_.map AV.val).toArray) :
 Calls P f vals w fun e w' => e = .returned (.bool true) /\ Zgi (fun _ => False) w w' := by
 subst he
 have H : Hp C (fun _ => default) ([] : List (HI T)) (σ0 w) := ⟨fun i x hx => by simp at hx, fun i j x y b hx => by simp at hx⟩
 have hc := ht (fun _ => default) (σ0 w) as_ hs H
 refine Calls.mono ((hc w (fun _ => False) (σ0_ok w) hv).enter hf) ?_
 rintro e w' ⟨r, σ', rfl, ⟨ρ', g1, g2, g3⟩, hH, hV, hG⟩
 rw [Za6.1 g1]
 exact ⟨by simp, hG.os, hG.tape, hG.output, hG.size, fun k hk _ => (hG.rest k hk rfl).1⟩
inductive ZBJ (C : Zau T) (w : World) : List (XV T) -> List Value -> Prop where
 | none : ZBJ C w [] []
 | one {v : XV T} {x : Value} {vs xs} (a : AV) (he : a.val = x) (hv : Zag w ((σ0 w).free fun _ => False) a) (hs : SV C 0 (fun _ => default) v a) : ZBJ C w vs xs -> ZBJ C w (v :: vs) (x :: xs)
theorem ZBJ.get {w : World} {vs : List (XV T)} {xs : List Value} (h : ZBJ C w vs xs) : ∃ as_ : List AV, as_.map AV.val = xs /\ (∀ a ∈ as_, Zag w ((σ0 w).free fun _ => False) a) /\ SVs C 0 (fun _ => default) vs as_ := by
 induction h with
 | none => exact ⟨[], rfl, by simp, .none⟩
 | one a he hv hs h ih =>
  obtain ⟨as_, h1, h2, h3⟩ := ih
  exact ⟨a :: as_, by simp [he, h1], fun b hb => by rcases List.mem_cons.1 hb with rfl | hb; (· exact hv); exact h2 b hb, .cons hs h3⟩
theorem ZyN {P : Program} {f : FuncId} {args : List (XV T)} {h' : List (HI T)} (hf : Zgx P f = true) (ht : Tr C P (fun _ => True) f args [] (.bool true) h') {w : World} {vals : List Value} (hA : ZBJ C w args vals) : Calls P f vals.toArray w fun e w' => e = .returned (.bool true) /\ Zgi (fun _ => False) w w' := by
 obtain ⟨as_, h1, h2, h3⟩ := hA.get
 exact Zxa hf ht h3 h2 (by rw [h1])
end
end Go.Proofs.YtlmmpfbdgiokmaaGreat
