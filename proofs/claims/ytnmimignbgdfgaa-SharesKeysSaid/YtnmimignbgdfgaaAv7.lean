/- Regions in the text's order, codes, functions. -/
import Derived.Test.YtnmimignbgdfgaaAv6
import Derived.Deep.LoopGhost
import Derived.Scope
namespace Go.Proofs.Ytnmimignbgdfgaa
open Go.RowKit
set_option maxRecDepth 100000
set_option linter.unusedVariables false

def yieldedA (ops : Array Oper) (env : Env) (j : Nat) : Option Bool := match (ops[j]?).bind (·.dst) with
  | some t => match (env t).val with
    | .bool b => some b
    | _ => none
  | none => none
def aOp (P : Program) (ops : Array Oper) (o : Oper) (env : Env) (σ : St) (K : Env → St → Prop) : Prop :=
  if Region.wanted o (yieldedA ops env) then aVal P o (o.op.operands.toList.map (ev env)) σ (fun r σ' => K (env.put o.dst r) σ') else K (env.put o.dst (.raw undef)) σ
def aList (P : Program) (ops : Array Oper) : List Oper → Env → St → (Env → St → Prop) → Prop
  | [], env, σ, K => K env σ
  | o :: rest, env, σ, K => aOp P ops o env σ fun env' σ' => aList P ops rest env' σ' K
/-- The slots are there. -/
def dstOk (nt : Nat) (ops : List Oper) : Bool := ops.all fun o => match o.dst with
  | some d => d < nt
  | none => true
/-- The frame's values, and the world. -/
structure AInv (nt : Nat) (w : World) (σ : St) (Z : Nat → Prop) (env : Env) (a : Act) : Prop where
  heap : HeapOk w σ Z
  defers : a.defers = []
  size : a.tmps.size = nt
  val : ∀ i, a.tmps.getD i undef = (env i).val
  valid : ∀ i, Valid w (σ.free Z) (env i)

section
variable {P : Program} {w : World} {σ : St} {Z : Nat → Prop} {o : Oper} {a : Act} {env : Env} {nt : Nat}
theorem AInv.eval (h : AInv nt w σ Z env a) (x : Operand) : a.eval x = (ev env x).val ∧ Valid w (σ.free Z) (ev env x) := by
  cases x with
  | tmp t => exact ⟨h.val t, h.valid t⟩
  | const v => exact ⟨by simp [Act.eval, ev], by unfold ev; exact ofV_valid v⟩
  | global g => exact ⟨by simp [Act.eval, ev, ptr], by unfold ev ptr Valid; trivial⟩
  | func f => exact ⟨by simp [Act.eval, ev], by unfold ev Valid; trivial⟩
theorem AInv.put {w' : World} {σ' : St} {r : AV} {d : Option Nat} (h : AInv nt w σ Z env a) (hd : ∀ t, d = some t → t < nt) (hH : HeapOk w' σ' Z) (hG : Grow w σ w' σ') (hr : Valid w' (σ'.free Z) r) : AInv nt w' σ' Z (env.put d r) (a.put d r.val) := by
  cases d with
  | none => exact ⟨hH, h.defers, h.size, h.val, fun i => hG.valid (h.valid i)⟩
  | some t =>
    refine ⟨hH, h.defers, by simp [Act.put, h.size], fun i => ?_, fun i => ?_⟩
    · show (a.tmps.setIfInBounds t r.val).getD i undef = (if i = t then r else env i).val
      by_cases hi : i = t
      · subst hi
        rw [if_pos rfl]
        have : i < a.tmps.size := by rw [h.size]; exact hd i rfl
        simp [Array.getD, this]
      · rw [if_neg hi]
        have := h.val i
        simp only [Array.getD_eq_getD_getElem?] at this ⊢
        rw [Array.getElem?_setIfInBounds_ne (Ne.symm hi)]
        exact this
    · show Valid w' (σ'.free Z) (if i = t then r else env i)
      split
      · exact hr
      · exact hG.valid (h.valid i)
theorem AInv.wanted (h : AInv nt w σ Z env a) {ops : Array Oper} (hok : dstOk nt ops.toList = true) (o : Oper) : Region.wanted o (yielded ops a.tmps) = Region.wanted o (yieldedA ops env) := by
  have : yielded ops a.tmps = yieldedA ops env := by
    funext j
    unfold yielded yieldedA
    cases hj : ops[j]? with
    | none => rfl
    | some oj =>
      simp only [Option.bind_some]
      cases hd : oj.dst with
      | none => rfl
      | some t =>
        simp only [Option.bind_some]
        have hlt : t < a.tmps.size := by
          rw [h.size]
          have := List.all_eq_true.1 hok oj (by simpa using Array.mem_of_getElem? hj)
          rw [hd] at this
          simpa using this
        have hv := h.val t
        simp only [Array.getD, hlt, dif_pos] at hv
        have : a.tmps[t]? = some (env t).val := by rw [Array.getElem?_eq_getElem hlt]; exact congrArg some hv
        rw [this]
        cases (env t).val <;> rfl
  rw [this]
/-- What stands behind a step. -/
def After (nt : Nat) (w : World) (σ : St) (Z : Nat → Prop) (K : Env → St → Prop) (a' : Act) (w' : World) : Prop :=
  ∃ env' σ', K env' σ' ∧ AInv nt w' σ' Z env' a' ∧ Grow w σ w' σ'
theorem aOp_sound {ops : Array Oper} {K : Env → St → Prop} {Q : Exit → Act → World → Prop} (hI : AInv nt w σ Z env a) (hok : dstOk nt ops.toList = true) (ho : ∀ t, o.dst = some t → t < nt) (h : aOp P ops o env σ K) :
    if Region.wanted o (yielded ops a.tmps) then o.wp P a w (After nt w σ Z K) Q ∨ (o.asks P a w ∧ LetsOut Q) else After nt w σ Z K (a.put o.dst undef) w := by
  rw [hI.wanted hok]
  unfold aOp at h
  split
  · rename_i hw
    rw [if_pos hw] at h
    left
    have := aVal_sound (Q := Q) hI.heap hI.eval h
    refine Oper.wp_mono ?_ this
    rintro a' w' ⟨r, σ', hK, rfl, hH, hV, hG⟩
    exact ⟨_, σ', hK, hI.put ho hH hG hV, hG⟩
  · rename_i hw
    rw [if_neg hw] at h
    exact ⟨_, σ, h, hI.put (r := .raw undef) ho hI.heap (Grow.refl _ _) (by unfold Valid; trivial), Grow.refl _ _⟩
theorem aList_sound {ops : Array Oper} {Q : Exit → Act → World → Prop} (hok : dstOk nt ops.toList = true) : ∀ (l : List Oper) (env : Env) (σ : St) (a : Act) (w : World) (K : Env → St → Prop), (∀ o ∈ l, o ∈ ops.toList) → AInv nt w σ Z env a → aList P ops l env σ K →
    (∀ a' w', After nt w σ Z K a' w' → Q .normal a' w') → wpList P ops Q l a w
  | [], env, σ, a, w, K, _, hI, h, hQ => hQ a w ⟨env, σ, h, hI, Grow.refl _ _⟩
  | o :: l, env, σ, a, w, K, hm, hI, h, hQ => by
    have ho : ∀ t, o.dst = some t → t < nt := fun t ht => by
      have := List.all_eq_true.1 hok o (hm o (List.mem_cons_self))
      rw [ht] at this
      simpa using this
    have hs := aOp_sound (Q := Q) hI hok ho h
    have step : ∀ a' w', After nt w σ Z (fun env' σ' => aList P ops l env' σ' K) a' w' → wpList P ops Q l a' w' := by
      rintro a' w' ⟨env', σ', hK, hI', hG⟩
      refine aList_sound hok l env' σ' a' w' K (fun x hx => hm x (List.mem_cons_of_mem _ hx)) hI' hK ?_
      rintro a2 w2 ⟨env2, σ2, hK2, hI2, hG2⟩
      exact hQ a2 w2 ⟨env2, σ2, hK2, hI2, hG.trans hG2⟩
    unfold wpList
    split
    · rename_i hw
      rw [if_pos hw] at hs
      rcases hs with hs | hs
      · exact .inl (Oper.wp_mono step hs)
      · exact .inr hs
    · rename_i hw
      rw [if_neg hw] at hs
      exact step _ _ hs
end
end Go.Proofs.Ytnmimignbgdfgaa
