/- Maps that stay as they are: a look-up is sound. -/
import Derived.Test.YtlmmpfbdgiokmaaGreatXu
namespace Go.Proofs.YtlmmpfbdgiokmaaGreat
open Go.RowKit
set_option linter.unusedSimpArgs false
set_option maxRecDepth 100000
set_option linter.unusedVariables false
variable {T : Nat → Type} {A : Type}
section
variable {U : Nat → Prop} {C : Codec T} {N : Nat} {ρ ρ' : Nat → AV} {P : Program} {h h1 : List (HI T)} {d : Option Nat} {ty t t' : TypeId} {pos : String} {af : Array Edge} {g : Option (Nat × Bool)} {z : A} {k : XV T → List (HI T) → Option A} {vs : List (XV T)} {σ τ : St}
theorem sv_mp {E : Nat} {kk : IntKind} {tb : List (Int × List (T E))} {a : AV} : SV C N ρ (.mp E kk tb) a ↔ ∃ b ls, a = .mp b (tb.map fun p => Value.int kk p.1) ls ∧ SVs C N ρ (tb.map fun p => XV.sl E p.2 none) ls :=
  ⟨fun h => by cases h; exact ⟨_, _, rfl, ‹_›⟩, fun ⟨b, ls, e, h⟩ => by subst e; exact .mp E kk tb b ls h .none⟩
theorem findNow_lkp {α : Type} {kk : IntKind} {n : Int} : ∀ {tb : List (Int × α)} {es : List MapEntry} (i : Nat), es.map (·.key) = tb.map (fun p => Value.int kk p.1) →
    (lkp tb n = none ∧ Instr.findNow (.int kk) (.int kk n) es i = some none) ∨ ∃ j v x, lkp tb n = some x ∧ tb[j]?.map (·.2) = some x ∧ es[j]?.map (·.val) = some v ∧ Instr.findNow (.int kk) (.int kk n) es i = some (some (i + j, v))
  | [], [], i, _ => .inl ⟨rfl, rfl⟩
  | [], e :: es, i, h => by simp at h
  | p :: tb, [], i, h => by simp at h
  | p :: tb, e :: es, i, h => by
    simp only [List.map_cons, List.cons.injEq] at h
    obtain ⟨h1, h2⟩ := h
    unfold lkp Instr.findNow
    rw [h1]
    have hs : Instr.sameNow (.int kk) (.int kk n) (.int kk p.1) = some (n == p.1) := by simp [Instr.sameNow]
    rw [hs]
    by_cases hp : n = p.1
    · right
      refine ⟨0, e.val, p.2, by rw [decide_eq_true hp]; rfl, rfl, rfl, ?_⟩
      rw [show (n == p.1) = true from by simpa using hp]
      rfl
    · rw [decide_eq_false hp, show (n == p.1) = false from by simpa using hp]
      rcases findNow_lkp (i + 1) h2 with ⟨g1, g2⟩ | ⟨j, v, x, g1, g2, g3, g4⟩
      · exact .inl ⟨g1, g2⟩
      · exact .inr ⟨j + 1, v, x, g1, by simpa using g2, by simpa using g3, by rw [show i + (j + 1) = i + 1 + j from by omega]; exact g4⟩
theorem run_lookup_ {t kt et : TypeId} {kd : IntKind} {zv : Value} {b c : Nat} {es : Array MapEntry} {n : Int} {w : World} {comma : Bool} {r : Option (Nat × Value)} (ht : P.underlying t = some (.map kt et)) (hkt : P.underlying kt = some (.int kd)) (hz : zeroA P et = some zv)
    (hb : w.heap[b]? = some (.map es c)) (hf : Instr.findNow (.int kd) (.int kd n) es.toList 0 = some r) :
    (Instr.lookup t (.map (some b)) (.int kd n) comma).run P w = .ok (if comma then .tuple #[match r with | some (_, v) => v | none => zv, .bool r.isSome] else match r with | some (_, v) => v | none => zv) w := by
  have ho : (getObj b).run P w = .ok (.map es c) w := by simp [getObj, Sem.run, hb]
  have hck : (Instr.checkKey es.isEmpty 10000 kt (.int kd n)).run P w = .ok () w := by
    rw [show (10000 : Nat) = 9999 + 1 from rfl]
    unfold Instr.checkKey
    rw [Sem.run_bind, run_underlying hkt]
    rfl
  have hfk : (Instr.findKey kt (.int kd n) es.toList).run P w = .ok r w := by
    unfold Instr.findKey
    rw [Sem.run_bind, run_underlying hkt]
    dsimp only [Result.andThen]
    rw [hf]
    rfl
  unfold Instr.lookup
  rw [Sem.run_bind, run_underlying ht]
  dsimp only [Result.andThen]
  rw [Sem.run_bind, ho]
  dsimp only [Result.andThen]
  rw [Sem.run_bind, Sem.run_pure]
  dsimp only [Result.andThen]
  rw [Sem.run_bind, hck]
  dsimp only [Result.andThen]
  rw [Sem.run_bind, hfk]
  dsimp only [Result.andThen]
  cases r with
  | none =>
    dsimp only
    rw [Sem.run_bind, run_zeroValue' hz]
    cases comma <;> rfl
  | some x => cases comma <;> rfl
theorem snd_lookup {E : Nat} {kk k' : IntKind} {tb : List (Int × List (T E))} {n : Int} {ox oi : Operand} {comma : Bool} (hk : xlookup P t comma E kk tb k' n h k = some z) : Sound C P U ⟨d, .lookup t ox oi comma, ty, pos, af, g⟩ [.mp E kk tb, .int k' n] h k z := by
  unfold xlookup at hk
  split at hk
  rotate_left
  · cases hk
  rename_i kd et hm
  unfold mapA at hm
  split at hm
  rotate_left
  · cases hm
  rename_i kt et' ht
  split at hm
  rotate_left
  · cases hm
  rename_i kd' hkt
  injection hm with hm
  injection hm with e1 e2
  subst e1 e2
  split at hk
  rotate_left
  · cases hk
  rename_i hz
  split at hk
  rotate_left
  · cases hk
  rename_i hkk
  obtain ⟨e1, e2⟩ := hkk
  subst e1
  subst e2
  -- the look-up in the model
  have key : ∃ rx : XV T, k rx h = some z ∧ ∀ ρ b ls, SVs C h.length ρ (tb.map fun p => XV.sl E p.2 none) ls → ∀ w B, Valid w B (.mp b (tb.map fun p => Value.int kd' p.1) ls) →
      ∃ r : AV, SV C h.length ρ rx r ∧ Valid w B r ∧ (Instr.lookup t (.map (some b)) (.int kd' n) comma).run P w = .ok r.val w := by
    have base : ∀ ρ b ls, SVs C h.length ρ (tb.map fun p => XV.sl E p.2 none) ls → ∀ w B, Valid w B (.mp b (tb.map fun p => Value.int kd' p.1) ls) →
        ∃ r : AV, SV C h.length ρ (.sl E ((lkp tb n).getD []) none) r ∧ Valid w B r ∧ (Instr.lookup t (.map (some b)) (.int kd' n) comma).run P w = .ok (if comma then .tuple #[r.val, .bool (lkp tb n).isSome] else r.val) w := by
      intro ρ b ls hl w B hV
      unfold Valid at hV
      obtain ⟨_, ⟨es, c, h1, h2, h3⟩, h4⟩ := hV
      rw [AV.vals_map] at h3
      rcases findNow_lkp (kk := kd') (n := n) (tb := tb) (es := es.toList) 0 h2 with ⟨g1, g2⟩ | ⟨j, v, x, g1, g2, g3, g4⟩
      · refine ⟨.lst none 0 0 [], ?_, valid_nil_, ?_⟩
        · rw [g1]
          exact (Wk.nil E).sv (sv_nil.2 rfl)
        · rw [run_lookup_ ht hkt hz h1 g2, g1]
          cases comma <;> simp
      · have hj : ∃ p, tb[j]? = some p ∧ p.2 = x := by
          cases hq : tb[j]? with
          | none => rw [hq] at g2; cases g2
          | some p => rw [hq] at g2; injection g2 with g2; exact ⟨p, rfl, g2⟩
        obtain ⟨p, hp, rfl⟩ := hj
        obtain ⟨a, ha, hsa⟩ := hl.get (i := j) (x := XV.sl E p.2 none) (by rw [List.getElem?_map, hp]; rfl)
        have hav : a.val = v := by
          have := congrArg (·[j]?) h3
          simp only [List.getElem?_map, ha, g3] at this
          injection this with this
          exact this.symm
        refine ⟨a, by rw [g1]; exact hsa, Valids.iff.1 h4 a (List.mem_of_getElem? ha), ?_⟩
        rw [run_lookup_ ht hkt hz h1 g4, g1, hav]
        cases comma <;> simp
    cases comma
    · refine ⟨_, hk, fun ρ b ls hl w B hV => ?_⟩
      obtain ⟨r, r1, r2, r3⟩ := base ρ b ls hl w B hV
      exact ⟨r, r1, r2, by simpa using r3⟩
    · refine ⟨_, hk, fun ρ b ls hl w B hV => ?_⟩
      obtain ⟨r, r1, r2, r3⟩ := base ρ b ls hl w B hV
      refine ⟨.tup [r, .raw (.bool (lkp tb n).isSome)], sv_tup.2 ⟨_, rfl, .cons r1 (sv_bool.2 rfl)⟩, ?_, by simpa using r3⟩
      unfold Valid
      exact Valids.iff.2 (by simp [r2, valid_raw])
  obtain ⟨rx, k1, k2⟩ := key
  refine ⟨_, _, k1, fun ρ σ as_ hs H => ?_⟩
  obtain ⟨a, b, rfl, h3, h4⟩ := svs2.1 hs
  obtain ⟨bm, ls, rfl, h5⟩ := sv_mp.1 h3
  rw [sv_int.1 h4]
  refine .inr ⟨rfl, fun ρv hρ w Z hH hV => ?_⟩
  have hρ' := hρ
  simp [Op.operands] at hρ'
  obtain ⟨r, r1, r2, r3⟩ := k2 ρ bm ls h5 w _ (hV _ (by simp))
  exact ⟨r, σ, w, .inl (by simp [execOp, hρ', r3]), ⟨ρ, r1, H, .refl _ _ _ _⟩, hH, r2, Grow.refl _ _⟩
end
end Go.Proofs.YtlmmpfbdgiokmaaGreat
