/- LogCompact, plainly. -/
import Derived.Test.YtlkphbhmfoehpaaLt
namespace Go.Proofs.Ytlkphbhmfoehpaa
open Go.RowKit
set_option maxRecDepth 100000
set_option linter.unusedVariables false
set_option linter.unusedSimpArgs false
/-- The configuration in force behind entries. -/
def forceF (c : DConfig) (l : List DEntry) : DConfig := l.foldl (fun c e => if e.kind = 3 then e.config else c) c
theorem forceF_app (c : DConfig) (l m : List DEntry) : forceF c (l ++ m) = forceF (forceF c l) m := List.foldl_append
theorem forceF_ok {c : DConfig} {l : List DEntry} (hc : OkC c) (hl : OkEs l) : OkC (forceF c l) := by
  induction l generalizing c with
  | nil => exact hc
  | cons e l ih =>
    show OkC (forceF (if e.kind = 3 then e.config else c) l)
    refine ih ?_ (fun x hx => hl x (List.mem_cons_of_mem _ hx))
    split
    · exact (hl e List.mem_cons_self).2
    · exact hc
section
variable {b t : Int} {v o n w : List Int} {es : List DEntry}
theorem force_p {i : Int} {m : Nat} (hb : 0 ≤ b ∧ b ≤ 4000000000) (he : es.length ≤ 100000) (hs : OkEs es) (hc : OkC ⟨v, o, n, w⟩) (hi : i = b + m) (hm : m ≤ es.length) :
    ∃ j, log_force i (b, t, v, o, n, w, true, es, ()) = some ((forceF ⟨v, o, n, w⟩ (es.take m), j, ()), ((b, t, v, o, n, w, true, es, ()), (), (), ())) := by
  subst hi
  have key : ∃ z, loopM log_force_l1 (((), (), b + (m : Int), ()), ((b, t, v, o, n, w, true, es, ()), ([], [], [], [], ()), (), (), (), (), (), ())) = some z ∧
      ((∃ j, z = .inl (((), j, ()), ((b, t, v, o, n, w, true, es, ()), forceF ⟨v, o, n, w⟩ (es.take m), (), (), (), (), (), (), ()))) ∨
       (forceF ⟨v, o, n, w⟩ (es.take m) = ⟨v, o, n, w⟩ ∧ ∃ q, z = .inr (((), (), ()), ((b, t, v, o, n, w, true, es, ()), q)))) := by
    refine loopM_spec (fun N a => ∃ (k : Nat) (q : (List Int) × (List Int) × (List Int) × (List Int) × Unit), a = (((), (), b + (k : Int), ()), ((b, t, v, o, n, w, true, es, ()), q, (), (), (), (), (), ())) ∧ k ≤ m ∧ forceF ⟨v, o, n, w⟩ (es.take m) = forceF ⟨v, o, n, w⟩ (es.take k) ∧ N = k) _ ?_ (n := m) ⟨m, _, rfl, Nat.le_refl _, rfl, rfl⟩
    rintro N a ⟨k, q, rfl, h1, h2, hN⟩
    unfold log_force_l1
    cases k with
    | zero =>
      right
      refine ⟨_, condF (dF (by dsimp only; omega)) rfl, .inr ⟨h2, _, rfl⟩⟩
    | succ k =>
      have hk : k < es.length := by omega
      have ht : forceF ⟨v, o, n, w⟩ (es.take (k + 1)) = if es[k].kind = 3 then es[k].config else forceF ⟨v, o, n, w⟩ (es.take k) := by
        rw [List.take_succ_eq_append_getElem hk, forceF_app]; rfl
      by_cases h3 : es[k].kind = 3
      · right
        refine ⟨_, condT (dT (by dsimp only; omega)) (bindS (place_in (i := b + ((k + 1 : Nat) : Int)) (b := b) (es := es) hb he (by omega) (by omega)) (condT rfl ?_)), .inl ⟨b + ((k + 1 : Nat) : Int), rfl⟩⟩
        dsimp only
        rw [show b + ((k + 1 : Nat) : Int) - b - 1 = (k : Int) from by omega, getI_lt hk, Option.bind_some]
        refine condT (dT h3) ?_
        rw [Option.bind_some, ownConfig_p (hs _ (List.getElem_mem hk)).2, Option.bind_some]
        rw [h2, ht, if_pos h3]
      · left
        refine ⟨k, _, by omega, condT (dT (by dsimp only; omega)) (bindS (place_in (i := b + ((k + 1 : Nat) : Int)) (b := b) (es := es) hb he (by omega) (by omega)) (condT rfl ?_)), k, q, rfl, by omega, ?_, rfl⟩
        · dsimp only
          rw [show b + ((k + 1 : Nat) : Int) - b - 1 = (k : Int) from by omega, getI_lt hk, Option.bind_some]
          refine condF (dF h3) ?_
          rw [w64 (by omega), show b + ((k + 1 : Nat) : Int) - 1 = b + (k : Int) from by omega]
        · rw [h2, ht, if_neg h3]
  obtain ⟨z, hz, hq⟩ := key
  unfold log_force
  rcases hq with ⟨j, rfl⟩ | ⟨h1, q, rfl⟩
  · exact ⟨j, bindS hz rfl⟩
  · exact ⟨b, bindS hz (by
      refine bindS (ownConfig_p hc) ?_
      rw [h1])⟩
theorem Config_p (hb : 0 ≤ b ∧ b ≤ 4000000000) (he : es.length ≤ 100000) (hs : OkEs es) (hc : OkC ⟨v, o, n, w⟩) :
    ∃ j, log_Config (b, t, v, o, n, w, true, es, ()) = some ((forceF ⟨v, o, n, w⟩ es, j, ()), ((b, t, v, o, n, w, true, es, ()), (), (), ())) := by
  obtain ⟨j, hj⟩ := force_p (t := t) (i := b + (es.length : Int)) hb he hs hc rfl (Nat.le_refl _)
  rw [List.take_length] at hj
  refine ⟨j, ?_⟩
  unfold log_Config
  refine bindS rfl ?_
  refine condF rfl ?_
  refine bindS (Last_p (b := b) (es := es) hb he) ?_
  exact bindS hj rfl
theorem Base_p (hc : OkC ⟨v, o, n, w⟩) : log_Base (b, t, v, o, n, w, true, es, ()) = some (⟨b, t, ⟨v, o, n, w⟩⟩, ((b, t, v, o, n, w, true, es, ()), (), (), ())) := by
  unfold log_Base
  refine bindS rfl ?_
  refine condF rfl ?_
  exact bindS (ownBase_p hc) rfl
theorem stand_p {x : DBase} {m : Nat} {i : Int} (hi : i = m) (hm : m ≤ es.length) (he : es.length ≤ 100000) : log_stand x i (b, t, v, o, n, w, true, es, ()) = some (true, ((x.index, x.term_, x.config.voters, x.config.old, x.config.learners, x.config.want, true, es.drop m, ()), (), (), ())) := by
  subst hi
  unfold log_stand
  refine iteT (by dsimp only; omega) ?_
  dsimp only
  rw [Int.toNat_natCast, Int.toNat_natCast, List.take_of_length_le (by simp)]
  exact bindS (clone31_p (by simp; omega)) rfl
/-- The term at a place; at 0 the base's. -/
def termAt (t : Int) (es : List DEntry) : Nat → Int
  | 0 => t
  | k + 1 => match es[k]? with
    | some e => e.term_
    | none => 0
theorem termAt_succ {k : Nat} (h : k < es.length) : termAt t es (k + 1) = es[k].term_ := by
  show (match es[k]? with | some e => e.term_ | none => 0) = _
  rw [List.getElem?_eq_getElem h]
theorem Term_at {i : Int} {m : Nat} (hb : 0 ≤ b ∧ b ≤ 4000000000) (he : es.length ≤ 100000) (hi : i = b + m) (hm : m ≤ es.length) : log_Term i (b, t, v, o, n, w, true, es, ()) = some ((termAt t es m, true, ()), ((b, t, v, o, n, w, true, es, ()), (), (), ())) := by
  cases m with
  | zero => exact Term_base (by omega) hb he
  | succ k =>
    rw [Term_in (k := k) hb he (by omega) (by omega)]
    rw [termAt_succ (by omega)]
theorem Compact_in {i : Int} {m : Nat} (hb : 0 ≤ b ∧ b ≤ 4000000000) (he : es.length ≤ 100000) (hs : OkEs es) (hc : OkC ⟨v, o, n, w⟩) (hi : i = b + m) (hm : m ≤ es.length) :
    ∃ c : DConfig, c = forceF ⟨v, o, n, w⟩ (es.take m) ∧ log_Compact i (b, t, v, o, n, w, true, es, ()) = some (true, ((i, termAt t es m, c.voters, c.old, c.learners, c.want, true, es.drop m, ()), (), (), ())) := by
  obtain ⟨j, hj⟩ := force_p (t := t) (i := i) hb he hs hc hi hm
  refine ⟨_, rfl, ?_⟩
  unfold log_Compact
  refine bindS (Term_at (i := i) (b := b) (es := es) (m := m) hb he hi hm) ?_
  refine condF rfl ?_
  refine bindS hj ?_
  refine bindS (stand_p (es := es) (m := m) (by dsimp only; rw [w64 (by omega)]; omega) hm he) ?_
  rfl
theorem Compact_out {i : Int} (hb : 0 ≤ b ∧ b ≤ 4000000000) (he : es.length ≤ 100000) (h : i < b ∨ b + es.length < i) : log_Compact i (b, t, v, o, n, w, true, es, ()) = some (false, ((b, t, v, o, n, w, true, es, ()), (), (), ())) := by
  unfold log_Compact
  refine bindS (Term_out (i := i) (b := b) (es := es) hb he h) ?_
  exact condT rfl rfl
theorem Pick_p {x N : Int} (hx : -9223372036854775808 ≤ x ∧ x ≤ 9223372036854775807) (hN : 1 ≤ N ∧ N ≤ 1000000) : ∃ r : Int, watershedkit_Pick x N = some (r, ()) ∧ 0 ≤ r ∧ r < N := by
  unfold watershedkit_Pick
  rw [dF (p := N < 1) (by omega), cond_false, if_neg (by omega)]
  have h1 := Int.tmod_lt_of_pos x (b := N) (by omega)
  have h2 : -N < x.tmod N := by
    have := Int.tmod_lt_of_pos (-x) (b := N) (by omega)
    rw [Int.neg_tmod] at this
    omega
  by_cases h : x.tmod N < 0
  · rw [dT h, cond_true, w64 (by omega)]
    exact ⟨_, rfl, by omega, by omega⟩
  · rw [dF h, cond_false]
    exact ⟨_, rfl, by omega, by omega⟩
/-- Install: at an entry of its term, what is behind stays; else nothing does. -/
theorem Install_p {x : DBase} {k : Nat} (hb : 0 ≤ b ∧ b ≤ 4000000000) (he : es.length ≤ 100000) (hx : OkC x.config) (hi : x.index = b + 1 + k) (hk : (k : Int) ≤ 1000000) :
    log_Install x (b, t, v, o, n, w, true, es, ()) = some (true, ((x.index, x.term_, x.config.voters, x.config.old, x.config.learners, x.config.want, true, (if k < es.length ∧ termAt t es (k + 1) = x.term_ then es.drop (k + 1) else []), ()), (), (), ())) := by
  unfold log_Install
  refine bindS rfl ?_
  refine condF rfl ?_
  refine condF (dF (by dsimp only; omega)) ?_
  by_cases hin : k < es.length
  · refine bindS (place_in (i := x.index) (b := b) (es := es) hb he (by omega) (by omega)) ?_
    refine condT rfl ?_
    dsimp only
    rw [show x.index - b - 1 = (k : Int) from by omega, getI_lt hin, Option.bind_some]
    have ht : termAt t es (k + 1) = es[k].term_ := termAt_succ hin
    by_cases h : es[k].term_ = x.term_
    · refine condT (dT h) ?_
      refine bindS (ownBase_p hx) ?_
      dsimp only
      rw [w64 (by omega)]
      refine bindS (stand_p (es := es) (m := k + 1) (by omega) (by omega) he) ?_
      rw [if_pos ⟨hin, by rw [ht]; exact h⟩]
    · refine condF (dF h) ?_
      refine bindS (ownBase_p hx) ?_
      refine bindS (stand_p (es := es) (m := es.length) rfl (Nat.le_refl _) he) ?_
      rw [if_neg (fun hh => h (by rw [← ht]; exact hh.2)), List.drop_length]
  · refine bindS (place_out (i := x.index) (b := b) (es := es) hb he (by omega)) ?_
    refine condF rfl ?_
    refine bindS (ownBase_p hx) ?_
    refine bindS (stand_p (es := es) (m := es.length) rfl (Nat.le_refl _) he) ?_
    rw [if_neg (fun hh => hin hh.1), List.drop_length]
end
/-- The end of the law. -/
noncomputable def lcTail (x0 : DBase) (x1 : List DEntry) (x3 : Int) (L : LS) : Option (Bool × Unit) :=
  (watershedkit_Pick x3 (IntKind.i64.wrap ((x1.length : Int) + 3))).bind fun r19 =>
  (log_Term (IntKind.i64.wrap ((IntKind.i64.wrap (x0.index + 1)) + r19.1)) (L.1, L.2.1, L.2.2.1, L.2.2.2.1, L.2.2.2.2.1, L.2.2.2.2.2.1, L.2.2.2.2.2.2.1, L.2.2.2.2.2.2.2.1, ())).bind fun r20 =>
  (watershedkit_Pick x3 2).bind fun r21 =>
  (log_Install (⟨(IntKind.i64.wrap ((IntKind.i64.wrap (x0.index + 1)) + r19.1)), (IntKind.i64.wrap (r20.1.1 + r21.1)), (⟨[], [], [], []⟩ : DConfig)⟩ : DBase) (r20.2.1.1, r20.2.1.2.1, r20.2.1.2.2.1, r20.2.1.2.2.2.1, r20.2.1.2.2.2.2.1, r20.2.1.2.2.2.2.2.1, r20.2.1.2.2.2.2.2.2.1, r20.2.1.2.2.2.2.2.2.2.1, ())).bind fun r22 =>
  (bif (!r22.1) then
  some (false, ())
  else
  (bif r20.1.2.1 then
  (watershedkit_Pick x3 2).bind fun r23 =>
  (bif (decide ((r23.1 : Int) = 0)) then
  (log_Last (r22.2.1.1, r22.2.1.2.1, r22.2.1.2.2.1, r22.2.1.2.2.2.1, r22.2.1.2.2.2.2.1, r22.2.1.2.2.2.2.2.1, r22.2.1.2.2.2.2.2.2.1, r22.2.1.2.2.2.2.2.2.2.1, ())).bind fun r24 =>
  let y25 : Bool := (decide ((r24.1 : Int) = (IntKind.i64.wrap (x0.index + (x1.length : Int)))))
  some (y25, ())
  else
  (log_Last (r22.2.1.1, r22.2.1.2.1, r22.2.1.2.2.1, r22.2.1.2.2.2.1, r22.2.1.2.2.2.2.1, r22.2.1.2.2.2.2.2.1, r22.2.1.2.2.2.2.2.2.1, r22.2.1.2.2.2.2.2.2.2.1, ())).bind fun r26 =>
  (bif (decide ((r26.1 : Int) = (IntKind.i64.wrap ((IntKind.i64.wrap (x0.index + 1)) + r19.1)))) then
  (log_Base (r26.2.1.1, r26.2.1.2.1, r26.2.1.2.2.1, r26.2.1.2.2.2.1, r26.2.1.2.2.2.2.1, r26.2.1.2.2.2.2.2.1, r26.2.1.2.2.2.2.2.2.1, r26.2.1.2.2.2.2.2.2.2.1, ())).bind fun r27 =>
  let y28 : Bool := (decide ((r27.1.index : Int) = (IntKind.i64.wrap ((IntKind.i64.wrap (x0.index + 1)) + r19.1))))
  some (y28, ())
  else
  some (false, ())))
  else
  (log_Last (r22.2.1.1, r22.2.1.2.1, r22.2.1.2.2.1, r22.2.1.2.2.2.1, r22.2.1.2.2.2.2.1, r22.2.1.2.2.2.2.2.1, r22.2.1.2.2.2.2.2.2.1, r22.2.1.2.2.2.2.2.2.2.1, ())).bind fun r29 =>
  (bif (decide ((r29.1 : Int) = (IntKind.i64.wrap ((IntKind.i64.wrap (x0.index + 1)) + r19.1)))) then
  (log_Base (r29.2.1.1, r29.2.1.2.1, r29.2.1.2.2.1, r29.2.1.2.2.2.1, r29.2.1.2.2.2.2.1, r29.2.1.2.2.2.2.2.1, r29.2.1.2.2.2.2.2.2.1, r29.2.1.2.2.2.2.2.2.2.1, ())).bind fun r30 =>
  let y31 : Bool := (decide ((r30.1.index : Int) = (IntKind.i64.wrap ((IntKind.i64.wrap (x0.index + 1)) + r19.1))))
  some (y31, ())
  else
  some (false, ()))))
theorem wrap_ne {t : Int} (h : -9223372036854775808 ≤ t ∧ t ≤ 9223372036854775807) : IntKind.i64.wrap (t + 1) ≠ t := by
  by_cases hm : t = 9223372036854775807
  · subst hm; decide
  · rw [w64 (by omega)]; omega
theorem tail_p {b t : Int} {v o n w : List Int} {x0 : DBase} {es : List DEntry} {x3 : Int} (h0 : x0.index = b) (hb : 0 ≤ b ∧ b ≤ 2000000000) (he : es.length ≤ 10000) (h3 : -9223372036854775808 ≤ x3 ∧ x3 ≤ 9223372036854775807) (ht : ∀ e ∈ es, -9223372036854775808 ≤ e.term_ ∧ e.term_ ≤ 9223372036854775807) :
    lcTail x0 es x3 (b, t, v, o, n, w, true, es, ()) = some (true, ()) := by
  have hb' : 0 ≤ b ∧ b ≤ 4000000000 := by omega
  have ok0 : OkC ⟨[], [], [], []⟩ := ⟨by simp [OkI], by simp [OkI], by simp [OkI], by simp [OkI]⟩
  obtain ⟨r, hr, r1, r2⟩ := Pick_p (N := (es.length : Int) + 3) h3 (by omega)
  obtain ⟨q, hq, q1, q2⟩ := Pick_p (N := 2) h3 (by omega)
  unfold lcTail
  rw [w64 (n := (es.length : Int) + 3) (by omega)]
  refine bindS hr ?_
  obtain ⟨k, rfl⟩ : ∃ k : Nat, r = k := ⟨r.toNat, by omega⟩
  dsimp only
  rw [h0, w64 (n := b + 1) (by omega), w64 (n := b + 1 + (k : Int)) (by omega)]
  by_cases hin : k < es.length
  · refine bindS (Term_at (i := b + 1 + (k : Int)) (b := b) (es := es) (m := k + 1) hb' (by omega) (by omega) (by omega)) ?_
    refine bindS hq ?_
    have htm : termAt t es (k + 1) = es[k].term_ := termAt_succ hin
    refine bindS (Install_p (x := ⟨b + 1 + (k : Int), IntKind.i64.wrap (termAt t es (k + 1) + q), ⟨[], [], [], []⟩⟩) (k := k) (b := b) (es := es) hb' (by omega) ok0 rfl (by omega)) ?_
    refine condF rfl ?_
    refine condT rfl ?_
    refine bindS hq ?_
    have hw := ht _ (List.getElem_mem hin)
    by_cases hz : q = 0
    · subst hz
      refine condT (dT rfl) ?_
      have h1 : IntKind.i64.wrap (termAt t es (k + 1) + 0) = termAt t es (k + 1) := by rw [Int.add_zero, htm, w64 hw]
      rw [h1, if_pos ⟨hin, rfl⟩]
      refine bindS (Last_p (b := b + 1 + (k : Int)) (es := es.drop (k + 1)) (by omega) (by simp; omega)) ?_
      dsimp only
      rw [w64 (by omega), dT (by simp; omega)]
    · obtain rfl : q = 1 := by omega
      refine condF (dF (by decide)) ?_
      have h1 : ¬ (k < es.length ∧ termAt t es (k + 1) = IntKind.i64.wrap (termAt t es (k + 1) + 1)) := fun hh => by
        rw [htm] at hh
        exact wrap_ne hw hh.2.symm
      dsimp only
      rw [if_neg h1]
      refine bindS (Last_p (b := b + 1 + (k : Int)) (es := []) (by omega) (by simp)) ?_
      refine condT (dT (by simp)) ?_
      refine bindS (Base_p ok0) ?_
      dsimp only
      rw [dT rfl]
  · refine bindS (Term_out (i := b + 1 + (k : Int)) (b := b) (es := es) hb' (by omega) (by omega)) ?_
    refine bindS hq ?_
    refine bindS (Install_p (x := ⟨b + 1 + (k : Int), IntKind.i64.wrap (0 + q), ⟨[], [], [], []⟩⟩) (k := k) (b := b) (es := es) hb' (by omega) ok0 rfl (by omega)) ?_
    refine condF rfl ?_
    refine condF rfl ?_
    rw [if_neg (fun hh => hin hh.1)]
    refine bindS (Last_p (b := b + 1 + (k : Int)) (es := []) (by omega) (by simp)) ?_
    refine condT (dT (by simp)) ?_
    refine bindS (Base_p ok0) ?_
    dsimp only
    rw [dT rfl]
section
variable {b t : Int} {v o n w : List Int} {es : List DEntry}
theorem lcLoop_p {x0 : DBase} {x1 : List DEntry} {x3 i : Int} {m : Nat} {c : DConfig} (hb : 0 ≤ b ∧ b ≤ 2000000000) (he : es.length ≤ 10000) (hs : OkEs es) (hi : i = b + m) (hm : m ≤ es.length) (hc : OkC c) :
    loopM watershedlaw10_LogCompact_l1 ((x1, x3, (), (), (), i, ()), (x0, (i, termAt t es m, c.voters, c.old, c.learners, c.want, true, es.drop m, ()), (b, t, v, o, n, w, true, es, ()), (), (), ())) =
      some (.inr ((x1, x3, (), (), ()), (x0, (i, termAt t es m, c.voters, c.old, c.learners, c.want, true, es.drop m, ()), (b, t, v, o, n, w, true, es, ()), (), (), (), (), ()))) := by
  subst hi
  have hb' : 0 ≤ b ∧ b ≤ 4000000000 := by omega
  have hdl : (es.drop m).length = es.length - m := by simp
  have hsd : OkEs (es.drop m) := fun e he => hs e (List.mem_of_mem_drop he)
  have key : ∀ j : Nat, j < es.length - m + 1 → watershedlaw10_LogCompact_l1 ((x1, x3, (), (), (), b + (m : Int) + (j : Int), ()), (x0, (b + (m : Int), termAt t es m, c.voters, c.old, c.learners, c.want, true, es.drop m, ()), (b, t, v, o, n, w, true, es, ()), (), (), ())) =
      some (.inl ((x1, x3, (), (), (), b + (m : Int) + ((j + 1 : Nat) : Int), ()), (x0, (b + (m : Int), termAt t es m, c.voters, c.old, c.learners, c.want, true, es.drop m, ()), (b, t, v, o, n, w, true, es, ()), (), (), ()))) := fun j hj => by
    have hterm : termAt (termAt t es m) (es.drop m) j = termAt t es (m + j) := by
      cases j with
      | zero => rfl
      | succ k =>
        show (match (es.drop m)[k]? with | some e => e.term_ | none => 0) = (match es[m + k]? with | some e => e.term_ | none => 0)
        rw [List.getElem?_drop]
    unfold watershedlaw10_LogCompact_l1
    refine bindS (Last_p (b := b + (m : Int)) (es := es.drop m) (by omega) (by omega)) ?_
    refine condT (dT (by dsimp only; omega)) ?_
    refine bindS (Term_at (i := b + (m : Int) + (j : Int)) (b := b + (m : Int)) (es := es.drop m) (m := j) (by omega) (by omega) rfl (by omega)) ?_
    refine bindS (Term_at (i := b + (m : Int) + (j : Int)) (b := b) (es := es) (m := m + j) hb' (by omega) (by omega) (by omega)) ?_
    have nx : IntKind.i64.wrap (b + (m : Int) + (j : Int) + 1) = b + (m : Int) + ((j + 1 : Nat) : Int) := by rw [w64 (by omega)]; omega
    cases j with
    | zero =>
      obtain ⟨y, hy⟩ : ∃ y, log_At (b + (m : Int) + ((0 : Nat) : Int)) (b, t, v, o, n, w, true, es, ()) = some (y, ((b, t, v, o, n, w, true, es, ()), (), (), ())) := by
        cases m with
        | zero => exact ⟨_, At_out (es := es) (b := b) hb' (by omega) (by omega)⟩
        | succ p => exact ⟨_, At_in (es := es) (b := b) (k := p) hb' (by omega) hs (by omega) (by omega)⟩
      refine bindS (At_out (i := b + (m : Int) + ((0 : Nat) : Int)) (b := b + (m : Int)) (es := es.drop m) (by omega) (by omega) (by omega)) ?_
      refine bindS hy ?_
      refine condF (dF (by dsimp only; rw [hterm]; simp)) ?_
      refine condF (dF (by simp)) ?_
      refine bindS (Base_p hc) ?_
      refine condF (dF (by dsimp only; omega)) ?_
      dsimp only
      rw [nx]
    | succ k =>
      have g1 : k < (es.drop m).length := by omega
      have g2 : m + k < es.length := by omega
      refine bindS (At_in (i := b + (m : Int) + ((k + 1 : Nat) : Int)) (b := b + (m : Int)) (es := es.drop m) (k := k) (by omega) (by omega) hsd (by omega) g1) ?_
      refine bindS (At_in (i := b + (m : Int) + ((k + 1 : Nat) : Int)) (b := b) (es := es) (k := m + k) hb' (by omega) hs (by omega) g2) ?_
      refine condF (dF (by dsimp only; rw [hterm]; simp)) ?_
      refine condF (dF (by simp)) ?_
      refine bindS (Base_p hc) ?_
      refine condT (dT (by dsimp only; omega)) ?_
      refine bindS (v := (true, ())) (by
        show watershedkit_SameEntry (es.drop m)[k] es[m + k] = _
        rw [List.getElem_drop]
        exact SameEntry_self _ (hs _ (List.getElem_mem g2))) ?_
      refine condF rfl ?_
      dsimp only
      rw [nx]
  have := loopM_run (step := watershedlaw10_LogCompact_l1) (fun j : Nat => ((x1, x3, (), (), (), b + (m : Int) + (j : Int), ()), (x0, (b + (m : Int), termAt t es m, c.voters, c.old, c.learners, c.want, true, es.drop m, ()), (b, t, v, o, n, w, true, es, ()), (), (), ()))) (N := es.length - m + 1)
    (b := .inr ((x1, x3, (), (), ()), (x0, (b + (m : Int), termAt t es m, c.voters, c.old, c.learners, c.want, true, es.drop m, ()), (b, t, v, o, n, w, true, es, ()), (), (), (), (), ()))) key (by
      unfold watershedlaw10_LogCompact_l1
      refine bindS (Last_p (b := b + (m : Int)) (es := es.drop m) (by omega) (by omega)) ?_
      exact condF (dF (by dsimp only; omega)) rfl)
  simpa using this
end
theorem LogCompact_p (x0 : DBase) (x1 : List DEntry) (x2 x3 : Int) (k0 : ok_DBase x0) (k1 : ok_LDEntry x1) (k2 : ok_Ii64 x2) (k3 : ok_Ii64 x3) : watershedlaw10_LogCompact x0 x1 x2 x3 = some (true, ()) := by
  unfold watershedlaw10_LogCompact
  refine bindS awake_p ?_
  refine condF rfl ?_
  have hk0 : InK .i64 0 := by unfold InK; rfl
  have i2 := InK.i64 k2
  have i3 := InK.i64 k3
  rcases great_p [⟨0, x2, x1, x0⟩] (fun x hx => by
    rw [List.mem_singleton.1 hx]
    exact ⟨hk0, k2, k1, k0, trivial⟩) (by simp) with hg | ⟨hg, hA⟩
  · exact bindS hg (condT rfl rfl)
  refine bindS hg ?_
  refine condF rfl ?_
  obtain ⟨g1, g2, g3, g4, g5⟩ := hA _ (List.mem_cons_self)
  dsimp only at g1 g2 g3 g4 g5
  by_cases hi : x0.index < 0
  · exact condT (dT hi) rfl
  refine condF (dF hi) ?_
  by_cases ht : x0.term_ < 0
  · exact condT (dT ht) rfl
  refine condF (dF ht) ?_
  by_cases hf : 200 < x3
  · exact condT (dT hf) rfl
  refine condF (dF hf) ?_
  have hterms : ∀ e ∈ x1, -9223372036854775808 ≤ e.term_ ∧ e.term_ ≤ 9223372036854775807 := fun e he => InK.i64 (k1.2 e he).1
  obtain ⟨b, t, v, o, n, w⟩ := x0
  dsimp only at *
  have hb : 0 ≤ b ∧ b ≤ 2000000000 := by omega
  have hb' : 0 ≤ b ∧ b ≤ 4000000000 := by omega
  refine bindS (New_p g5 (by dsimp only; omega) (by dsimp only; omega)) ?_
  refine bindS (New_p g5 (by dsimp only; omega) (by dsimp only; omega)) ?_
  have hput : log_Put x1 (b, t, v, o, n, w, true, [], ()) = some (b + x1.length, ((b, t, v, o, n, w, true, x1, ()), (), (), ())) := by
    rw [Put_p g2 hb' (by simp; omega)]
    simp
  refine bindS hput ?_
  refine bindS hput ?_
  obtain ⟨j, hcfg⟩ := Config_p (b := b) (t := t) (v := v) (o := o) (n := n) (w := w) (es := x1) hb' (by omega) g2 g5
  have ok1 : OkC (forceF ⟨v, o, n, w⟩ x1) := forceF_ok g5 g2
  have same1 : watershedkit_SameConfig (forceF ⟨v, o, n, w⟩ x1) (forceF ⟨v, o, n, w⟩ x1) = some (true, ()) := by rw [SameConfig_p _ _ ok1 ok1, dT rfl]
  by_cases hin : b ≤ x2 ∧ x2 ≤ b + x1.length
  · obtain ⟨m, hm⟩ : ∃ m : Nat, x2 = b + m := ⟨(x2 - b).toNat, by omega⟩
    have hml : m ≤ x1.length := by omega
    obtain ⟨c, hc, hC⟩ := Compact_in (t := t) hb' (by omega) g2 g5 hm hml
    have okc : OkC c := by rw [hc]; exact forceF_ok g5 (fun e he => g2 e (List.mem_of_mem_take he))
    have hdl : (x1.drop m).length = x1.length - m := by simp
    have hsd : OkEs (x1.drop m) := fun e he => g2 e (List.mem_of_mem_drop he)
    obtain ⟨j2, hcfg2⟩ := Config_p (b := x2) (t := termAt t x1 m) (v := c.voters) (o := c.old) (n := c.learners) (w := c.want) (es := x1.drop m) (by omega) (by omega) hsd okc
    have hff : forceF ⟨c.voters, c.old, c.learners, c.want⟩ (x1.drop m) = forceF ⟨v, o, n, w⟩ x1 := by
      show forceF c _ = _
      rw [hc, ← forceF_app, List.take_append_drop]
    rw [hff] at hcfg2
    refine bindS hC ?_
    refine condT (dT hin.1) ?_
    refine bindS (Last_p (b := b) (es := x1) hb' (by omega)) ?_
    refine condF (dF (by dsimp only; rw [dT hin.2]; simp)) ?_
    refine bindS hcfg2 ?_
    refine bindS hcfg ?_
    refine bindS (Last_p (b := x2) (es := x1.drop m) (by omega) (by omega)) ?_
    refine bindS (Last_p (b := b) (es := x1) hb' (by omega)) ?_
    refine condF (dF (by dsimp only; omega)) ?_
    refine bindS same1 ?_
    refine condF rfl ?_
    refine condT rfl ?_
    refine bindS (Base_p okc) ?_
    refine condF (dF (by simp)) ?_
    refine bindS (Base_p okc) ?_
    refine bindS (lcLoop_p (c := c) (es := x1) (b := b) hb (by omega) g2 hm hml okc) ?_
    exact tail_p (x0 := ⟨b, t, ⟨v, o, n, w⟩⟩) (es := x1) rfl hb (by omega) i3 hterms
  · have hC : log_Compact x2 (b, t, v, o, n, w, true, x1, ()) = some (false, ((b, t, v, o, n, w, true, x1, ()), (), (), ())) := Compact_out hb' (by omega) (by omega)
    have hL := lcLoop_p (x0 := ⟨b, t, ⟨v, o, n, w⟩⟩) (x1 := x1) (x3 := x3) (t := t) (v := v) (o := o) (n := n) (w := w) (i := b) (m := 0) (c := ⟨v, o, n, w⟩) (es := x1) (b := b) hb (by omega) g2 (by omega) (by omega) g5
    refine bindS hC ?_
    by_cases h1 : b ≤ x2
    · refine condT (dT h1) ?_
      refine bindS (Last_p (b := b) (es := x1) hb' (by omega)) ?_
      refine condF (dF (by dsimp only; rw [dF (by omega)]; simp)) ?_
      refine bindS hcfg ?_
      refine bindS hcfg ?_
      refine bindS (Last_p (b := b) (es := x1) hb' (by omega)) ?_
      refine bindS (Last_p (b := b) (es := x1) hb' (by omega)) ?_
      refine condF (dF (by simp)) ?_
      refine bindS same1 ?_
      refine condF rfl ?_
      refine condF rfl ?_
      refine bindS (Base_p g5) ?_
      refine bindS hL ?_
      exact tail_p (x0 := ⟨b, t, ⟨v, o, n, w⟩⟩) (es := x1) rfl hb (by omega) i3 hterms
    · refine condF (dF h1) ?_
      refine condF (dF (by simp)) ?_
      refine bindS hcfg ?_
      refine bindS hcfg ?_
      refine bindS (Last_p (b := b) (es := x1) hb' (by omega)) ?_
      refine bindS (Last_p (b := b) (es := x1) hb' (by omega)) ?_
      refine condF (dF (by simp)) ?_
      refine bindS same1 ?_
      refine condF rfl ?_
      refine condF rfl ?_
      refine bindS (Base_p g5) ?_
      refine bindS hL ?_
      exact tail_p (x0 := ⟨b, t, ⟨v, o, n, w⟩⟩) (es := x1) rfl hb (by omega) i3 hterms
end Go.Proofs.Ytlkphbhmfoehpaa
