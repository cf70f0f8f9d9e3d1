/- The log, plainly: what its functions do. -/
import Derived.Test.YtlkphbhmfoehpaaG1
import Derived.Test.YtlkphbhmfoehpaaPl
namespace Go.Proofs.Ytlkphbhmfoehpaa
open Go.RowKit
set_option maxRecDepth 100000
set_option linter.unusedVariables false
set_option linter.unusedSimpArgs false
/-- Sizes that are never a matter. -/
def OkI (x : List Int) : Prop := x.length ≤ 1000
def OkC (c : DConfig) : Prop := OkI c.voters ∧ OkI c.old ∧ OkI c.learners ∧ OkI c.want
def OkE (e : DEntry) : Prop := e.command.length ≤ 140737488355328 ∧ OkC e.config
def OkEs (l : List DEntry) : Prop := ∀ e ∈ l, OkE e
theorem clone60_p {x : List Int} (h : OkI x) : clone60 x = some (x, ((), ())) := by unfold OkI at h; unfold clone60; rw [if_pos (by omega)]
theorem clone42_p {x : List UInt8} (h : x.length ≤ 140737488355328) : clone42 x = some (x, ((), ())) := by unfold clone42; rw [if_pos (by omega)]
theorem clone31_p {x : List DEntry} (h : x.length ≤ 100000) : clone31 x = some (x, ((), ())) := by unfold clone31; rw [if_pos (by omega)]
theorem ownConfig_p {c : DConfig} (h : OkC c) : log_ownConfig c = some (c, ()) := by
  obtain ⟨h1, h2, h3, h4⟩ := h
  unfold log_ownConfig
  rw [clone60_p h1, clone60_p h2, clone60_p h3, clone60_p h4]
  rfl
theorem ownBase_p {c : DBase} (h : OkC c.config) : log_ownBase c = some (c, ()) := by
  unfold log_ownBase
  rw [ownConfig_p h]
  rfl
theorem own_p {l : List DEntry} (h : OkEs l) (hl : l.length ≤ 100000) : log_own l = some (l, ((), ())) := by
  have key : loopM log_own_l1 (([], l, (l.length : Int), 0, ()), ((), ())) = some ((l, ()), ((), (), ())) := by
    refine loopM_run (fun i => ((l.take i, l, (l.length : Int), (i : Int), ()), ((), ()))) (N := l.length) (fun i hi => ?_) ?_
    · obtain ⟨c1, c2⟩ := h _ (List.getElem_mem hi)
      unfold log_own_l1
      dsimp only
      rw [dT (by omega), cond_true, getI_lt hi, Option.bind_some, clone42_p c1, Option.bind_some, ownConfig_p c2, Option.bind_some]
      rw [if_pos (by simp; omega), w64 (by omega), List.take_succ_eq_append_getElem hi]
      rfl
    · unfold log_own_l1
      dsimp only
      rw [dF (by omega), cond_false, List.take_length]
  unfold log_own
  rw [key]
  rfl
section
variable {b t : Int} {v o n w : List Int} {es : List DEntry}
abbrev LS := Int × Int × List Int × List Int × List Int × List Int × Bool × List DEntry × Unit
theorem Last_p (hb : 0 ≤ b ∧ b ≤ 4000000000) (he : es.length ≤ 100000) : log_Last (b, t, v, o, n, w, true, es, ()) = some (b + es.length, ((b, t, v, o, n, w, true, es, ()), (), (), ())) := by
  show some (IntKind.i64.wrap (b + (es.length : Int)), _) = _
  rw [w64 (by omega)]
theorem Put_p {x : List DEntry} (hx : OkEs x) (hb : 0 ≤ b ∧ b ≤ 4000000000) (he : es.length + x.length ≤ 100000) : log_Put x (b, t, v, o, n, w, true, es, ()) = some (b + es.length + x.length, ((b, t, v, o, n, w, true, es ++ x, ()), (), (), ())) := by
  unfold log_Put
  refine bindS rfl ?_
  refine condT rfl ?_
  rw [own_p hx (by omega)]
  refine bindS rfl ?_
  refine iteT (by dsimp only; omega) ?_
  refine bindS (Last_p hb (by simp; omega)) ?_
  simp [Int.add_assoc]
theorem place_in {i : Int} (hb : 0 ≤ b ∧ b ≤ 4000000000) (he : es.length ≤ 100000) (h1 : b < i) (h2 : i ≤ b + es.length) : log_place i (b, t, v, o, n, w, true, es, ()) = some ((i - b - 1, true, ()), ((b, t, v, o, n, w, true, es, ()), (), (), ())) := by
  unfold log_place
  refine bindS rfl ?_
  refine condF rfl ?_
  refine condF (dF (by dsimp only; omega)) ?_
  refine bindS (Last_p hb he) ?_
  refine condF (dF (by dsimp only; omega)) ?_
  dsimp only
  rw [w64 (n := i - b) (by omega), w64 (by omega)]
theorem place_out {i : Int} (hb : 0 ≤ b ∧ b ≤ 4000000000) (he : es.length ≤ 100000) (h : i ≤ b ∨ b + es.length < i) : log_place i (b, t, v, o, n, w, true, es, ()) = some ((0, false, ()), ((b, t, v, o, n, w, true, es, ()), (), (), ())) := by
  unfold log_place
  refine bindS rfl ?_
  refine condF rfl ?_
  by_cases h1 : i ≤ b
  · exact condT (dT h1) rfl
  · refine condF (dF (by dsimp only; omega)) ?_
    refine bindS (Last_p hb he) ?_
    exact condT (dT (by dsimp only; omega)) rfl
theorem Term_in {i : Int} {k : Nat} (hb : 0 ≤ b ∧ b ≤ 4000000000) (he : es.length ≤ 100000) (hi : i = b + 1 + k) (hk : k < es.length) : log_Term i (b, t, v, o, n, w, true, es, ()) = some ((es[k].term_, true, ()), ((b, t, v, o, n, w, true, es, ()), (), (), ())) := by
  unfold log_Term
  refine bindS (place_in (i := i) (b := b) (es := es) hb he (by omega) (by omega)) ?_
  refine condT rfl ?_
  dsimp only
  rw [show i - b - 1 = (k : Int) from by omega, getI_lt hk]
  rfl
theorem Term_base {i : Int} (hi : i = b) (hb : 0 ≤ b ∧ b ≤ 4000000000) (he : es.length ≤ 100000) : log_Term i (b, t, v, o, n, w, true, es, ()) = some ((t, true, ()), ((b, t, v, o, n, w, true, es, ()), (), (), ())) := by
  unfold log_Term
  refine bindS (place_out (i := i) (b := b) (es := es) hb he (by omega)) ?_
  refine condF rfl ?_
  refine bindS rfl ?_
  refine condT rfl ?_
  exact condT (dT hi) rfl
theorem Term_out {i : Int} (hb : 0 ≤ b ∧ b ≤ 4000000000) (he : es.length ≤ 100000) (h : i < b ∨ b + es.length < i) : log_Term i (b, t, v, o, n, w, true, es, ()) = some ((0, false, ()), ((b, t, v, o, n, w, true, es, ()), (), (), ())) := by
  unfold log_Term
  refine bindS (place_out (i := i) (b := b) (es := es) hb he (by omega)) ?_
  refine condF rfl ?_
  refine bindS rfl ?_
  refine condT rfl ?_
  exact condF (dF (by dsimp only; omega)) rfl
/-- Where a row first differs from what stands there, from a place on. -/
def Alike (es row : List DEntry) (p k : Nat) : Prop := k ≤ row.length ∧ p + k ≤ es.length ∧ ∀ j, j < k → ∃ (h1 : p + j < es.length) (h2 : j < row.length), es[p+j].term_ = row[j].term_
/-- What Take does. -/
theorem Take_in {row : List DEntry} {i : Int} {p : Nat} (hb : 0 ≤ b ∧ b ≤ 4000000000) (he : es.length ≤ 10000) (hr : row.length ≤ 10000) (hok : OkEs row) (hi : i = b + 1 + p) (hp : p ≤ es.length) :
    (Alike es row p row.length ∧ log_Take i row (b, t, v, o, n, w, true, es, ()) = some ((0, true, ()), ((b, t, v, o, n, w, true, es, ()), (), (), ()))) ∨
    ∃ k, k < row.length ∧ Alike es row p k ∧ ¬ Alike es row p (k + 1) ∧ log_Take i row (b, t, v, o, n, w, true, es, ()) = some ((i + k, true, ()), ((b, t, v, o, n, w, true, es.take (p + k) ++ row.drop k, ()), (), (), ())) := by
  have key : ∃ z, loopM log_Take_l1 (((), i, row, row, (row.length : Int), 0, ()), ((b, t, v, o, n, w, true, es, ()), (), ())) = some z ∧
      ((Alike es row p row.length ∧ z = .inr ((), ((b, t, v, o, n, w, true, es, ()), (), (), ()))) ∨
       ∃ k : Nat, k < row.length ∧ Alike es row p k ∧ ¬ Alike es row p (k + 1) ∧ z = .inl ((i + k, true, ()), ((b, t, v, o, n, w, true, es.take (p + k) ++ row.drop k, ()), (), (), ()))) := by
    refine loopM_spec (fun m a => ∃ k : Nat, a = (((), i, row, row, (row.length : Int), (k : Int), ()), ((b, t, v, o, n, w, true, es, ()), (), ())) ∧ Alike es row p k ∧ m = row.length - k) _ ?_ (n := row.length) ⟨0, rfl, ⟨by omega, by omega, fun j hj => absurd hj (Nat.not_lt_zero j)⟩, rfl⟩
    rintro m a ⟨k, rfl, hA, rfl⟩
    have hA' := hA
    obtain ⟨a1, a2, a3⟩ := hA
    by_cases hk : k < row.length
    · have put : ∀ c, (p + k = es.length ∨ ∃ h : p + k < es.length, es[p+k].term_ ≠ row[k].term_) → c = i + (k : Int) →
          ((if (0 : Int) ≤ (0 : Int) ∧ (0 : Int) ≤ (IntKind.i64.wrap ((IntKind.i64.wrap (c - b)) - 1)) ∧ (IntKind.i64.wrap ((IntKind.i64.wrap (c - b)) - 1)) ≤ (es.length : Int) then
            let y3 : List (DEntry) := ((es.drop ((0 : Int) : Int).toNat).take (((IntKind.i64.wrap ((IntKind.i64.wrap (c - b)) - 1)) : Int).toNat - ((0 : Int) : Int).toNat))
            (clone31 y3).bind fun r4 =>
            (if 0 ≤ (k : Int) ∧ (k : Int) ≤ (row.length : Int) ∧ (row.length : Int) ≤ (row.length : Int) then
            let y5 : List (DEntry) := ((row.drop (k : Int).toNat).take (((row.length : Int) : Int).toNat - (k : Int).toNat))
            (log_Put y5 (b, t, v, o, n, w, true, r4.1, ())).bind fun r6 =>
            some (.inr (.inl ((c, true, ()), ((r6.2.1.1, r6.2.1.2.1, r6.2.1.2.2.1, r6.2.1.2.2.2.1, r6.2.1.2.2.2.2.1, r6.2.1.2.2.2.2.2.1, r6.2.1.2.2.2.2.2.2.1, r6.2.1.2.2.2.2.2.2.2.1, ()), (), (), ()))))
            else none)
            else none : Option ((((Unit) × (Int) × (List (DEntry)) × (List (DEntry)) × (Int) × (Int) × Unit) × (LS × (Unit) × Unit)) ⊕ ((((Int) × (Bool) × Unit) × (LS × (Unit) × (Unit) × Unit)) ⊕ ((Unit) × (LS × (Unit) × (Unit) × Unit)))))
            = some (.inr (.inl ((i + (k : Int), true, ()), ((b, t, v, o, n, w, true, es.take (p + k) ++ row.drop k, ()), (), (), ()))))) := fun c hd hc => by
        rw [w64 (n := c - b) (by omega), w64 (by omega), show c - b - 1 = ((p + k : Nat) : Int) from by omega, if_pos (by omega)]
        dsimp only
        rw [clone31_p (by simp; omega), Option.bind_some, if_pos (by omega)]
        have e1 : (es.drop (0 : Int).toNat).take (((p + k : Nat) : Int).toNat - (0 : Int).toNat) = es.take (p + k) := by
          show es.take (((p + k : Nat) : Int).toNat - 0) = _
          rw [Int.toNat_natCast, Nat.sub_zero]
        have e2 : (row.drop (k : Int).toNat).take ((row.length : Int).toNat - (k : Int).toNat) = row.drop k := by
          rw [Int.toNat_natCast, Int.toNat_natCast, List.take_of_length_le (by simp)]
        rw [e1, e2]
        refine bindS (Put_p (fun e h => hok e (List.mem_of_mem_drop h)) hb (by simp; omega)) ?_
        rw [hc]
      unfold log_Take_l1
      dsimp only
      rw [dT (by omega), cond_true, getI_lt hk, Option.bind_some, w64 (n := i + (k : Int)) (by omega)]
      by_cases hin : p + k < es.length
      · rw [Term_in (k := p + k) hb (by omega) (by omega) hin, Option.bind_some]
        dsimp only
        rw [cond_true]
        by_cases ht : es[p+k].term_ = row[k].term_
        · left
          rw [dT ht, cond_true, w64 (by omega)]
          exact ⟨row.length - (k + 1), _, by omega, rfl, k + 1, rfl, ⟨by omega, by omega, fun j hj => by
            by_cases hjk : j = k
            · subst hjk; exact ⟨hin, hk, ht⟩
            · exact a3 j (by omega)⟩, rfl⟩
        · right
          rw [dF ht, cond_false]
          exact ⟨_, put _ (.inr ⟨hin, ht⟩) rfl, .inr ⟨k, hk, hA', fun hh => ht (hh.2.2 k (by omega)).2.2, rfl⟩⟩
      · right
        by_cases hbase : i + (k : Int) = b
        · omega
        rw [Term_out hb (by omega) (by omega), Option.bind_some]
        dsimp only
        rw [cond_false]
        exact ⟨_, put _ (.inl (by omega)) rfl, .inr ⟨k, hk, hA', fun hh => hin (hh.2.2 k (by omega)).1, rfl⟩⟩
    · right
      obtain rfl : k = row.length := by omega
      unfold log_Take_l1
      dsimp only
      rw [dF (by omega), cond_false]
      exact ⟨_, rfl, .inl ⟨hA', rfl⟩⟩
  obtain ⟨z, hz, hq⟩ := key
  have hT : log_Take i row (b, t, v, o, n, w, true, es, ()) = (match z with
      | .inl b4 => some ((b4.1.1, b4.1.2.1, ()), ((b4.2.1.1, b4.2.1.2.1, b4.2.1.2.2.1, b4.2.1.2.2.2.1, b4.2.1.2.2.2.2.1, b4.2.1.2.2.2.2.2.1, b4.2.1.2.2.2.2.2.2.1, b4.2.1.2.2.2.2.2.2.2.1, ()), (), (), ()))
      | .inr b5 => some ((0, true, ()), ((b5.2.1.1, b5.2.1.2.1, b5.2.1.2.2.1, b5.2.1.2.2.2.1, b5.2.1.2.2.2.2.1, b5.2.1.2.2.2.2.2.1, b5.2.1.2.2.2.2.2.2.1, b5.2.1.2.2.2.2.2.2.2.1, ()), (), (), ()))) := by
    unfold log_Take
    refine bindS rfl ?_
    refine condF rfl ?_
    refine condF (dF (by dsimp only; omega)) ?_
    refine bindS (Last_p (es := es) hb (by omega)) ?_
    refine condF (dF (by dsimp only; rw [w64 (by omega)]; omega)) ?_
    refine bindS hz ?_
    cases z <;> rfl
  rcases hq with ⟨h1, rfl⟩ | ⟨k, h1, h2, h3, rfl⟩
  · exact .inl ⟨h1, hT⟩
  · exact .inr ⟨k, h1, h2, h3, hT⟩
theorem Take_out {row : List DEntry} {i : Int} (hb : 0 ≤ b ∧ b ≤ 4000000000) (he : es.length ≤ 10000) (h : i ≤ b ∨ b + es.length + 1 < i) : log_Take i row (b, t, v, o, n, w, true, es, ()) = some ((0, false, ()), ((b, t, v, o, n, w, true, es, ()), (), (), ())) := by
  unfold log_Take
  refine bindS rfl ?_
  refine condF rfl ?_
  by_cases h1 : i ≤ b
  · exact condT (dT h1) rfl
  · refine condF (dF (by dsimp only; omega)) ?_
    refine bindS (Last_p (es := es) hb (by omega)) ?_
    exact condT (dT (by dsimp only; rw [w64 (by omega)]; omega)) rfl
end
theorem New_p {x : DBase} (h : OkC x.config) (hi : 0 ≤ x.index) (ht : 0 ≤ x.term_) : log_New x = some ((), ((x.index, x.term_, x.config.voters, x.config.old, x.config.learners, x.config.want, true, [], ()), (), ())) := by
  unfold log_New
  rw [ownBase_p h, Option.bind_some]
  dsimp only
  rw [if_neg (by omega), if_neg (by omega)]
-- same
theorem SameInts_p (x y : List Int) (hx : x.length ≤ 140737488355328) (hy : y.length ≤ 140737488355328) : watershedkit_SameInts x y = some (decide (x = y), ()) := by
  unfold watershedkit_SameInts
  by_cases hl : x.length = y.length
  · have hd : decide (((x.length : Int) : Int) ≠ (y.length : Int)) = false := by simp; omega
    rw [hd]
    rw [same_loop (step := watershedkit_SameInts_l1) x y (fun i => ((x, y, i, ()), ())) (.inl ((false, ()), ())) (.inr ((), ())) hl hx ?_ ?_]
    · by_cases he : x = y <;> simp [he]
    · intro i hi hj
      unfold watershedkit_SameInts_l1
      constructor <;> intro he <;> simp [getI_lt hi, getI_lt hj, he, hi, w64 (n := (i : Int) + 1) (by omega)]
    · unfold watershedkit_SameInts_l1
      simp
  · have hd : decide (((x.length : Int) : Int) ≠ (y.length : Int)) = true := by simp; omega
    have hne : x ≠ y := fun e => hl (by rw [e])
    rw [hd, decide_eq_false hne]
    rfl
theorem SameConfig_p (x y : DConfig) (hx : OkC x) (hy : OkC y) : watershedkit_SameConfig x y = some (decide (x = y), ()) := by
  obtain ⟨x1, x2, x3, x4⟩ := hx
  obtain ⟨y1, y2, y3, y4⟩ := hy
  unfold OkI at *
  unfold watershedkit_SameConfig
  rw [SameInts_p _ _ (by omega) (by omega), SameInts_p _ _ (by omega) (by omega), SameInts_p _ _ (by omega) (by omega), SameInts_p _ _ (by omega) (by omega)]
  obtain ⟨a, b, c, d⟩ := x
  obtain ⟨a', b', c', d'⟩ := y
  by_cases h1 : a = a' <;> by_cases h2 : b = b' <;> by_cases h3 : c = c' <;> by_cases h4 : d = d' <;> simp [h1, h2, h3, h4]
theorem ConfigOf_p (c : DConfig) (h : ok_DConfig c) : watershedkit_ConfigOf c = some ((1 + c.voters.length + c.old.length + c.learners.length + c.want.length : Int), ()) := by
  obtain ⟨⟨h1, _⟩, ⟨h2, _⟩, ⟨h3, _⟩, ⟨h4, _⟩, _⟩ := h
  unfold watershedkit_ConfigOf
  dsimp only
  rw [w64 (n := 1 + _) (by omega), w64 (n := 1 + (c.voters.length : Int) + _) (by omega), w64 (n := 1 + (c.voters.length : Int) + _ + _) (by omega), w64 (by omega)]
theorem EntriesOf_p (l : List DEntry) (h : ok_LDEntry l) : ∃ n : Int, watershedkit_EntriesOf l 400 = some (n, ()) ∧ (n ≤ 400 → l.length ≤ 400 ∧ OkEs l) := by
  obtain ⟨hl, hok⟩ := h
  have key : ∃ z, loopM watershedkit_EntriesOf_l1 ((l, 400, 0, 0, ()), ()) = some z ∧ (z.1.1 ≤ 400 → l.length ≤ 400 ∧ OkEs l) := by
    refine loopM_spec (fun m a => ∃ (i : Nat) (n : Int), a = ((l, 400, n, (i : Int), ()), ()) ∧ i ≤ l.length ∧ (i : Int) ≤ n ∧ n ≤ 1000000000000000 ∧ (n ≤ 400 → OkEs (l.take i)) ∧ m = l.length - i) _ ?_ (n := l.length) ⟨0, 0, rfl, by omega, by omega, by omega, fun _ e he => by simp at he, rfl⟩
    rintro m a ⟨i, n, rfl, h1, h2, h3, h4, rfl⟩
    unfold watershedkit_EntriesOf_l1
    dsimp only
    by_cases hi : i < l.length
    · rw [dT (by omega), cond_true]
      by_cases hn : n ≤ 400
      · left
        have he := hok _ (List.getElem_mem hi)
        obtain ⟨_, _, ⟨c1, _⟩, c2, _⟩ := he
        have hc2 := c2
        obtain ⟨⟨g1, _⟩, ⟨g2, _⟩, ⟨g3, _⟩, ⟨g4, _⟩, _⟩ := c2
        rw [dT hn, cond_true, getI_lt hi, Option.bind_some, Option.bind_some, ConfigOf_p _ hc2, Option.bind_some]
        have hd : (((l[i].command.length : Int)).tdiv 8) = ((l[i].command.length / 8 : Nat) : Int) := by
          rw [Int.tdiv_eq_ediv_of_nonneg (by omega)]; omega
        have hdl : l[i].command.length / 8 ≤ 140737488355328 := by omega
        refine ⟨l.length - (i + 1), _, by omega, rfl, i + 1, n + 1 + ((l[i].command.length / 8 : Nat) : Int) + (1 + l[i].config.voters.length + l[i].config.old.length + l[i].config.learners.length + l[i].config.want.length), ?_, by omega, by omega, by omega, fun hle e he => ?_, rfl⟩
        · dsimp only
          rw [hd, w64 (n := n + 1) (by omega), w64 (n := ((l[i].command.length / 8 : Nat) : Int)) (by omega), w64 (n := n + 1 + _) (by omega), w64 (by omega), w64 (by omega)]
          rfl
        · rw [List.take_succ_eq_append_getElem hi] at he
          rcases List.mem_append.1 he with he | he
          · exact h4 hn e he
          · rw [List.mem_singleton.1 he]
            refine ⟨c1, ?_, ?_, ?_, ?_⟩ <;> (unfold OkI; omega)
      · right
        rw [dF hn, cond_false]
        exact ⟨_, rfl, fun hle => absurd hle hn⟩
    · right
      obtain rfl : i = l.length := by omega
      rw [dF (by omega), cond_false]
      refine ⟨_, rfl, fun hle => ⟨?_, ?_⟩⟩
      · have : n ≤ 400 := hle
        omega
      · have := h4 hle
        rwa [List.take_length] at this
  obtain ⟨z, h1, h2⟩ := key
  unfold watershedkit_EntriesOf
  rw [h1]
  exact ⟨_, rfl, h2⟩
def OkA (x : DAct) : Prop := x.entries.length ≤ 400 ∧ OkEs x.entries ∧ x.index ≤ 1073741824 ∧ x.base.index ≤ 1073741824 ∧ OkC x.base.config
theorem great_p (l : List DAct) (h : ∀ x ∈ l, ok_DAct x) (hl : l.length ≤ 80) : watershedlaw10_great l = some (true, ()) ∨ watershedlaw10_great l = some (false, ()) ∧ ∀ x ∈ l, OkA x := by
  have key : ∃ z, loopM watershedlaw10_great_l1 ((l, 0, ()), ()) = some z ∧ (z = .inl ((true, ()), ()) ∨ z = .inr ((l, ()), ()) ∧ ∀ x ∈ l, OkA x) := by
    refine loopM_spec (fun m a => ∃ (i : Nat), a = ((l, (i : Int), ()), ()) ∧ i ≤ l.length ∧ (∀ x ∈ l.take i, OkA x) ∧ m = l.length - i) _ ?_ (n := l.length) ⟨0, rfl, by omega, fun e he => by simp at he, rfl⟩
    rintro m a ⟨i, rfl, h1, h2, rfl⟩
    unfold watershedlaw10_great_l1
    dsimp only
    by_cases hi : i < l.length
    · obtain ⟨_, _, c1, c2⟩ := h _ (List.getElem_mem hi)
      obtain ⟨⟨_, _, c3, _⟩, _⟩ := c2
      obtain ⟨n, e1, e2⟩ := EntriesOf_p _ c1
      rw [dT (by omega), cond_true, dT (by omega), cond_true, getI_lt hi, Option.bind_some, e1, Option.bind_some]
      dsimp only
      by_cases g1 : 400 < n
      · right; rw [dT g1]; exact ⟨_, rfl, .inl rfl⟩
      rw [dF g1, cond_false, Option.bind_some]
      by_cases g2 : 1073741824 < l[i].index
      · right; rw [dT g2]; exact ⟨_, rfl, .inl rfl⟩
      rw [dF g2, cond_false, Option.bind_some]
      by_cases g3 : 1073741824 < l[i].base.index
      · right; rw [dT g3]; exact ⟨_, rfl, .inl rfl⟩
      rw [dF g3, cond_false, Option.bind_some, ConfigOf_p _ c3, Option.bind_some]
      dsimp only
      by_cases g4 : 100 < (1 + l[i].base.config.voters.length + l[i].base.config.old.length + l[i].base.config.learners.length + l[i].base.config.want.length : Int)
      · right; rw [dT g4]; exact ⟨_, rfl, .inl rfl⟩
      rw [dF g4, cond_false, w64 (by omega)]
      left
      refine ⟨l.length - (i + 1), _, by omega, rfl, i + 1, rfl, by omega, fun x hx => ?_, rfl⟩
      rw [List.take_succ_eq_append_getElem hi] at hx
      rcases List.mem_append.1 hx with hx | hx
      · exact h2 x hx
      · rw [List.mem_singleton.1 hx]
        obtain ⟨q1, q2⟩ := e2 (by omega)
        refine ⟨q1, q2, by omega, by omega, ?_, ?_, ?_, ?_⟩ <;> (unfold OkI; omega)
    · right
      obtain rfl : i = l.length := by omega
      rw [dF (by omega), cond_false]
      rw [List.take_length] at h2
      exact ⟨_, rfl, .inr ⟨rfl, h2⟩⟩
  obtain ⟨z, h1, h2⟩ := key
  unfold watershedlaw10_great
  rw [h1]
  rcases h2 with rfl | ⟨rfl, h2⟩
  · exact .inl rfl
  · right
    refine ⟨?_, h2⟩
    show some (decide ((80 : Int) < (l.length : Int)), ()) = _
    rw [dF (by omega)]
theorem awake_p : watershedlaw10_awake = some (true, ()) := by
  have ok2 : ∀ k : Int, OkEs [⟨k, 1, [], ⟨[], [], [], []⟩⟩] := fun k e he => by
    rw [List.mem_singleton.1 he]
    exact ⟨by simp, by simp [OkI], by simp [OkI], by simp [OkI], by simp [OkI]⟩
  unfold watershedlaw10_awake
  refine bindS (New_p (x := ⟨5, 2, ⟨[], [], [], []⟩⟩) ⟨by simp [OkI], by simp [OkI], by simp [OkI], by simp [OkI]⟩ (by decide) (by decide)) ?_
  refine bindS rfl ?_
  refine bindS (Put_p (x := [⟨2, 1, [], ⟨[], [], [], []⟩⟩]) (ok2 2) (by decide) (by decide)) ?_
  refine condF rfl ?_
  refine bindS rfl ?_
  rcases Take_in (b := 5) (t := 2) (v := []) (o := []) (n := []) (w := []) (es := [⟨2, 1, [], ⟨[], [], [], []⟩⟩]) (row := [⟨3, 1, [], ⟨[], [], [], []⟩⟩]) (i := 6) (p := 0) (by decide) (by decide) (by decide) (ok2 3) (by decide) (by decide) with ⟨⟨_, _, h⟩, _⟩ | ⟨k, h1, _, _, h2⟩
  · obtain ⟨_, _, h⟩ := h 0 (by decide)
    simp at h
  · obtain rfl : k = 0 := by simp at h1; omega
    refine bindS h2 ?_
    refine bindS (Term_in (k := 0) (by decide) (by decide) (by decide) (by decide)) ?_
    refine condT rfl ?_
    refine condT rfl ?_
    refine bindS (Last_p (by decide) (by decide)) ?_
    refine condT rfl ?_
    refine condT rfl ?_
    rfl
end Go.Proofs.Ytlkphbhmfoehpaa
