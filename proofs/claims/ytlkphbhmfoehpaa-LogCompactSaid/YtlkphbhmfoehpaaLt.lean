/- LogTake, plainly. -/
import Derived.Test.YtlkphbhmfoehpaaLg
namespace Go.Proofs.Ytlkphbhmfoehpaa
open Go.RowKit
set_option maxRecDepth 100000
set_option linter.unusedVariables false
set_option linter.unusedSimpArgs false
section
variable {b t : Int} {v o n w : List Int} {es fs : List DEntry}
theorem OkE0 : OkE e0 := ⟨by simp [e0], by simp [e0, OkI], by simp [e0, OkI], by simp [e0, OkI], by simp [e0, OkI]⟩
/-- Entry by entry, up to a place. -/
theorem look_p {x2 at_ : Int} {x3 : List DEntry} {N : Nat} (hb : 0 ≤ b ∧ b ≤ 4000000000) (he : es.length ≤ 100000) (hf : fs.length ≤ 100000) (hs : OkEs es) (hN : N ≤ es.length) (hM : N ≤ fs.length) (hq : es.take N = fs.take N) (hfs : OkEs fs) :
    loopM watershedlaw10_LogTake_l1 ((x2, x3, (), (), at_, b + N, b, ()), ((b, t, v, o, n, w, true, es, ()), (b, t, v, o, n, w, true, fs, ()), (), (), ())) = some (.inr ((x2, x3, (), (), at_, ()), ((b, t, v, o, n, w, true, es, ()), (b, t, v, o, n, w, true, fs, ()), (), (), (), (), ()))) := by
  have hg : ∀ k, k < N → es[k]? = fs[k]? := fun k hk => by
    have := congrArg (·[k]?) hq
    simpa [List.getElem?_take, hk] using this
  have hz : b = b + ((0 : Nat) : Int) := by omega
  have key : ∀ i : Nat, i < N + 1 → watershedlaw10_LogTake_l1 ((x2, x3, (), (), at_, b + N, b + (i : Int), ()), ((b, t, v, o, n, w, true, es, ()), (b, t, v, o, n, w, true, fs, ()), (), (), ())) =
      some (.inl ((x2, x3, (), (), at_, b + N, b + ((i + 1 : Nat) : Int), ()), ((b, t, v, o, n, w, true, es, ()), (b, t, v, o, n, w, true, fs, ()), (), (), ()))) := fun i hi => by
    unfold watershedlaw10_LogTake_l1
    refine condT (dT (by dsimp only; omega)) ?_
    cases i with
    | zero =>
      refine bindS (At_out (i := b + ((0 : Nat) : Int)) (b := b) (es := es) hb he (by omega)) ?_
      refine bindS (At_out (i := b + ((0 : Nat) : Int)) (b := b) (es := fs) hb hf (by omega)) ?_
      refine bindS (SameEntry_self e0 OkE0) ?_
      refine condF rfl ?_
      dsimp only
      rw [w64 (by omega), show b + ((0 : Nat) : Int) + 1 = b + ((0 + 1 : Nat) : Int) from by omega]
    | succ k =>
      have h1 : k < es.length := by omega
      have h2 : k < fs.length := by omega
      have hk := hg k (by omega)
      rw [List.getElem?_eq_getElem h1, List.getElem?_eq_getElem h2] at hk
      injection hk with hk
      refine bindS (At_in (i := b + ((k + 1 : Nat) : Int)) (b := b) (es := es) (k := k) hb he hs (by omega) h1) ?_
      refine bindS (At_in (i := b + ((k + 1 : Nat) : Int)) (b := b) (es := fs) (k := k) hb hf hfs (by omega) h2) ?_
      refine bindS (v := (true, ())) (by
        show watershedkit_SameEntry es[k] fs[k] = _
        rw [hk]
        exact SameEntry_self _ (hfs _ (List.getElem_mem h2))) ?_
      refine condF rfl ?_
      dsimp only
      rw [w64 (by omega), show b + ((k + 1 : Nat) : Int) + 1 = b + ((k + 1 + 1 : Nat) : Int) from by omega]
  have := loopM_run (step := watershedlaw10_LogTake_l1) (fun i : Nat => ((x2, x3, (), (), at_, b + N, b + (i : Int), ()), ((b, t, v, o, n, w, true, es, ()), (b, t, v, o, n, w, true, fs, ()), (), (), ()))) (N := N + 1) (b := .inr ((x2, x3, (), (), at_, ()), ((b, t, v, o, n, w, true, es, ()), (b, t, v, o, n, w, true, fs, ()), (), (), (), (), ()))) key (by
    unfold watershedlaw10_LogTake_l1
    exact condF (dF (by dsimp only; omega)) rfl)
  conv => lhs; arg 2; arg 1; rw [hz]
  simpa using this
theorem terms_p {i : Int} {row : List DEntry} {p : Nat} (hb : 0 ≤ b ∧ b ≤ 4000000000) (he : es.length ≤ 100000) (hi : i = b + 1 + p) (hA : Alike es row p row.length) :
    loopM watershedlaw10_LogTake_l2 ((i, row, (), 0, ()), ((b, t, v, o, n, w, true, es, ()), (), ())) = some (.inr ((i, row, (), ()), ((b, t, v, o, n, w, true, es, ()), (), (), ()))) := by
  obtain ⟨a1, a2, a3⟩ := hA
  refine loopM_run (step := watershedlaw10_LogTake_l2) (fun j : Nat => ((i, row, (), (j : Int), ()), ((b, t, v, o, n, w, true, es, ()), (), ()))) (N := row.length) (fun j hj => ?_) ?_
  · obtain ⟨h1, h2, h3⟩ := a3 j hj
    unfold watershedlaw10_LogTake_l2
    refine condT (dT (by dsimp only; omega)) ?_
    dsimp only
    rw [w64 (n := i + (j : Int)) (by omega)]
    refine bindS (Term_in (i := i + (j : Int)) (b := b) (es := es) (k := p + j) hb he (by omega) h1) ?_
    refine condF rfl ?_
    rw [getI_lt hj, Option.bind_some]
    refine condF (dF (by dsimp only; omega)) ?_
    rw [w64 (by omega)]
    rfl
  · unfold watershedlaw10_LogTake_l2
    exact condF (dF (by dsimp only; omega)) rfl
theorem put_alike {row : List DEntry} {p k : Nat} (hA : Alike es row p k) (hk : k < row.length) : Alike (es.take (p + k) ++ row.drop k) row p row.length := by
  obtain ⟨a1, a2, a3⟩ := hA
  have hl : (es.take (p + k)).length = p + k := by simp; omega
  refine ⟨Nat.le_refl _, by simp; omega, fun j hj => ?_⟩
  have h1 : p + j < (es.take (p + k) ++ row.drop k).length := by simp; omega
  refine ⟨h1, hj, ?_⟩
  by_cases hjk : j < k
  · obtain ⟨g1, g2, g3⟩ := a3 j hjk
    rw [List.getElem_append_left (by omega), List.getElem_take]
    exact g3
  · rw [List.getElem_append_right (by omega)]
    congr 1
    rw [List.getElem_drop]
    congr 1
    omega
end
theorem LogTake_p (x0 : DBase) (x1 : List DEntry) (x2 : Int) (x3 : List DEntry) (k0 : ok_DBase x0) (k1 : ok_LDEntry x1) (k2 : ok_Ii64 x2) (k3 : ok_LDEntry x3) : watershedlaw10_LogTake x0 x1 x2 x3 = some (true, ()) := by
  unfold watershedlaw10_LogTake
  refine bindS awake_p ?_
  refine condF rfl ?_
  have hk0 : InK .i64 0 := by unfold InK; rfl
  have hz : ok_DBase ⟨0, 0, ⟨[], [], [], []⟩⟩ := ⟨hk0, hk0, ⟨⟨by simp, by simp⟩, ⟨by simp, by simp⟩, ⟨by simp, by simp⟩, ⟨by simp, by simp⟩, trivial⟩, trivial⟩
  have i2 := InK.i64 k2
  rcases great_p [⟨0, x2, x1, x0⟩, ⟨0, 0, x3, ⟨0, 0, ⟨[], [], [], []⟩⟩⟩] (fun x hx => by
    rcases List.mem_cons.1 hx with rfl | hx
    · exact ⟨hk0, k2, k1, k0, trivial⟩
    · rw [List.mem_singleton.1 hx]
      exact ⟨hk0, hk0, k3, hz, trivial⟩) (by simp) with hg | ⟨hg, hA⟩
  · exact bindS hg (condT rfl rfl)
  refine bindS hg ?_
  refine condF rfl ?_
  obtain ⟨g1, g2, g3, g4, g5⟩ := hA _ (List.mem_cons_self)
  obtain ⟨f1, f2, _, _, _⟩ := hA _ (List.mem_cons_of_mem _ List.mem_cons_self)
  dsimp only at g1 g2 g3 g4 g5 f1 f2
  by_cases hi : x0.index < 0
  · exact condT (dT hi) rfl
  refine condF (dF hi) ?_
  by_cases ht : x0.term_ < 0
  · exact condT (dT ht) rfl
  refine condF (dF ht) ?_
  obtain ⟨b, t, v, o, n, w⟩ := x0
  dsimp only at *
  have hb : 0 ≤ b ∧ b ≤ 4000000000 := by omega
  refine bindS (New_p g5 (by dsimp only; omega) (by dsimp only; omega)) ?_
  refine bindS (New_p g5 (by dsimp only; omega) (by dsimp only; omega)) ?_
  have hput : log_Put x1 (b, t, v, o, n, w, true, [], ()) = some (b + x1.length, ((b, t, v, o, n, w, true, x1, ()), (), (), ())) := by
    rw [Put_p g2 hb (by simp; omega)]
    simp
  refine bindS hput ?_
  refine bindS hput ?_
  by_cases hin : b < x2 ∧ x2 ≤ b + x1.length + 1
  · obtain ⟨p, hp⟩ : ∃ p : Nat, x2 = b + 1 + p := ⟨(x2 - b - 1).toNat, by omega⟩
    have hpl : p ≤ x1.length := by omega
    rcases Take_in (t := t) (v := v) (o := o) (n := n) (w := w) (es := x1) (row := x3) hb (by omega) (by omega) f2 hp hpl with ⟨hal, hT⟩ | ⟨k, hk, hal, _, hT⟩
    · refine bindS hT ?_
      refine condT (dT hin.1) ?_
      refine condF (dF (by
        dsimp only
        rw [w64 (n := b + (x1.length : Int)) (by omega), w64 (by omega), dT (by omega)]
        simp)) ?_
      refine condF (dF (by simp)) ?_
      refine bindS (Last_p (b := b) (es := x1) hb (by omega)) ?_
      refine condF (dF (by simp)) ?_
      refine bindS (look_p (b := b) (es := x1) (fs := x1) (N := x1.length) hb (by omega) (by omega) g2 (Nat.le_refl _) (Nat.le_refl _) rfl g2) ?_
      refine condT (dT rfl) ?_
      refine bindS (Last_p (b := b) (es := x1) hb (by omega)) ?_
      refine bindS (Last_p (b := b) (es := x1) hb (by omega)) ?_
      dsimp only
      rw [dT rfl]
    · obtain ⟨q1, q2, q3⟩ := hal
      have hal : Alike x1 x3 p k := ⟨q1, q2, q3⟩
      have hlen : (x1.take (p + k) ++ x3.drop k).length = p + x3.length := by simp; omega
      have hok : OkEs (x1.take (p + k) ++ x3.drop k) := fun e he => by
        rcases List.mem_append.1 he with he | he
        · exact g2 e (List.mem_of_mem_take he)
        · exact f2 e (List.mem_of_mem_drop he)
      have hq : (x1.take (p + k) ++ x3.drop k).take (p + k) = x1.take (p + k) := by
        rw [List.take_append_of_le_length (by simp; omega), List.take_take, Nat.min_self]
      refine bindS hT ?_
      refine condT (dT hin.1) ?_
      refine condF (dF (by
        dsimp only
        rw [w64 (n := b + (x1.length : Int)) (by omega), w64 (by omega), dT (by omega)]
        simp)) ?_
      refine condT (dT (by dsimp only; omega)) ?_
      refine condF (dF (by dsimp only; omega)) ?_
      refine condF (dF (by dsimp only; rw [w64 (by omega)]; omega)) ?_
      refine bindS (Last_p (b := b) (es := x1) hb (by omega)) ?_
      refine condT (dT (by dsimp only; omega)) ?_
      dsimp only
      rw [w64 (by omega), show x2 + (k : Int) - 1 = b + ((p + k : Nat) : Int) from by omega]
      refine bindS (look_p (b := b) (es := x1.take (p + k) ++ x3.drop k) (fs := x1) (N := p + k) hb (by omega) (by omega) hok (by omega) (by omega) hq g2) ?_
      refine condF (dF (by dsimp only; omega)) ?_
      have hal2 := put_alike hal hk
      refine bindS (terms_p (b := b) (es := x1.take (p + k) ++ x3.drop k) hb (by omega) hp hal2) ?_
      rcases Take_in (t := t) (v := v) (o := o) (n := n) (w := w) (es := x1.take (p + k) ++ x3.drop k) (row := x3) hb (by omega) (by omega) f2 hp (by omega) with ⟨_, hT2⟩ | ⟨k2, hk2, _, hno, hT2⟩
      · refine bindS hT2 ?_
        refine bindS (Last_p (b := b) (es := x1.take (p + k) ++ x3.drop k) hb (by omega)) ?_
        refine condT (dT (by
          dsimp only
          rw [hlen, w64 (n := x2 + (x3.length : Int)) (by omega), w64 (by omega)]
          omega)) ?_
        exact condT (dT rfl) rfl
      · exfalso
        exact hno ⟨by omega, by have := hal2.2.1; omega, fun j hj => hal2.2.2 j (by omega)⟩
  · have hT : log_Take x2 x3 (b, t, v, o, n, w, true, x1, ()) = some ((0, false, ()), ((b, t, v, o, n, w, true, x1, ()), (), (), ())) := Take_out hb (by omega) (by omega)
    refine bindS hT ?_
    have fin : ∀ N : Nat, N = x1.length → ((loopM watershedlaw10_LogTake_l1 ((x2, x3, (), (), (0 : Int), b + (x1.length : Int), b, ()), ((b, t, v, o, n, w, true, x1, ()), (b, t, v, o, n, w, true, x1, ()), (), (), ()))) = some (.inr ((x2, x3, (), (), 0, ()), ((b, t, v, o, n, w, true, x1, ()), (b, t, v, o, n, w, true, x1, ()), (), (), (), (), ())))) := fun N hN => by
      exact look_p (b := b) (es := x1) (fs := x1) (N := x1.length) hb (by omega) (by omega) g2 (Nat.le_refl _) (Nat.le_refl _) rfl g2
    by_cases h1 : b < x2
    · refine condT (dT h1) ?_
      refine condF (dF (by
        dsimp only
        rw [w64 (n := b + (x1.length : Int)) (by omega), w64 (by omega), dF (by omega)]
        simp)) ?_
      refine condF (dF (by simp)) ?_
      refine bindS (Last_p (b := b) (es := x1) hb (by omega)) ?_
      refine condF (dF (by simp)) ?_
      refine bindS (fin _ rfl) ?_
      refine condT (dT rfl) ?_
      refine bindS (Last_p (b := b) (es := x1) hb (by omega)) ?_
      refine bindS (Last_p (b := b) (es := x1) hb (by omega)) ?_
      dsimp only
      rw [dT rfl]
    · refine condF (dF h1) ?_
      refine condF (dF (by simp)) ?_
      refine condF (dF (by simp)) ?_
      refine bindS (Last_p (b := b) (es := x1) hb (by omega)) ?_
      refine condF (dF (by simp)) ?_
      refine bindS (fin _ rfl) ?_
      refine condT (dT rfl) ?_
      refine bindS (Last_p (b := b) (es := x1) hb (by omega)) ?_
      refine bindS (Last_p (b := b) (es := x1) hb (by omega)) ?_
      dsimp only
      rw [dT rfl]
end Go.Proofs.Ytlkphbhmfoehpaa
