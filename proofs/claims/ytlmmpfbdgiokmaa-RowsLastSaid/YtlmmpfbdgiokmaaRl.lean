/- RowsLast, plainly. -/
import Derived.Test.YtlmmpfbdgiokmaaRal
import Derived.Test.YtlmmpfbdgiokmaaG2
namespace Go.Proofs.Ytlmmpfbdgiokmaa
open Go.RowKit
set_option maxRecDepth 100000
set_option linter.unusedVariables false
set_option linter.unusedSimpArgs false
theorem LinesOf_r {l : List DRow} (hl : l.length ≤ 140737488355328) (hx : ∀ r ∈ l, OkT r.key ∧ OkT r.value) : ∃ n : Int, watershedkit_LinesOf l 1200 = some (n, ()) ∧ (n ≤ 1200 → l.length ≤ 1200) := by
  have key : ∃ z, loopM watershedkit_LinesOf_l1 ((l, 1200, 0, 0, ()), ()) = some z ∧ ∃ n : Int, z = ((n, ()), ()) ∧ (n ≤ 1200 → l.length ≤ 1200) := by
    refine loopM_spec (fun m a => ∃ (i : Nat) (w : Nat), a = ((l, 1200, (w : Int), (i : Int), ()), ()) ∧ i ≤ l.length ∧ i ≤ w ∧ w ≤ 1200 + 2 * 17592186044416 + 1 ∧ m = l.length - i) _ ?_ (n := l.length) ⟨0, 0, rfl, Nat.zero_le _, Nat.zero_le _, by omega, rfl⟩
    rintro m a ⟨i, w, rfl, h1, h0, h2, rfl⟩
    unfold watershedkit_LinesOf_l1
    by_cases hi : i < l.length
    · by_cases hn : w ≤ 1200
      · left
        have h3 := hx _ (List.getElem_mem hi)
        unfold OkT at h3
        have d1 : IntKind.i64.wrap ((l[i].key.length : Int).tdiv 8) = ((l[i].key.length / 8 : Nat) : Int) := by
          rw [Int.tdiv_eq_ediv_of_nonneg (by omega), w64 (by omega)]; omega
        have d2 : IntKind.i64.wrap ((l[i].value.length : Int).tdiv 8) = ((l[i].value.length / 8 : Nat) : Int) := by
          rw [Int.tdiv_eq_ediv_of_nonneg (by omega), w64 (by omega)]; omega
        refine ⟨l.length - (i + 1), _, by omega, condT (dT (by dsimp only; omega)) (condT (dT (by dsimp only; omega)) (bindS (getI_lt hi) (bindS (getI_lt hi) rfl))), i + 1, w + (1 + l[i].key.length / 8 + l[i].value.length / 8), ?_, by omega, by omega, by omega, rfl⟩
        dsimp only
        rw [d1, d2, w64 (n := (w : Int) + 1) (by omega), w64 (n := (w : Int) + 1 + _) (by omega), w64 (n := (w : Int) + 1 + _ + _) (by omega), w64 (n := (i : Int) + 1) (by omega)]
        congr 3
        have : ((w + (1 + l[i].key.length / 8 + l[i].value.length / 8) : Nat) : Int) = (w : Int) + 1 + ((l[i].key.length / 8 : Nat) : Int) + ((l[i].value.length / 8 : Nat) : Int) := by omega
        rw [this]
        rfl
      · right
        exact ⟨_, condT (dT (by dsimp only; omega)) (condF (dF (by dsimp only; omega)) rfl), _, rfl, by dsimp only; omega⟩
    · right
      obtain rfl : i = l.length := by omega
      exact ⟨_, condF (dF (by dsimp only; omega)) rfl, _, rfl, fun h => by dsimp only at h; omega⟩
  obtain ⟨z, hz, n, rfl, hn⟩ := key
  exact ⟨n, by unfold watershedkit_LinesOf; exact bindS hz rfl, hn⟩
/-- The map of the rows' keys and their last values. -/
def lastM (xs : List DRow) : List (Tx × Tx) := xs.foldl (fun m r => mput .str m r.key r.value) []
theorem lastM_snoc (xs : List DRow) (x : DRow) : lastM (xs ++ [x]) = mput .str (lastM xs) x.key x.value := by simp [lastM]
theorem eqb_str (a b : Tx) : MK.eqb .str a b = decide (a = b) := rfl
theorem mget_mput (k v j : Tx) : ∀ m : List (Tx × Tx), mget .str (mput .str m k v) j = if j = k then some v else mget .str m j
  | [] => by
    show (bif MK.eqb .str j k then some v else mget .str ([] : List (Tx × Tx)) j) = _
    rw [eqb_str]
    by_cases h : j = k <;> simp [h, mget]
  | p :: m => by
    have ih := mget_mput k v j m
    show mget .str (bif MK.eqb .str k p.1 then (k, v) :: m else p :: mput .str m k v) j = if j = k then some v else (bif MK.eqb .str j p.1 then some p.2 else mget .str m j)
    rw [eqb_str, eqb_str]
    by_cases h1 : k = p.1
    · rw [decide_eq_true h1, cond_true]
      show (bif MK.eqb .str j k then some v else mget .str m j) = _
      rw [eqb_str]
      by_cases h2 : j = k
      · simp [h2]
      · have : j ≠ p.1 := fun e => h2 (e.trans h1.symm)
        simp [h2, this]
    · rw [decide_eq_false h1, cond_false]
      show (bif MK.eqb .str j p.1 then some p.2 else mget .str (mput .str m k v) j) = _
      rw [eqb_str, ih]
      by_cases h2 : j = p.1
      · have : j ≠ k := fun e => h1 (e.symm.trans h2)
        simp [h2]
        intro e; exact absurd e.symm h1
      · simp [h2]
theorem mput_len (k v : Tx) : ∀ m : List (Tx × Tx), (mput .str m k v).length = if (mget .str m k).isSome = true then m.length else m.length + 1
  | [] => by simp [mput, mget]
  | p :: m => by
    have ih := mput_len k v m
    show (bif MK.eqb .str k p.1 then (k, v) :: m else p :: mput .str m k v).length = if (bif MK.eqb .str k p.1 then some p.2 else mget .str m k).isSome = true then m.length + 1 else m.length + 1 + 1
    cases MK.eqb .str k p.1 with
    | true => simp
    | false =>
      simp only [cond_false, List.length_cons]
      rw [ih]
      split <;> rfl
/-- What a table has behind. -/
theorem mem_put : ∀ (xs : List DRow) {l : List DRow} (hs : srt l) (r : DRow), r ∈ putAll xs l ↔ mget .str (lastM xs) r.key = some r.value ∨ (mget .str (lastM xs) r.key = none ∧ r ∈ l) := by
  intro xs l hs
  suffices h : ∀ n ≤ xs.length, ∀ r, r ∈ putAll (xs.take n) l ↔ mget .str (lastM (xs.take n)) r.key = some r.value ∨ (mget .str (lastM (xs.take n)) r.key = none ∧ r ∈ l) by
    have := h xs.length (Nat.le_refl _)
    rwa [List.take_length] at this
  intro n
  induction n with
  | zero => intro _ r; simp [putAll, lastM, mget]
  | succ n ih =>
    intro hn r
    have ih := ih (by omega) r
    rw [List.take_succ_eq_append_getElem (by omega), putAll_snoc, lastM_snoc, mget_mput, mem_putL (putAll_srt _ hs), ih]
    generalize xs[n] = x
    by_cases hk : r.key = x.key
    · rw [if_pos hk]
      constructor
      · rintro (rfl | ⟨_, h⟩)
        · exact .inl rfl
        · exact absurd hk h
      · rintro (h | ⟨h, _⟩)
        · injection h with h
          left
          cases r; cases x; simp_all
        · cases h
    · rw [if_neg hk]
      constructor
      · rintro (rfl | ⟨h, _⟩)
        · exact absurd rfl hk
        · exact h
      · intro h
        exact .inr ⟨h, hk⟩
theorem fnd_iff {k : Tx} {l : List DRow} (hs : srt l) : fnd k l = true ↔ ∃ r ∈ l, r.key = k := by
  constructor
  · intro h
    obtain ⟨h1, h2⟩ := fnd_get h
    exact ⟨_, List.getElem_mem h1, h2⟩
  · rintro ⟨r, hr, hk⟩
    obtain ⟨i, hi, rfl⟩ := List.getElem_of_mem hr
    have e : i = lb k l := by
      have h1 := lb_get (k := k) hs hi
      rw [hk] at h1
      have h2 : ¬ i < lb k l := fun h => by have := h1.2 h; grind
      rcases Nat.lt_or_ge (lb k l) i with h3 | h3
      · have h4 := lb_get (k := k) hs (i := lb k l) (by omega)
        have h5 : ¬ l[lb k l].key < k := fun h => Nat.lt_irrefl _ (h4.1 h)
        have h6 := List.pairwise_iff_getElem.1 hs (lb k l) i (by omega) hi h3
        rw [hk] at h6
        exact absurd h6 h5
      · omega
    subst e
    unfold fnd
    rw [List.getElem?_eq_getElem hi]
    dsimp only
    rw [hk]
    simp
theorem putL_len' (x : DRow) (l : List DRow) : (putL x l).length = if fnd x.key l = true then l.length else l.length + 1 := by
  unfold putL
  have hle := lb_le x.key l
  split
  · simp
  · simp; omega
theorem len_put (xs : List DRow) : (putAll xs []).length = (lastM xs).length := by
  suffices h : ∀ n ≤ xs.length, (putAll (xs.take n) []).length = (lastM (xs.take n)).length by
    have := h xs.length (Nat.le_refl _)
    rwa [List.take_length] at this
  intro n
  induction n with
  | zero => intro _; simp [putAll, lastM]
  | succ n ih =>
    intro hn
    have ih := ih (by omega)
    rw [List.take_succ_eq_append_getElem (by omega), putAll_snoc, lastM_snoc, mput_len, putL_len', ih]
    have hs : srt (putAll (xs.take n) []) := putAll_srt _ .nil
    have : fnd xs[n].key (putAll (xs.take n) []) = true ↔ (mget .str (lastM (xs.take n)) xs[n].key).isSome = true := by
      rw [fnd_iff hs]
      constructor
      · rintro ⟨r, hr, hk⟩
        rcases (mem_put _ .nil r).1 hr with h | ⟨_, h⟩
        · rw [← hk, h]; rfl
        · cases h
      · intro h
        obtain ⟨v, hv⟩ := Option.isSome_iff_exists.1 h
        exact ⟨⟨xs[n].key, v⟩, (mem_put _ .nil _).2 (.inl hv), rfl⟩
    simp only [this]
theorem srt_ext' : ∀ {a b : List DRow}, srt a → srt b → (∀ r, r ∈ a ↔ r ∈ b) → a = b
  | [], [], _, _, _ => rfl
  | [], y :: b, _, _, h => by have := (h y).2 List.mem_cons_self; cases this
  | x :: a, [], _, _, h => by have := (h x).1 List.mem_cons_self; cases this
  | x :: a, y :: b, ha, hb, h => by
    have ha' := List.pairwise_cons.1 ha
    have hb' := List.pairwise_cons.1 hb
    have ltI : ∀ t : Tx, ¬ t < t := fun t h => by grind
    have hxy : x = y := by
      rcases List.mem_cons.1 ((h x).1 List.mem_cons_self) with h1 | h1
      · exact h1
      · rcases List.mem_cons.1 ((h y).2 List.mem_cons_self) with h2 | h2
        · exact h2.symm
        · exact absurd (hb'.1 x h1) (ltAs (ha'.1 y h2))
    subst hxy
    congr 1
    refine srt_ext' ha'.2 hb'.2 fun r => ⟨fun hr => ?_, fun hr => ?_⟩
    · rcases List.mem_cons.1 ((h r).1 (List.mem_cons_of_mem _ hr)) with rfl | h1
      · exact absurd (ha'.1 _ hr) (ltI _)
      · exact h1
    · rcases List.mem_cons.1 ((h r).2 (List.mem_cons_of_mem _ hr)) with rfl | h1
      · exact absurd (hb'.1 _ hr) (ltI _)
      · exact h1
theorem twice (xs : List DRow) : putAll xs (putAll xs []) = putAll xs [] := by
  have h0 : srt (putAll xs []) := putAll_srt _ .nil
  refine srt_ext' (putAll_srt _ h0) h0 fun r => ?_
  rw [mem_put xs h0 r, mem_put xs .nil r]
  constructor
  · rintro (h | ⟨h1, h2 | ⟨_, h2⟩⟩)
    · exact .inl h
    · exact .inl h2
    · cases h2
  · rintro (h | ⟨_, h⟩)
    · exact .inl h
    · cases h
theorem in_all' {L : List DRow} (h : ∀ r ∈ L, rightR r = true) : inF ⟨[], []⟩ L = L := by
  unfold inF
  refine List.filter_eq_self.2 fun r hr => ?_
  unfold hasB
  rw [rightR_key (h r hr)]
  have : ¬ r.key < [] := by simp
  simp [rightB, this]
theorem Many_q {L : List DRow} : rows_Many (L.length, true, ()) L = some (((L.length : Nat) : Int), ((L.length, true, ()), L, ())) := by
  unfold rows_Many
  exact bindS (v := (true, ((L.length, true, ()), L, ()))) rfl (condF rfl rfl)
theorem last_loop {xs L : List DRow} (hl : xs.length ≤ 100000) : loopM watershedlaw15_RowsLast_l1 ((xs, (), (), 0, ()), ((L.length, true, ()), ([] : List (Tx × Tx)), L, ())) = some ((xs, (), (), ()), ((L.length, true, ()), lastM xs, (), L, ())) := by
  refine loopM_run (step := watershedlaw15_RowsLast_l1) (fun i : Nat => ((xs, (), (), (i : Int), ()), ((L.length, true, ()), lastM (xs.take i), L, ()))) (N := xs.length) (fun i hi => ?_) ?_
  · unfold watershedlaw15_RowsLast_l1
    refine condT (dT (by dsimp only; omega)) (bindS (getI_lt hi) (bindS (getI_lt hi) ?_))
    dsimp only
    rw [w64 (by omega), List.take_succ_eq_append_getElem hi, lastM_snoc]
    rfl
  · unfold watershedlaw15_RowsLast_l1
    refine condF (dF (by dsimp only; omega)) ?_
    dsimp only
    rw [List.take_length]
theorem see_loop {xs L : List DRow} {M : List (Tx × Tx)} (hs : srt L) (hl : L.length ≤ 400) (hM : ∀ r ∈ L, mget .str M r.key = some r.value) : loopM watershedlaw15_RowsLast_l2 ((xs, (), (), L, 0, ()), ((L.length, true, ()), M, (), L, ())) = some (.inr ((xs, (), (), L, ()), ((L.length, true, ()), M, (), (), (), L, ()))) := by
  refine loopM_run (step := watershedlaw15_RowsLast_l2) (fun i : Nat => ((xs, (), (), L, (i : Int), ()), ((L.length, true, ()), M, (), L, ()))) (N := L.length) (fun i hi => ?_) ?_
  · unfold watershedlaw15_RowsLast_l2
    have hv : decide (((mget (.str) M L[i].key).getD []) ≠ L[i].value) = false := by
      rw [hM _ (List.getElem_mem hi)]
      simp
    refine condT (dT (by dsimp only; omega)) ?_
    by_cases h0 : 0 < i
    · have hg : getI L (IntKind.i64.wrap ((i : Int) - 1)) = some L[i - 1] := by
        rw [w64 (by omega), show (i : Int) - 1 = ((i - 1 : Nat) : Int) from by omega]
        exact getI_lt (by omega)
      have hlt := List.pairwise_iff_getElem.1 hs (i - 1) i (by omega) hi (by omega)
      refine condT (dT (by dsimp only; omega)) (bindS hg (bindS (getI_lt hi) (condF (nF (dT hlt)) (bindS (getI_lt hi) (bindS (getI_lt hi) (condF hv ?_))))))
      dsimp only
      rw [w64 (by omega)]
      rfl
    · refine condF (dF (by dsimp only; omega)) (bindS (getI_lt hi) (bindS (getI_lt hi) (condF hv ?_)))
      dsimp only
      rw [w64 (by omega)]
      rfl
  · unfold watershedlaw15_RowsLast_l2
    exact condF (dF (by dsimp only; omega)) rfl
theorem RowsLast_p (x0 : List DRow) (k0 : ok_LDRow x0) : watershedlaw15_RowsLast x0 = some (true, ()) := by
  have hx : ∀ r ∈ x0, OkT r.key ∧ OkT r.value := fun r hr => ⟨(k0.all r hr).1, (k0.all r hr).2.1⟩
  obtain ⟨n, n1, n2⟩ := LinesOf_r k0.len hx
  unfold watershedlaw15_RowsLast
  refine bindS awake_p (condF rfl (bindS n1 ?_))
  by_cases hn : 1200 < n
  · exact condT (dT hn) rfl
  have hlen := n2 (by omega)
  have hput := Put_p (xs := x0) (l := []) .nil (Nat.zero_le _) (fun x h => (hx x h).1) (by omega)
  refine condF (dF hn) (bindS rfl (bindS hput ?_))
  unfold putF at hput ⊢
  cases hr : x0.all rightR with
  | false =>
    rw [hr, if_neg Bool.false_ne_true] at hput
    exact condT (dT (by rw [if_neg Bool.false_ne_true]; decide)) (bindS Many_q (by rw [if_neg Bool.false_ne_true]; simp))
  | true =>
  rw [hr, if_pos rfl] at hput
  simp only [if_true]
  by_cases h4 : 400 < (putAll x0 []).length
  · rw [if_pos h4]
    exact condT (dT (by decide)) (bindS Many_q (by simp))
  rw [if_neg h4]
  have hs : srt (putAll x0 []) := putAll_srt _ .nil
  have hR : ∀ r ∈ putAll x0 [], rightR r = true := putAll_all (p := fun r => rightR r = true) x0 .nil (fun x hx => List.all_eq_true.1 hr x hx) (fun x hx => by cases hx)
  have htw := twice x0
  have hcnt := len_put x0
  have hM : ∀ r ∈ putAll x0 [], mget .str (lastM x0) r.key = some r.value := fun r h => by
    rcases (mem_put x0 .nil r).1 h with h | ⟨_, h⟩
    · exact h
    · cases h
  generalize putAll x0 [] = L at h4 hs hR htw hcnt hM
  have h4 : L.length ≤ 400 := by omega
  have hAll : OkSp ⟨[], []⟩ := ⟨Nat.zero_le _, Nat.zero_le _⟩
  have hin : rows_In ⟨[], []⟩ (L.length, true, ()) L = some (L, ((L.length, true, ()), L, (), ())) := by
    have := In_p (s := ⟨[], []⟩) hs h4 hR hAll
    rw [in_all' hR] at this
    exact this
  have hput2 := Put_p (xs := x0) (l := L) hs h4 (fun x h => (hx x h).1) (by omega)
  unfold putF at hput2
  rw [hr, if_pos rfl, htw, if_neg (by omega)] at hput2
  have hsl := SameLines_p (a := L) (b := L) (by omega)
  rw [dT rfl] at hsl
  refine condF (dF (by simp)) (bindS (last_loop (by omega)) (bindS rfl (bindS hin (bindS (see_loop hs h4 hM) ?_))))
  refine condT (dT ?_) (bindS hput2 (condT (dT rfl) (bindS rfl (bindS hin (bindS hsl rfl)))))
  dsimp only
  omega
end Go.Proofs.Ytlmmpfbdgiokmaa
