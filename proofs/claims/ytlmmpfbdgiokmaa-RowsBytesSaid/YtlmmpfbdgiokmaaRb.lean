/- RowsBytes, plainly. -/
import Derived.Test.YtlmmpfbdgiokmaaLl
import Derived.Test.YtlmmpfbdgiokmaaWc
import Derived.Test.YtlmmpfbdgiokmaaRk
import Derived.Test.YtlmmpfbdgiokmaaG2
namespace Go.Proofs.Ytlmmpfbdgiokmaa
open Go.RowKit
set_option maxRecDepth 100000
set_option linter.unusedVariables false
set_option linter.unusedSimpArgs false
/-- How much rows weigh. -/
def wgt : List DRow → Nat
  | [] => 0
  | r :: l => 1 + r.key.length / 8 + r.value.length / 8 + wgt l
theorem wgt_snoc : ∀ (l : List DRow) (r : DRow), wgt (l ++ [r]) = wgt l + (1 + r.key.length / 8 + r.value.length / 8)
  | [], r => by simp [wgt]
  | x :: l, r => by
    have := wgt_snoc l r
    simp only [List.cons_append, wgt, this]; omega
theorem LinesOf_p {l : List DRow} (hl : l.length ≤ 140737488355328) (hx : ∀ r ∈ l, OkT r.key ∧ OkT r.value) : ∃ n : Int, watershedkit_LinesOf l 1200 = some (n, ()) ∧ (n ≤ 1200 → wgt l ≤ 1200) := by
  have key : ∃ z, loopM watershedkit_LinesOf_l1 ((l, 1200, 0, 0, ()), ()) = some z ∧ ∃ n : Int, z = ((n, ()), ()) ∧ (n ≤ 1200 → wgt l ≤ 1200) := by
    refine loopM_spec (fun m a => ∃ i : Nat, a = ((l, 1200, ((wgt (l.take i) : Nat) : Int), (i : Int), ()), ()) ∧ i ≤ l.length ∧ wgt (l.take i) ≤ 1200 + 2 * 17592186044416 + 1 ∧ m = l.length - i) _ ?_ (n := l.length) ⟨0, by simp [wgt], Nat.zero_le _, by simp [wgt], rfl⟩
    rintro m a ⟨i, rfl, h1, h2, rfl⟩
    unfold watershedkit_LinesOf_l1
    by_cases hi : i < l.length
    · by_cases hn : wgt (l.take i) ≤ 1200
      · left
        have h3 := hx _ (List.getElem_mem hi)
        unfold OkT at h3
        have hs := wgt_snoc (l.take i) l[i]
        rw [← List.take_succ_eq_append_getElem hi] at hs
        have d1 : IntKind.i64.wrap ((l[i].key.length : Int).tdiv 8) = ((l[i].key.length / 8 : Nat) : Int) := by
          rw [Int.tdiv_eq_ediv_of_nonneg (by omega), w64 (by omega)]; omega
        have d2 : IntKind.i64.wrap ((l[i].value.length : Int).tdiv 8) = ((l[i].value.length / 8 : Nat) : Int) := by
          rw [Int.tdiv_eq_ediv_of_nonneg (by omega), w64 (by omega)]; omega
        refine ⟨l.length - (i + 1), _, by omega, condT (dT (by dsimp only; omega)) (condT (dT (by dsimp only; omega)) (bindS (getI_lt hi) (bindS (getI_lt hi) rfl))), i + 1, ?_, by omega, by omega, rfl⟩
        dsimp only
        rw [d1, d2, w64 (n := ((wgt (l.take i) : Nat) : Int) + 1) (by omega), w64 (n := ((wgt (l.take i) : Nat) : Int) + 1 + _) (by omega), w64 (n := ((wgt (l.take i) : Nat) : Int) + 1 + _ + _) (by omega), w64 (n := (i : Int) + 1) (by omega), hs]
        congr 3
        have : (((wgt (l.take i) + (1 + l[i].key.length / 8 + l[i].value.length / 8) : Nat)) : Int) = ((wgt (l.take i) : Nat) : Int) + 1 + ((l[i].key.length / 8 : Nat) : Int) + ((l[i].value.length / 8 : Nat) : Int) := by omega
        rw [this]
        rfl
      · right
        exact ⟨_, condT (dT (by dsimp only; omega)) (condF (dF (by dsimp only; omega)) rfl), _, rfl, fun h => by dsimp only at h; omega⟩
    · right
      obtain rfl : i = l.length := by omega
      refine ⟨_, condF (dF (by dsimp only; omega)) rfl, _, rfl, fun h => ?_⟩
      dsimp only at h
      rw [List.take_length] at h
      omega
  obtain ⟨z, hz, n, rfl, hn⟩ := key
  exact ⟨n, by unfold watershedkit_LinesOf; exact bindS hz rfl, hn⟩
theorem wgt_len : ∀ l : List DRow, l.length ≤ wgt l
  | [] => Nat.le_refl _
  | r :: l => by have := wgt_len l; simp only [List.length_cons, wgt]; omega
theorem wgt_mem : ∀ {l : List DRow} {r : DRow}, r ∈ l → r.key.length ≤ 8 * wgt l ∧ r.value.length ≤ 8 * wgt l
  | x :: l, r, h => by
    rcases List.mem_cons.1 h with rfl | h
    · simp only [wgt]; omega
    · have := wgt_mem h
      simp only [wgt]; omega
def rowB (r : DRow) : List UInt8 := rowF r.key ++ rowF r.value
def bodyB (l : List DRow) : List UInt8 := (l.map rowB).flatten
theorem bodyB_snoc (l : List DRow) (r : DRow) : bodyB (l ++ [r]) = bodyB l ++ rowB r := by simp [bodyB]
def bytesB (l : List DRow) : List UInt8 := numF l.length ++ bodyB l
theorem rowF_len {t : List UInt8} (h : t.length ≤ 1000000) : (rowF t).length ≤ t.length + 9 := by
  have := numF_len9 (n := t.length) (by omega)
  unfold rowF
  rw [List.length_append]; omega
theorem bodyB_len : ∀ (l : List DRow), wgt l ≤ 1200 → (bodyB l).length ≤ 32 * wgt l
  | [], _ => by simp [bodyB]
  | r :: l, h => by
    have hm := wgt_mem (l := r :: l) (r := r) List.mem_cons_self
    have h1 := rowF_len (t := r.key) (by omega)
    have h2 := rowF_len (t := r.value) (by omega)
    simp only [wgt] at h ⊢
    have ih := bodyB_len l (by omega)
    have : bodyB (r :: l) = rowF r.key ++ rowF r.value ++ bodyB l := by simp [bodyB, rowB]
    rw [this, List.length_append, List.length_append]; omega
theorem bodyB_take (l : List DRow) (h : wgt l ≤ 1200) (i : Nat) : (bodyB (l.take i)).length ≤ 38400 := by
  have h1 : wgt (l.take i) ≤ wgt l := by
    clear h
    induction l generalizing i with
    | nil => simp [wgt]
    | cons r l ih =>
      cases i with
      | zero => simp [wgt]
      | succ i => simp only [List.take_succ_cons, wgt]; have := ih i; omega
  have := bodyB_len (l.take i) (by omega)
  omega
theorem Write_p {l : List DRow} (h : wgt l ≤ 1200) : rows_Write l (true, false, [], ()) = some ((), ((true, false, bytesB l, ()), (), (), ())) := by
  have hlen := wgt_len l
  have hg : [(l.length : Int)].all goodB = true := by
    simp only [List.all_cons, List.all_nil, Bool.and_true]
    exact goodB_iff.2 (by omega)
  have hn := Numbers_p (xs := [(l.length : Int)]) (sp := false) (b := []) (by simp) (by simp)
  rw [numsW_good _ _ _ hg] at hn
  have hc : catN [(l.length : Int)] = numF l.length := by simp [catN]
  rw [List.nil_append, hc] at hn
  have h9 := numF_len9 (n := l.length) (by omega)
  unfold rows_Write
  refine bindS hn ?_
  have hrun := loopM_run (step := rows_Write_l1) (fun i : Nat => (((), l, (l.length : Int), (i : Int), ()), ((true, false, numF l.length ++ bodyB (l.take i), ()), (), ()))) (N := l.length) (b := (((), ()), ((true, false, bytesB l, ()), (), (), ()))) (fun i hi => ?_) ?_
  · have e0 : numF l.length ++ bodyB (l.take 0) = numF l.length := by simp [bodyB]
    rw [e0] at hrun
    exact bindS hrun rfl
  · have hm := wgt_mem (List.getElem_mem hi)
    have ht := bodyB_take l h i
    unfold rows_Write_l1
    refine condT (dT (by dsimp only; omega)) (bindS (getI_lt hi) (bindS (Texts2_p (by omega) (by omega) (by rw [List.length_append]; omega)) ?_))
    dsimp only
    rw [w64 (by omega), List.take_succ_eq_append_getElem hi, bodyB_snoc]
    simp only [rowB, List.append_assoc]
    rfl
  · unfold rows_Write_l1
    refine condF (dF (by dsimp only; omega)) ?_
    dsimp only
    rw [List.take_length]
    rfl
theorem refBytes_p {l : List DRow} (h : wgt l ≤ 1200) : watershedref15_Bytes l = some (bytesB l, ((), ())) := by
  have hlen := wgt_len l
  have hg : [(l.length : Int)].all goodB = true := by
    simp only [List.all_cons, List.all_nil, Bool.and_true]
    exact goodB_iff.2 (by omega)
  have hn := refWriteN_p (xs := [(l.length : Int)]) (by simp)
  rw [if_pos hg] at hn
  have hc : catN [(l.length : Int)] = numF l.length := by simp [catN]
  rw [hc] at hn
  have h9 := numF_len9 (n := l.length) (by omega)
  unfold watershedref15_Bytes
  refine bindS hn ?_
  have hrun := loopM_run (step := watershedref15_Bytes_l1) (fun i : Nat => ((l, numF l.length ++ bodyB (l.take i), (i : Int), ()), ((), ()))) (N := l.length) (b := ((bytesB l, ()), ((), (), ()))) (fun i hi => ?_) ?_
  · have e0 : numF l.length ++ bodyB (l.take 0) = numF l.length := by simp [bodyB]
    rw [e0] at hrun
    exact bindS hrun rfl
  · have hm := wgt_mem (List.getElem_mem hi)
    have ht := bodyB_take l h i
    have h1 := rowF_len (t := l[i].key) (by omega)
    have h2 := rowF_len (t := l[i].value) (by omega)
    unfold watershedref15_Bytes_l1
    refine condT (dT (by dsimp only; omega)) (bindS (getI_lt hi) (bindS (getI_lt hi) (bindS (refWriteT_p (by omega) (by omega)) (iteT (by dsimp only; simp only [List.length_append]; omega) ?_))))
    dsimp only
    rw [w64 (by omega), List.take_succ_eq_append_getElem hi, bodyB_snoc]
    simp only [rowB, List.append_assoc]
    rfl
  · unfold watershedref15_Bytes_l1
    refine condF (dF (by dsimp only; omega)) ?_
    dsimp only
    rw [List.take_length]
    rfl
theorem sameBytes_p (l : List UInt8) (hl : l.length ≤ 140737488355328) : watershedkit_SameBytes l l = some (true, ()) := by
  have hrun := loopM_run (step := watershedkit_SameBytes_l1) (fun i : Nat => ((l, l, (i : Int), ()), ())) (N := l.length) (b := .inr ((), ())) (fun i hi => ?_) ?_
  · unfold watershedkit_SameBytes
    exact condF (by simp) (bindS hrun rfl)
  · unfold watershedkit_SameBytes_l1
    refine condT (dT (by dsimp only; omega)) (bindS (getI_lt hi) (bindS (getI_lt hi) (condF (by simp) ?_)))
    dsimp only
    rw [w64 (by omega)]
    rfl
  · unfold watershedkit_SameBytes_l1
    exact condF (dF (by dsimp only; omega)) rfl
/-- Rows, read. -/
def goodR (out : List DRow) (x : DRow) : Bool := rightR x && match out.getLast? with
  | some y => decide (y.key < x.key)
  | none => true
def readN : Nat → List DRow → Option (List UInt8) → Option (List DRow × Option (List UInt8))
  | 0, out, o => some (out, o)
  | k + 1, out, o =>
    let x : DRow := ⟨(rowO 20 o).1, (rowO 20 (rowO 20 o).2).1⟩
    if ((rowO 20 (rowO 20 o).2).2.isSome && goodR out x) = true then readN k (out ++ [x]) (rowO 20 (rowO 20 o).2).2 else none
theorem rowO_small {most : Nat} {o : Option (List UInt8)} : (rowO most o).1.length ≤ most := by
  unfold rowO
  cases h : (numO most o).2 with
  | none => exact Nat.zero_le _
  | some l =>
    have := numO_le h
    dsimp only
    split
    · exact Nat.zero_le _
    · dsimp only
      rw [List.length_take]; omega
theorem failed_p (o : Option (List UInt8)) : rows_Read1 ((), ()) (rdR o) = some (o.isNone, (((), ()), rdR o, ())) := by
  unfold rows_Read1
  cases o with
  | none => exact bindS (v := (0, (rdR none, ()))) rfl (condT rfl (bindS (v := (4, (rdR none, ()))) rfl rfl))
  | some l =>
    refine bindS (v := ((l.length : Int), (rdR (some l), ()))) rfl ?_
    cases l with
    | nil => exact condT rfl (bindS (v := (0, (rdR (some []), ()))) rfl rfl)
    | cons b l => exact condF (dF (by simp only [List.length_cons]; omega)) rfl
theorem one_p (o : Option (List UInt8)) : rows_Read2 ((), ()) ((), ()) (rdR o) = some (((⟨(rowO 20 o).1, (rowO 20 (rowO 20 o).2).1⟩ : DRow), (rowO 20 (rowO 20 o).2).2.isSome && rightR ⟨(rowO 20 o).1, (rowO 20 (rowO 20 o).2).1⟩, ()), (((), ()), ((), ()), rdR (rowO 20 (rowO 20 o).2).2, ())) := by
  have h1 : (rowO 20 o).1.length ≤ 20 := rowO_small
  have hr := right_r (x := ⟨(rowO 20 o).1, (rowO 20 (rowO 20 o).2).1⟩) (by unfold OkT; dsimp only; omega)
  unfold rows_Read2
  refine bindS (Text_p 20 (by omega) _) (bindS (Text_p 20 (by omega) _) (bindS (failed_p _) ?_))
  dsimp only
  cases h : (rowO 20 (rowO 20 o).2).2 with
  | none => exact condF rfl rfl
  | some l => exact condT rfl (bindS hr rfl)
theorem last_get {out : List DRow} (h : 0 < out.length) (hl : out.length ≤ 1000) : ∃ y, out.getLast? = some y ∧ getI out (IntKind.i64.wrap ((out.length : Int) - 1)) = some y := by
  refine ⟨out[out.length - 1], ?_, ?_⟩
  · rw [List.getLast?_eq_getElem?, List.getElem?_eq_getElem (by omega)]
  · rw [w64 (by omega), show (out.length : Int) - 1 = ((out.length - 1 : Nat) : Int) by omega]
    exact getI_lt (by omega)
theorem readLoop_p {n : Nat} (hn : n ≤ 400) (o : Option (List UInt8)) : ∃ z, loopM rows_read_l1 (((), [], (n : Int), 0, ()), (((), ()), ((), ()), rdR o, (), ())) = some z ∧ match readN n [] o with
    | some (l, o') => z = .inr ((l, ()), (((), ()), ((), ()), rdR o', (), (), ()))
    | none => ∃ o', z = .inl (((), false, ()), (((), ()), ((), ()), rdR o', (), ())) := by
  refine loopM_spec (fun m a => ∃ (i : Nat) (out : List DRow) (q : Option (List UInt8)), a = (((), out, (n : Int), (i : Int), ()), (((), ()), ((), ()), rdR q, (), ())) ∧ i ≤ n ∧ out.length = i ∧ m = n - i ∧ readN n [] o = readN (n - i) out q) _ ?_ (n := n) ⟨0, [], o, rfl, Nat.zero_le _, rfl, rfl, rfl⟩
  rintro m a ⟨i, out, q, rfl, h1, h2, rfl, h3⟩
  unfold rows_read_l1
  by_cases hi : i < n
  · have hk : readN (n - i) out q = if ((rowO 20 (rowO 20 q).2).2.isSome && goodR out ⟨(rowO 20 q).1, (rowO 20 (rowO 20 q).2).1⟩) = true then readN (n - (i + 1)) (out ++ [⟨(rowO 20 q).1, (rowO 20 (rowO 20 q).2).1⟩]) (rowO 20 (rowO 20 q).2).2 else none := by
      rw [show n - i = (n - (i + 1)) + 1 by omega]; rfl
    have hp := one_p q
    generalize (⟨(rowO 20 q).1, (rowO 20 (rowO 20 q).2).1⟩ : DRow) = x at *
    generalize (rowO 20 (rowO 20 q).2).2 = q2 at *
    cases hs : (q2.isSome && rightR x) with
    | false =>
      right
      rw [hs] at hp
      have hno : ¬ (q2.isSome && goodR out x) = true := by
        unfold goodR
        cases hq : q2.isSome with
        | false => simp
        | true => rw [hq, Bool.true_and] at hs; rw [hs]; simp
      rw [h3, hk, if_neg hno]
      exact ⟨_, condT (dT (by dsimp only; omega)) (bindS hp (condT rfl rfl)), _, rfl⟩
    | true =>
      rw [hs] at hp
      rw [Bool.and_eq_true] at hs
      by_cases h0 : 0 < out.length
      · obtain ⟨y, y1, y2⟩ := last_get h0 (by omega)
        have hgood : (q2.isSome && goodR out x) = decide (y.key < x.key) := by
          unfold goodR; rw [hs.1, hs.2, y1]; simp
        by_cases hlt : y.key < x.key
        · left
          refine ⟨n - (i + 1), (((), out ++ [x], (n : Int), ((i + 1 : Nat) : Int), ()), (((), ()), ((), ()), rdR q2, (), ())), by omega, condT (dT (by dsimp only; omega)) (bindS hp (condF rfl (condT (dT (by dsimp only; omega)) (bindS y2 (condF (by simp [hlt]) (iteT (by simp only [List.length_singleton]; omega) ?_)))))), i + 1, _, _, rfl, by omega, by rw [List.length_append]; simp; omega, rfl, ?_⟩
          · dsimp only
            rw [w64 (by omega)]; rfl
          · rw [h3, hk, hgood, dT hlt, if_pos rfl]
        · right
          rw [h3, hk, hgood, dF hlt, if_neg Bool.false_ne_true]
          exact ⟨_, condT (dT (by dsimp only; omega)) (bindS hp (condF rfl (condT (dT (by dsimp only; omega)) (bindS y2 (condT (by simp [hlt]) rfl))))), _, rfl⟩
      · left
        have hnil : out = [] := List.eq_nil_of_length_eq_zero (by omega)
        have hgood : (q2.isSome && goodR out x) = true := by
          unfold goodR; rw [hs.1, hs.2, hnil]; rfl
        refine ⟨n - (i + 1), (((), out ++ [x], (n : Int), ((i + 1 : Nat) : Int), ()), (((), ()), ((), ()), rdR q2, (), ())), by omega, condT (dT (by dsimp only; omega)) (bindS hp (condF rfl (condF (dF (by dsimp only; omega)) (iteT (by simp only [List.length_singleton]; omega) ?_)))), i + 1, _, _, rfl, by omega, by rw [List.length_append]; simp; omega, rfl, ?_⟩
        · dsimp only
          rw [w64 (by omega)]; rfl
        · rw [h3, hk, if_pos hgood]
  · right
    obtain rfl : i = n := by omega
    rw [h3, Nat.sub_self]
    exact ⟨_, condF (dF (by dsimp only; omega)) rfl, rfl⟩
theorem refRight_r {x : DRow} (hx : OkT x.key) : watershedref15_Right x = some (rightR x, ()) := by
  unfold watershedref15_Right rightR
  refine bindS (refKey_p hx) ?_
  cases keyB x.key with
  | true =>
    refine condT rfl ?_
    have : decide ((x.value.length : Int) ≤ 20) = decide (x.value.length ≤ 20) := by
      by_cases h : x.value.length ≤ 20
      · rw [dT h, dT (by omega)]
      · rw [dF h, dF (by omega)]
    rw [this]; rfl
  | false => exact condF rfl rfl
theorem refLoop_p {n : Nat} (hn : n ≤ 400) {o : Option (List UInt8)} (ho : okL o) : ∃ z, loopM watershedref15_Read_l1 (((), (n : Int), [], 0, ()), (rfR o, (), ())) = some z ∧ match readN n [] o with
    | some (l, o') => z = .inr (((), l, ()), (rfR o', (), (), ()))
    | none => ∃ o', z = .inl (((), false, ()), (rfR o', (), ())) := by
  refine loopM_spec (fun m a => ∃ (i : Nat) (out : List DRow) (q : Option (List UInt8)), a = (((), (n : Int), out, (i : Int), ()), (rfR q, (), ())) ∧ okL q ∧ i ≤ n ∧ out.length = i ∧ m = n - i ∧ readN n [] o = readN (n - i) out q) _ ?_ (n := n) ⟨0, [], o, rfl, ho, Nat.zero_le _, rfl, rfl, rfl⟩
  rintro m a ⟨i, out, q, rfl, hq, h1, h2, rfl, h3⟩
  unfold watershedref15_Read_l1
  by_cases hi : i < n
  · have hk : readN (n - i) out q = if ((rowO 20 (rowO 20 q).2).2.isSome && goodR out ⟨(rowO 20 q).1, (rowO 20 (rowO 20 q).2).1⟩) = true then readN (n - (i + 1)) (out ++ [⟨(rowO 20 q).1, (rowO 20 (rowO 20 q).2).1⟩]) (rowO 20 (rowO 20 q).2).2 else none := by
      rw [show n - i = (n - (i + 1)) + 1 by omega]; rfl
    have k1 := rowO_ok (most := 20) hq
    have k2 := rowO_ok (most := 20) k1
    have hp1 := refRow2_p 20 (by omega) hq
    have hp2 := refRow2_p 20 (by omega) k1
    have hlen : (rowO 20 q).1.length ≤ 20 := rowO_small
    have hr := refRight_r (x := ⟨(rowO 20 q).1, (rowO 20 (rowO 20 q).2).1⟩) (by unfold OkT; dsimp only; omega)
    cases hs : (rowO 20 (rowO 20 q).2).2 with
    | none =>
      right
      rw [hs] at hp2
      rw [h3, hk, hs, if_neg (by simp)]
      exact ⟨_, condT (dT (by dsimp only; omega)) (bindS hp1 (bindS hp2 (condT rfl rfl))), none, rfl⟩
    | some l2 =>
      rw [hs] at hp2 k2
      cases hrr : rightR ⟨(rowO 20 q).1, (rowO 20 (rowO 20 q).2).1⟩ with
      | false =>
        right
        rw [hrr] at hr
        rw [h3, hk, hs, if_neg (by unfold goodR; rw [hrr]; simp)]
        exact ⟨_, condT (dT (by dsimp only; omega)) (bindS hp1 (bindS hp2 (condF rfl (bindS hr (condT rfl rfl))))), some l2, rfl⟩
      | true =>
        rw [hrr] at hr
        by_cases h0 : 0 < out.length
        · obtain ⟨y, y1, y2⟩ := last_get h0 (by omega)
          rw [h2] at y2
          have hgood : ((some l2).isSome && goodR out ⟨(rowO 20 q).1, (rowO 20 (rowO 20 q).2).1⟩) = decide (y.key < (rowO 20 q).1) := by
            unfold goodR; rw [hrr, y1]; simp
          by_cases hlt : y.key < (rowO 20 q).1
          · left
            refine ⟨n - (i + 1), (((), (n : Int), out ++ [⟨(rowO 20 q).1, (rowO 20 (rowO 20 q).2).1⟩], ((i + 1 : Nat) : Int), ()), (rfR (some l2), (), ())), by omega, condT (dT (by dsimp only; omega)) (bindS hp1 (bindS hp2 (condF rfl (bindS hr (condF rfl (condT (dT (by dsimp only; omega)) (bindS y2 (condF (by simp [hlt]) (iteT (by simp only [List.length_singleton]; omega) ?_))))))))), i + 1, _, _, rfl, k2, by omega, by rw [List.length_append]; simp; omega, rfl, ?_⟩
            · dsimp only
              rw [w64 (by omega)]; rfl
            · rw [h3, hk, hs, hgood, dT hlt, if_pos rfl]
          · right
            rw [h3, hk, hs, hgood, dF hlt, if_neg Bool.false_ne_true]
            exact ⟨_, condT (dT (by dsimp only; omega)) (bindS hp1 (bindS hp2 (condF rfl (bindS hr (condF rfl (condT (dT (by dsimp only; omega)) (bindS y2 (condT (by simp [hlt]) rfl)))))))), some l2, rfl⟩
        · left
          have hnil : out = [] := List.eq_nil_of_length_eq_zero (by omega)
          have hgood : ((some l2).isSome && goodR out ⟨(rowO 20 q).1, (rowO 20 (rowO 20 q).2).1⟩) = true := by
            unfold goodR; rw [hrr, hnil]; rfl
          refine ⟨n - (i + 1), (((), (n : Int), out ++ [⟨(rowO 20 q).1, (rowO 20 (rowO 20 q).2).1⟩], ((i + 1 : Nat) : Int), ()), (rfR (some l2), (), ())), by omega, condT (dT (by dsimp only; omega)) (bindS hp1 (bindS hp2 (condF rfl (bindS hr (condF rfl (condF (dF (by dsimp only; omega)) (iteT (by simp only [List.length_singleton]; omega) ?_))))))), i + 1, _, _, rfl, k2, by omega, by rw [List.length_append]; simp; omega, rfl, ?_⟩
          · dsimp only
            rw [w64 (by omega)]; rfl
          · rw [h3, hk, hs, if_pos hgood]
  · right
    obtain rfl : i = n := by omega
    rw [h3, Nat.sub_self]
    exact ⟨_, condF (dF (by dsimp only; omega)) rfl, rfl⟩
/-- What is read: rows, and what is left. -/
def readR (l : List UInt8) : Option (List DRow × Option (List UInt8)) := match (numO 400 (some l)).2 with
  | none => none
  | some r => readN (numO 400 (some l)).1.toNat [] (some r)
theorem readN_some : ∀ (k : Nat) (out : List DRow) (r : List UInt8) {l : List DRow} {o : Option (List UInt8)}, readN k out (some r) = some (l, o) → ∃ r', o = some r'
  | 0, out, r, l, o, h => by
    injection h with h
    injection h with h1 h2
    exact ⟨r, h2.symm⟩
  | k + 1, out, r, l, o, h => by
    unfold readN at h
    dsimp only at h
    split at h
    · rename_i hc
      rw [Bool.and_eq_true] at hc
      obtain ⟨r', hr⟩ := Option.isSome_iff_exists.1 hc.1
      rw [hr] at h
      exact readN_some k _ r' h
    · cases h
theorem Read_p (l : List UInt8) : ∃ o, rows_Read (true, false, l, ()) = some ((match readR l with | some p => (p.1, true, ()) | none => ([], false, ())), (rdR o, (), (), ())) ∧ ∀ p, readR l = some p → o = p.2 := by
  have hn := Num1_p 400 l
  unfold rows_Read readR
  cases h : (numO 400 (some l)).2 with
  | none =>
    rw [h] at hn
    exact ⟨none, bindS hn (bindS (failed_p none) (condT rfl rfl)), fun p hp => by cases hp⟩
  | some r =>
    rw [h] at hn
    obtain ⟨h1, h2⟩ := numO_le h
    obtain ⟨n, hn'⟩ : ∃ n : Nat, (numO 400 (some l)).1 = (n : Int) := ⟨(numO 400 (some l)).1.toNat, by omega⟩
    rw [hn', Int.toNat_natCast]
    rw [hn'] at hn
    obtain ⟨z, hz, hm⟩ := readLoop_p (n := n) (by omega) (some r)
    dsimp only
    cases hr : readN n [] (some r) with
    | none =>
      rw [hr] at hm
      obtain ⟨o', rfl⟩ := hm
      refine ⟨o', bindS hn (bindS (failed_p (some r)) (condF rfl (bindS (v := (([], false, ()), (((), ()), ((), ()), rdR o', (), ()))) (by unfold rows_read; exact bindS hz rfl) rfl))), fun p hp => by cases hp⟩
    | some p =>
      obtain ⟨l', o'⟩ := p
      rw [hr] at hm
      dsimp only at hm
      subst hm
      refine ⟨o', bindS hn (bindS (failed_p (some r)) (condF rfl (bindS (v := ((l', true, ()), (((), ()), ((), ()), rdR o', (), ()))) (by unfold rows_read; exact bindS hz rfl) rfl))), fun p hp => by injection hp with hp; subst hp; rfl⟩
theorem refRead_p {l : List UInt8} (hl : l.length ≤ 140737488355328) : ∃ o, watershedref15_Read ⟨l, false⟩ = some ((match readR l with | some p => (p.1, true, ()) | none => ([], false, ())), (rfR o, (), ())) ∧ ∀ p, readR l = some p → o = p.2 := by
  have k0 : okL (some l) := hl
  have k1 := numO_ok (most := 400) k0
  have hn := refNum2_p 400 k0
  unfold watershedref15_Read readR
  cases h : (numO 400 (some l)).2 with
  | none =>
    rw [h] at hn
    have hz : (numO 400 (some l)).1 = 0 := by
      unfold numO at h ⊢
      dsimp only at h ⊢
      cases hq : numR 400 l with
      | none => rfl
      | some p => rw [hq] at h; cases h
    rw [hz] at hn
    obtain ⟨z, hzz, hm⟩ := refLoop_p (n := 0) (by omega) (o := none) trivial
    change z = _ at hm
    subst hm
    exact ⟨none, bindS hn (bindS hzz (condT rfl rfl)), fun p hp => by cases hp⟩
  | some r =>
    rw [h] at hn k1
    obtain ⟨h1, h2⟩ := numO_le h
    obtain ⟨n, hn'⟩ : ∃ n : Nat, (numO 400 (some l)).1 = (n : Int) := ⟨(numO 400 (some l)).1.toNat, by omega⟩
    rw [hn', Int.toNat_natCast]
    rw [hn'] at hn
    obtain ⟨z, hz, hm⟩ := refLoop_p (n := n) (by omega) k1
    dsimp only
    cases hr : readN n [] (some r) with
    | none =>
      rw [hr] at hm
      obtain ⟨o', rfl⟩ := hm
      exact ⟨o', bindS hn (bindS hz rfl), fun p hp => by cases hp⟩
    | some p =>
      obtain ⟨l', o'⟩ := p
      rw [hr] at hm
      dsimp only at hm
      subst hm
      obtain ⟨r', rfl⟩ := readN_some _ _ _ hr
      exact ⟨some r', bindS hn (bindS hz (condF rfl rfl)), fun p hp => by injection hp with hp; subst hp; rfl⟩
theorem readN_len : ∀ (k : Nat) (out : List DRow) (o : Option (List UInt8)) {l : List DRow} {o' : Option (List UInt8)}, readN k out o = some (l, o') → l.length ≤ out.length + k
  | 0, out, o, l, o', h => by
    injection h with h
    injection h with h1 h2
    subst h1
    exact Nat.le_refl _
  | k + 1, out, o, l, o', h => by
    unfold readN at h
    dsimp only at h
    split at h
    · have := readN_len k _ _ h
      rw [List.length_append, List.length_singleton] at this
      omega
    · cases h
theorem bytesLoop_p {s b : List UInt8} (hs : s.length ≤ 140737488355328) (hb : b.length ≤ 140737488355328) : loopM watershedlaw15_RowsBytes_l1 (([s, b], 0, ()), ((), ())) = some (.inr ((), ((), ()))) := by
  have step (l : List UInt8) (hl : l.length ≤ 140737488355328) (i : Int) (hi : getI [s, b] i = some l) (h2 : i < 2) (h0 : 0 ≤ i) : watershedlaw15_RowsBytes_l1 (([s, b], i, ()), ((), ())) = some (.inl (([s, b], i + 1, ()), ((), ()))) := by
    obtain ⟨o1, r1, q1⟩ := Read_p l
    obtain ⟨o2, r2, q2⟩ := refRead_p hl
    unfold watershedlaw15_RowsBytes_l1
    refine condT (dT h2) (bindS hi (bindS hi (bindS (v := ((), ((true, false, l, ()), (), ()))) (by unfold wire_NewReader clone42; exact bindS (iteT (by omega) rfl) rfl) (bindS r1 (bindS r2 ?_)))))
    cases hs : readR l with
    | some p =>
      obtain ⟨rows, o⟩ := p
      have e1 := q1 _ hs
      have e2 := q2 _ hs
      have hrl : rows.length ≤ 400 ∧ ∃ r', o = some r' := by
        unfold readR at hs
        cases hn : (numO 400 (some l)).2 with
        | none => rw [hn] at hs; cases hs
        | some r =>
          rw [hn] at hs
          have h1 := numO_le hn
          have h3 := readN_len _ _ _ hs
          simp only [List.length_nil] at h3
          exact ⟨by omega, readN_some _ _ _ hs⟩
      obtain ⟨hrl, r', rfl⟩ := hrl
      dsimp only at e1 e2
      subst e1 e2
      refine condF (by simp) (bindS (SameLines_p (a := rows) (by omega)) (condF (by simp) (condT rfl ?_)))
      refine bindS (v := ((r'.length : Int), (rdR (some r'), ()))) rfl (condF (by simp [rfR]) ?_)
      dsimp only
      rw [w64 (by omega)]
    | none =>
      refine condF (by simp) (bindS (SameLines_p (by simp)) (condF (by simp) (condF rfl ?_)))
      dsimp only
      rw [w64 (by omega)]
  refine (loopM_next (step s hs 0 rfl (by omega) (by omega))).trans ((loopM_next (step b hb 1 rfl (by omega) (by omega))).trans (loopM_end ?_))
  unfold watershedlaw15_RowsBytes_l1
  exact condF rfl rfl
theorem RowsBytes_p (x0 : List DRow) (x1 : List UInt8) (k0 : ok_LDRow x0) (k1 : ok_LUInt8 x1) : watershedlaw15_RowsBytes x0 x1 = some (true, ()) := by
  obtain ⟨n, n1, n2⟩ := LinesOf_p k0.len (fun r hr => ⟨(k0.all r hr).1, (k0.all r hr).2.1⟩)
  have hl1 := k1.len
  unfold watershedlaw15_RowsBytes
  refine bindS n1 ?_
  by_cases hn : (1200 : Int) < n
  · exact condT (dT hn) (bindS awake_p rfl)
  refine condF (dF hn) ?_
  by_cases hlong : (20000 : Int) < (x1.length : Int)
  · exact condT (dT hlong) (bindS awake_p rfl)
  have hw := n2 (by omega)
  have hlen := wgt_len x0
  have hbl : (bytesB x0).length ≤ 40000 := by
    have := bodyB_len x0 hw
    have := numF_len9 (n := x0.length) (by omega)
    unfold bytesB
    rw [List.length_append]; omega
  obtain ⟨st, d1⟩ := Done_p (sp := false) (b := bytesB x0) (by omega)
  rw [if_neg Bool.false_ne_true] at d1
  refine condF (dF hlong) (bindS (Lent_p (l := x0) (by omega)) (bindS (v := ((), ((true, false, [], ()), (), ()))) rfl (bindS (Write_p hw) (bindS d1 (condF rfl (bindS (refBytes_p hw) (bindS (sameBytes_p (bytesB x0) (by omega)) (condF rfl (bindS (Kept_p (l := x0) (by omega)) (condF rfl (bindS (bytesLoop_p (s := bytesB x0) (b := x1) (by omega) hl1) (bindS awake_p rfl))))))))))))
end Go.Proofs.Ytlmmpfbdgiokmaa
