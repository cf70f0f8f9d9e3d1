/- Tables of rows, plainly. -/
import Derived.Test.YtlmmpfbdgiokmaaGreatSpr
import Derived.Test.YtlmmpfbdgiokmaaGreatPl
namespace Go.Proofs.YtlmmpfbdgiokmaaGreat
open Go.RowKit
set_option maxRecDepth 100000
set_option linter.unusedVariables false
set_option linter.unusedSimpArgs false
theorem cmpB : ∀ a b : Tx, Lib.compareBytes a b = if a < b then -1 else if a = b then 0 else 1
  | [], [] => by simp [Lib.compareBytes]
  | [], b :: bs => by simp [Lib.compareBytes]
  | a :: cs, [] => by simp [Lib.compareBytes]
  | a :: cs, b :: bs => by
    rw [Lib.compareBytes, cmpB cs bs]
    by_cases h1 : a < b
    · rw [if_pos h1, if_pos (by rw [List.cons_lt_cons_iff]; exact .inl h1)]
    · by_cases h2 : b < a
      · rw [if_neg h1, if_pos h2, if_neg (by rw [List.cons_lt_cons_iff]; rintro (h | ⟨h, _⟩); exact h1 h; subst h; exact h1 h2), if_neg (by intro h; injection h with h; subst h; exact h1 h2)]
      · have h3 : a = b := by
          rcases UInt8.lt_or_lt_of_ne (a := a) (b := b) |> fun f => Classical.em (a = b) with h | h
          · exact h
          · exact absurd (UInt8.lt_or_lt_of_ne h) (by rintro (h | h); exact h1 h; exact h2 h)
        subst h3
        rw [if_neg h1, if_neg h2]
        have e1 : (a :: cs < a :: bs) ↔ cs < bs := by rw [List.cons_lt_cons_iff]; simp [h1]
        by_cases h4 : cs < bs
        · rw [if_pos h4, if_pos (e1.2 h4)]
        · rw [if_neg h4, if_neg (fun h => h4 (e1.1 h))]
          by_cases h5 : cs = bs
          · rw [if_pos h5, if_pos (by rw [h5])]
          · rw [if_neg h5, if_neg (by intro h; injection h with _ h; exact h5 h)]
theorem compare_s (a b : Tx) : strings_Compare a b = some (if a < b then -1 else if a = b then 0 else 1, ()) := by
  unfold strings_Compare bytealg_CompareString cmpstr
  rw [cmpB]
  rfl
theorem at1_p (r : DRow) (k : Tx) : rows_at1 r k = some (if r.key < k then -1 else if r.key = k then 0 else 1, ()) := by
  unfold rows_at1
  rw [compare_s]
  rfl
theorem ltTr {a b c : Tx} (h1 : a < b) (h2 : b < c) : a < c := by grind
theorem ltAs {a b : Tx} (h : a < b) : ¬ b < a := by grind
theorem ltTri {a b : Tx} (h1 : ¬ a < b) (h2 : a ≠ b) : b < a := by grind
theorem leLt {a b c : Tx} (h1 : ¬ b < a) (h2 : b < c) : a < c := by grind
theorem ltLe {a b c : Tx} (h1 : a < b) (h2 : ¬ c < b) : a < c := by grind
def srt (l : List DRow) : Prop := l.Pairwise fun a b => a.key < b.key
/-- How many rows have a lower key. -/
def lb (k : Tx) : List DRow → Nat
  | [] => 0
  | r :: l => if r.key < k then lb k l + 1 else 0
theorem lb_le (k : Tx) : ∀ l, lb k l ≤ l.length
  | [] => Nat.le_refl _
  | r :: l => by
    unfold lb
    split
    · exact Nat.succ_le_succ (lb_le k l)
    · exact Nat.zero_le _
theorem lb_get {k : Tx} : ∀ {l : List DRow} (hs : srt l) {i : Nat} (hi : i < l.length), (l[i].key < k ↔ i < lb k l)
  | [], _, _, hi => by cases hi
  | r :: l, hs, 0, hi => by
    unfold lb
    rw [List.getElem_cons_zero]
    split
    · rename_i h; simp [h]
    · rename_i h; simp [h]
  | r :: l, hs, i + 1, hi => by
    have hs' : srt l := (List.pairwise_cons.1 hs).2
    have ih := lb_get hs' (k := k) (i := i) (by simpa using hi)
    unfold lb
    rw [List.getElem_cons_succ]
    split
    · rw [ih]; omega
    · rename_i h
      have h1 := (List.pairwise_cons.1 hs).1 (l[i]'(by simpa using hi)) (List.getElem_mem _)
      constructor
      · intro h2; exact absurd (ltTr h1 h2) h
      · intro h2; omega
theorem lb_take {k : Tx} : ∀ {l : List DRow} (hs : srt l), l.take (lb k l) = l.filter fun r => decide (r.key < k)
  | [], _ => rfl
  | r :: l, hs => by
    have hs' := List.pairwise_cons.1 hs
    unfold lb
    by_cases h : r.key < k
    · rw [if_pos h, List.take_succ_cons, lb_take hs'.2, List.filter_cons_of_pos (by simpa using h)]
    · rw [if_neg h, List.take_zero, List.filter_cons_of_neg (by simpa using h)]
      refine (List.filter_eq_nil_iff.2 fun x hx => ?_).symm
      have := hs'.1 x hx
      simp only [decide_eq_true_eq]
      exact fun h2 => h (ltTr this h2)
theorem lb_drop {k : Tx} : ∀ {l : List DRow} (hs : srt l), l.drop (lb k l) = l.filter fun r => !decide (r.key < k)
  | [], _ => rfl
  | r :: l, hs => by
    have hs' := List.pairwise_cons.1 hs
    unfold lb
    by_cases h : r.key < k
    · rw [if_pos h, List.drop_succ_cons, lb_drop hs'.2, List.filter_cons_of_neg (by simpa using h)]
    · rw [if_neg h, List.drop_zero]
      refine (List.filter_eq_self.2 fun x hx => ?_).symm
      simp only [Bool.not_eq_true', decide_eq_false_iff_not]
      rcases List.mem_cons.1 hx with rfl | hx
      · exact h
      · exact fun h2 => h (ltTr (hs'.1 x hx) h2)
theorem lb_mono {a b : Tx} (h : ¬ b < a) : ∀ l : List DRow, lb a l ≤ lb b l
  | [] => Nat.le_refl _
  | r :: l => by
    unfold lb
    by_cases h1 : r.key < a
    · rw [if_pos h1, if_pos (ltLe h1 h)]
      exact Nat.succ_le_succ (lb_mono h l)
    · rw [if_neg h1]; exact Nat.zero_le _
/-- Is there a row of this key? -/
def fnd (k : Tx) (l : List DRow) : Bool := match l[lb k l]? with
  | some r => decide (r.key = k)
  | none => false
theorem mid_p {i j : Nat} (h : i ≤ j) (hj : j ≤ 140737488355328) : IntKind.i64.wrap ((IntKind.u64.wrap (IntKind.i64.wrap ((i : Int) + (j : Int)))).fdiv (2 ^ min (1 : Int).toNat (IntKind.u64.bits))) = (((i + j) / 2 : Nat) : Int) := by
  rw [w64 (n := (i : Int) + (j : Int)) (by omega), IntKind.wrap_u64, show (2 : Int) ^ min (1 : Int).toNat (IntKind.u64.bits) = 2 from rfl, Int.fdiv_eq_ediv_of_nonneg _ (by omega), w64 (by omega)]
  omega
theorem search_p {k : Tx} {l : List DRow} (hs : srt l) (hl : l.length ≤ 140737488355328) : slices_BinarySearchFunc l.length k l = some ((((lb k l : Nat) : Int), fnd k l, ()), (l, ())) := by
  have hle := lb_le k l
  have key : loopM slices_BinarySearchFunc_l1 ((l.length, k, (), ((l.length : Nat) : Int), 0, ((l.length : Nat) : Int), ()), (l, ())) = some ((l.length, k, (), ((l.length : Nat) : Int), ((lb k l : Nat) : Int), ()), (l, ())) := by
    refine loopM_eq_of (fun m a => ∃ i j : Nat, a = ((l.length, k, (), ((l.length : Nat) : Int), (i : Int), (j : Int), ()), (l, ())) ∧ i ≤ lb k l ∧ lb k l ≤ j ∧ j ≤ l.length ∧ m = j - i) _ ?_ (n := l.length) ⟨0, l.length, rfl, Nat.zero_le _, hle, Nat.le_refl _, rfl⟩
    rintro m a ⟨i, j, rfl, h1, h2, h3, rfl⟩
    unfold slices_BinarySearchFunc_l1
    by_cases hij : i < j
    · left
      have hm := mid_p (i := i) (j := j) (by omega) (by omega)
      have hmid : (i + j) / 2 < l.length := by omega
      have hg : l[0 + (((i + j) / 2 : Nat) : Int).toNat]? = some l[(i + j) / 2] := by rw [Nat.zero_add, Int.toNat_natCast, List.getElem?_eq_getElem hmid]
      have hiff := lb_get hs (k := k) hmid
      by_cases hc : l[(i + j) / 2].key < k
      · refine ⟨j - ((i + j) / 2 + 1), ((l.length, k, (), ((l.length : Nat) : Int), ((((i + j) / 2 + 1 : Nat)) : Int), (j : Int), ()), (l, ())), by omega, condT (dT (by dsimp only; omega)) ?_, (i + j) / 2 + 1, j, rfl, by have := hiff.1 hc; omega, h2, h3, rfl⟩
        dsimp only
        rw [hm]
        refine iteT (by omega) (bindS hg (bindS (at1_p _ _) ?_))
        rw [if_pos hc]
        refine condT rfl ?_
        rw [w64 (by omega)]
        rfl
      · refine ⟨(i + j) / 2 - i, ((l.length, k, (), ((l.length : Nat) : Int), (i : Int), (((i + j) / 2 : Nat) : Int), ()), (l, ())), by omega, condT (dT (by dsimp only; omega)) ?_, i, (i + j) / 2, rfl, h1, ?_, by omega, rfl⟩
        · dsimp only
          rw [hm]
          refine iteT (by omega) (bindS hg (bindS (at1_p _ _) ?_))
          rw [if_neg hc]
          exact condF (by split <;> rfl) rfl
        · rcases Nat.lt_or_ge ((i + j) / 2) (lb k l) with h | h
          · exact absurd (hiff.2 h) hc
          · exact h
    · right
      obtain rfl : i = lb k l := by omega
      exact condF (dF (by dsimp only; omega)) rfl
  unfold slices_BinarySearchFunc
  refine bindS key ?_
  unfold fnd
  by_cases hi : lb k l < l.length
  · have hg : l[0 + ((lb k l : Nat) : Int).toNat]? = some l[lb k l] := by rw [Nat.zero_add, Int.toNat_natCast, List.getElem?_eq_getElem hi]
    refine condT (dT (by dsimp only; omega)) (iteT (by dsimp only; omega) (bindS hg (bindS (at1_p _ _) ?_)))
    rw [List.getElem?_eq_getElem hi]
    have hno : ¬ l[lb k l].key < k := fun h => Nat.lt_irrefl _ ((lb_get hs hi).1 h)
    rw [if_neg hno]
    dsimp only
    by_cases he : l[lb k l].key = k
    · rw [if_pos he]; simp [he]
    · rw [if_neg he]; simp [he]
  · refine condF (dF (by dsimp only; omega)) ?_
    rw [List.getElem?_eq_none (by omega)]
theorem at_p {k : Tx} {l : List DRow} (hs : srt l) (hl : l.length ≤ 140737488355328) : rows_at k (l.length, ()) l = some ((((lb k l : Nat) : Int), fnd k l, ()), ((l.length, ()), l, ())) := by
  unfold rows_at
  exact bindS (search_p hs hl) rfl
theorem at2_p {k : Tx} {l : List DRow} (hs : srt l) (hl : l.length ≤ 140737488355328) : rows_at_2 k (l.length, true, ()) l = some ((((lb k l : Nat) : Int), fnd k l, ()), ((l.length, true, ()), l, ())) := by
  unfold rows_at_2
  exact bindS (search_p hs hl) rfl
/-- A row, put. -/
def putL (x : DRow) (l : List DRow) : List DRow := if fnd x.key l = true then l.set (lb x.key l) x else l.take (lb x.key l) ++ [x] ++ l.drop (lb x.key l)
theorem fnd_get {k : Tx} {l : List DRow} (h : fnd k l = true) : ∃ h : lb k l < l.length, l[lb k l].key = k := by
  unfold fnd at h
  cases hg : l[lb k l]? with
  | none => rw [hg] at h; cases h
  | some r =>
    rw [hg] at h
    obtain ⟨h1, h2⟩ := List.getElem?_eq_some_iff.1 hg
    exact ⟨h1, by rw [h2]; exact of_decide_eq_true h⟩
theorem putL_len (x : DRow) (l : List DRow) : l.length ≤ (putL x l).length ∧ (putL x l).length ≤ l.length + 1 := by
  have := lb_le x.key l
  unfold putL
  split
  · rw [List.length_set]; omega
  · simp only [List.length_append, List.length_take, List.length_drop, List.length_singleton]; omega
/-- A list about a place: what is ahead is lower, what is behind is higher. -/
theorem putL_eq {x : DRow} {l : List DRow} (hs : srt l) : putL x l = (l.filter fun r => decide (r.key < x.key)) ++ [x] ++ l.filter fun r => decide (x.key < r.key) := by
  have hd := lb_drop (k := x.key) hs
  have ht := lb_take (k := x.key) hs
  unfold putL
  split
  · rename_i h
    obtain ⟨h1, h2⟩ := fnd_get h
    have hset : l.set (lb x.key l) x = l.take (lb x.key l) ++ [x] ++ l.drop (lb x.key l + 1) := by
      rw [List.set_eq_take_append_cons_drop, if_pos h1, List.append_assoc]; rfl
    rw [hset, ht]
    congr 1
    rw [List.drop_eq_getElem_cons h1] at hd
    have hp : (l[lb x.key l] :: l.drop (lb x.key l + 1)).Pairwise fun a b => a.key < b.key := by
      rw [← List.drop_eq_getElem_cons h1]
      exact hs.sublist (List.drop_sublist _ _)
    have hp := List.pairwise_cons.1 hp
    rw [h2] at hp
    have e : (l.filter fun r => decide (x.key < r.key)) = (l.filter fun r => !decide (r.key < x.key)).filter fun r => decide (x.key < r.key) := by
      rw [List.filter_filter]
      congr 1
      funext r
      by_cases hq : x.key < r.key
      · simp [hq, ltAs hq]
      · simp [hq]
    rw [e, ← hd, List.filter_cons_of_neg (by rw [h2]; simp [ltT])]
    exact (List.filter_eq_self.2 fun r hr => by simpa using hp.1 r hr).symm
  · rename_i h
    rw [ht, hd]
    congr 1
    refine List.filter_congr fun r hr => ?_
    have hne : r.key ≠ x.key := fun he => by
      obtain ⟨i, hi, hri⟩ := List.getElem_of_mem hr
      have h1 : ¬ i < lb x.key l := fun h2 => by
        have := (lb_get hs hi).2 h2
        rw [hri, he] at this
        exact ltT _ this
      have hlt : lb x.key l < l.length := by omega
      have h2 : ¬ l[lb x.key l].key < x.key := fun h3 => Nat.lt_irrefl _ ((lb_get hs hlt).1 h3)
      apply h
      unfold fnd
      rw [List.getElem?_eq_getElem hlt]
      simp only [decide_eq_true_eq]
      rcases Nat.lt_or_ge (lb x.key l) i with h4 | h4
      · have h5 := List.pairwise_iff_getElem.1 hs (lb x.key l) i hlt hi h4
        rw [hri, he] at h5
        exact absurd h5 h2
      · obtain rfl : i = lb x.key l := by omega
        rw [hri, he]
    by_cases hq : x.key < r.key
    · simp [hq, ltAs hq]
    · simp [hq, ltTri hq (fun e => hne e.symm)]
theorem putL_srt {x : DRow} {l : List DRow} (hs : srt l) : srt (putL x l) := by
  rw [putL_eq hs]
  unfold srt
  rw [List.append_assoc, List.pairwise_append]
  refine ⟨hs.filter _, ?_, fun a ha b hb => ?_⟩
  · rw [List.singleton_append, List.pairwise_cons]
    exact ⟨fun r hr => by simpa using (List.mem_filter.1 hr).2, hs.filter _⟩
  · have h1 : a.key < x.key := by simpa using (List.mem_filter.1 ha).2
    rcases List.mem_append.1 hb with hb | hb
    · rw [List.mem_singleton.1 hb]; exact h1
    · have h2 : x.key < b.key := by simpa using (List.mem_filter.1 hb).2
      exact ltTr h1 h2
theorem mem_putL {x y : DRow} {l : List DRow} (hs : srt l) : y ∈ putL x l ↔ y = x ∨ (y ∈ l ∧ y.key ≠ x.key) := by
  rw [putL_eq hs]
  simp only [List.mem_append, List.mem_filter, decide_eq_true_eq, List.mem_singleton]
  constructor
  · rintro ((⟨h1, h2⟩ | rfl) | ⟨h1, h2⟩)
    · exact .inr ⟨h1, fun e => by rw [e] at h2; exact ltT _ h2⟩
    · exact .inl rfl
    · exact .inr ⟨h1, fun e => by rw [e] at h2; exact ltT _ h2⟩
  · rintro (rfl | ⟨h1, h2⟩)
    · exact .inl (.inr rfl)
    · by_cases hq : y.key < x.key
      · exact .inl (.inl ⟨h1, hq⟩)
      · exact .inr ⟨h1, ltTri hq h2⟩
theorem put_r {x : DRow} {l : List DRow} (hs : srt l) (hl : l.length + 1 ≤ 1000000) : rows_put x (l.length, ()) l = some ((), (((putL x l).length, ()), (), putL x l, ())) := by
  unfold rows_put
  refine bindS (at_p hs (by omega)) ?_
  have hle := lb_le x.key l
  unfold putL
  cases h : fnd x.key l with
  | true =>
    obtain ⟨h1, h2⟩ := fnd_get h
    have hg : l[0 + ((lb x.key l : Nat) : Int).toNat]? = some l[lb x.key l] := by rw [Nat.zero_add, Int.toNat_natCast, List.getElem?_eq_getElem h1]
    refine condT rfl (iteT (by dsimp only; omega) (bindS hg ?_))
    rw [if_pos rfl, List.length_set]
    dsimp only
    rw [Nat.zero_add, Int.toNat_natCast]
  | false =>
    rw [if_neg Bool.false_ne_true]
    have hok : InsertOk l.length ((lb x.key l : Nat) : Int) 0 1 1 l [x] := ⟨rfl, by omega, by omega, rfl, rfl, Nat.le_refl _, by omega⟩
    refine condF rfl (bindS (v := (l.length + 1, ((), (), l.take (lb x.key l) ++ [x] ++ l.drop (lb x.key l), ()))) ?_ ?_)
    · unfold insert
      exact iteT hok rfl
    · have hlen : (l.take (lb x.key l) ++ [x] ++ l.drop (lb x.key l)).length = l.length + 1 := by simp only [List.length_append, List.length_take, List.length_drop, List.length_singleton]; omega
      rw [hlen]
def rightR (x : DRow) : Bool := keyB x.key && decide (x.value.length ≤ 20)
theorem right_r {x : DRow} (hx : OkT x.key) : rows_right x = some (rightR x, ()) := by
  unfold rows_right rightR
  refine bindS (Key_p hx) ?_
  cases keyB x.key with
  | true =>
    refine condT rfl ?_
    have : decide ((x.value.length : Int) ≤ 20) = decide (x.value.length ≤ 20) := by
      by_cases h : x.value.length ≤ 20
      · rw [dT h, dT (by omega)]
      · rw [dF h, dF (by omega)]
    rw [this]; rfl
  | false => exact condF rfl rfl
theorem rightR_ok {x : DRow} (h : rightR x = true) : x.key.length ≤ 20 ∧ x.value.length ≤ 20 := by
  unfold rightR keyB at h
  simp only [Bool.and_eq_true, decide_eq_true_eq] at h
  exact ⟨h.1.2.1, h.2⟩
/-- Rows, put. -/
def putAll (xs l : List DRow) : List DRow := xs.foldl (fun l x => putL x l) l
theorem putAll_snoc (xs : List DRow) (x : DRow) (l : List DRow) : putAll (xs ++ [x]) l = putL x (putAll xs l) := by simp [putAll]
theorem putAll_srt : ∀ (xs : List DRow) {l : List DRow}, srt l → srt (putAll xs l)
  | [], _, h => h
  | x :: xs, l, h => putAll_srt xs (putL_srt h)
theorem putAll_len : ∀ (xs l : List DRow), (putAll xs l).length ≤ l.length + xs.length
  | [], l => Nat.le_refl _
  | x :: xs, l => by
    have h1 := putAll_len xs (putL x l)
    have h2 := (putL_len x l).2
    have : putAll (x :: xs) l = putAll xs (putL x l) := rfl
    rw [this, List.length_cons]; omega
theorem putAll_all {p : DRow → Prop} : ∀ (xs : List DRow) {l : List DRow}, srt l → (∀ x ∈ xs, p x) → (∀ x ∈ l, p x) → ∀ x ∈ putAll xs l, p x
  | [], _, _, _, h => h
  | x :: xs, l, hs, h1, h2 => by
    have : putAll (x :: xs) l = putAll xs (putL x l) := rfl
    rw [this]
    refine putAll_all xs (putL_srt hs) (fun y hy => h1 y (List.mem_cons_of_mem _ hy)) fun y hy => ?_
    rcases (mem_putL hs).1 hy with rfl | ⟨hy, _⟩
    · exact h1 _ List.mem_cons_self
    · exact h2 y hy
theorem contains_r {xs : List DRow} (hx : ∀ x ∈ xs, OkT x.key) (hl : xs.length ≤ 140737488355328) : slices_ContainsFunc xs = some (!xs.all rightR, ()) := by
  have key : ∃ z, loopM slices_IndexFunc_l1 ((xs, (), (xs.length : Int), 0, ()), ()) = some z ∧ ((xs.all rightR = true ∧ z = .inr ((), ())) ∨ (xs.all rightR = false ∧ ∃ i : Nat, z = .inl (((i : Int), ()), ()))) := by
    refine loopM_spec (fun m a => ∃ i : Nat, a = ((xs, (), (xs.length : Int), (i : Int), ()), ()) ∧ i ≤ xs.length ∧ (xs.take i).all rightR = true ∧ m = xs.length - i) _ ?_ (n := xs.length) ⟨0, rfl, Nat.zero_le _, rfl, rfl⟩
    rintro m a ⟨i, rfl, h1, h2, rfl⟩
    unfold slices_IndexFunc_l1
    by_cases hi : i < xs.length
    · have hp : rows_Put1 xs[i] = some (!rightR xs[i], ()) := by unfold rows_Put1; exact bindS (right_r (hx _ (List.getElem_mem hi))) rfl
      cases hr : rightR xs[i] with
      | true =>
        left
        refine ⟨xs.length - (i + 1), _, by omega, condT (dT (by dsimp only; omega)) (bindS (getI_lt hi) (bindS hp (condF (by rw [hr]; rfl) rfl))), i + 1, ?_, by omega, ?_, rfl⟩
        · dsimp only
          rw [w64 (by omega)]; rfl
        · rw [List.take_succ_eq_append_getElem hi, List.all_append, h2]; simp [hr]
      | false =>
        right
        refine ⟨_, condT (dT (by dsimp only; omega)) (bindS (getI_lt hi) (bindS hp (condT (by rw [hr]; rfl) rfl))), .inr ⟨?_, i, rfl⟩⟩
        cases ha : xs.all rightR with
        | false => rfl
        | true => rw [List.all_eq_true.1 ha _ (List.getElem_mem hi)] at hr; cases hr
    · right
      obtain rfl : i = xs.length := by omega
      rw [List.take_length] at h2
      exact ⟨_, condF (dF (by dsimp only; omega)) rfl, .inl ⟨h2, rfl⟩⟩
  unfold slices_ContainsFunc slices_IndexFunc
  obtain ⟨z, hz, ⟨h1, rfl⟩ | ⟨h1, i, rfl⟩⟩ := key
  · rw [h1]
    exact bindS (bindS hz rfl) rfl
  · rw [h1]
    refine bindS (bindS hz rfl) ?_
    dsimp only
    rw [dT (by omega)]
    rfl
/-- What a table tells, and becomes. -/
def putF (xs l : List DRow) : Int × List DRow := if xs.all rightR = true then (if 400 < (putAll xs l).length then (8, l) else (0, putAll xs l)) else (2, l)
theorem Put_p {xs l : List DRow} (hs : srt l) (hl : l.length ≤ 400) (hx : ∀ x ∈ xs, OkT x.key) (hn : xs.length ≤ 100000) : rows_Put xs (l.length, true, ()) l = some ((putF xs l).1, (((putF xs l).2.length, true, ()), (), (putF xs l).2, ())) := by
  unfold rows_Put
  refine bindS (v := (true, ((l.length, true, ()), l, ()))) rfl (condF rfl (bindS (contains_r hx (by omega)) ?_))
  unfold putF
  cases hr : xs.all rightR with
  | false => rw [if_neg Bool.false_ne_true]; exact condT rfl rfl
  | true =>
    rw [if_pos rfl]
    refine condF rfl (bindS (v := (l.length, (l, l, ()))) ?_ ?_)
    · unfold cloneEz26
      dsimp only
      rw [List.take_length]
      exact iteT (by omega) rfl
    have hrun := loopM_run (step := rows_Put_l1) (fun i : Nat => (((), (), xs, (xs.length : Int), (i : Int), ()), ((l.length, true, ()), ((putAll (xs.take i) l).length, ()), l, putAll (xs.take i) l, ()))) (N := xs.length) (b := (((), (), ()), ((l.length, true, ()), ((putAll xs l).length, ()), (), (), l, putAll xs l, ()))) (fun i hi => ?_) ?_
    · refine bindS hrun ?_
      by_cases h4 : 400 < (putAll xs l).length
      · rw [if_pos h4]
        exact condT (dT (by dsimp only; omega)) rfl
      · rw [if_neg h4]
        exact condF (dF (by dsimp only; omega)) rfl
    · have h1 := putAll_len (xs.take i) l
      rw [List.length_take] at h1
      unfold rows_Put_l1
      refine condT (dT (by dsimp only; omega)) (bindS (getI_lt hi) (bindS (put_r (putAll_srt _ hs) (by omega)) ?_))
      dsimp only
      rw [w64 (by omega), List.take_succ_eq_append_getElem hi, putAll_snoc]
      rfl
    · unfold rows_Put_l1
      refine condF (dF (by dsimp only; omega)) ?_
      dsimp only
      rw [List.take_length]
theorem putF_ok {xs l : List DRow} (hs : srt l) (hl : l.length ≤ 400) (hr : ∀ r ∈ l, rightR r = true) : srt (putF xs l).2 ∧ (putF xs l).2.length ≤ 400 ∧ ∀ r ∈ (putF xs l).2, rightR r = true := by
  unfold putF
  split
  · rename_i h
    split
    · exact ⟨hs, hl, hr⟩
    · rename_i h4
      exact ⟨putAll_srt _ hs, by dsimp only; omega, putAll_all (p := fun r => rightR r = true) xs hs (fun x hx => List.all_eq_true.1 h x hx) hr⟩
  · exact ⟨hs, hl, hr⟩
/-- The places of a span. -/
def boundsF (s : DSpan) (l : List DRow) : Nat × Nat := if rightB s = true then (lb s.lo l, if s.hi = [] then l.length else lb s.hi l) else (0, 0)
theorem bounds_p {s : DSpan} {l : List DRow} (hs : srt l) (hl : l.length ≤ 400) (ho : OkSp s) : rows_bounds s (l.length, true, ()) l = some (((((boundsF s l).1 : Nat) : Int), (((boundsF s l).2 : Nat) : Int), ()), ((l.length, true, ()), l, ())) := by
  unfold rows_bounds boundsF
  refine bindS (Right_p ho) ?_
  cases h : rightB s with
  | false => rw [if_neg Bool.false_ne_true]; exact condT rfl rfl
  | true =>
    rw [if_pos rfl]
    refine condF rfl (bindS (at2_p hs (by omega)) ?_)
    by_cases hh : s.hi = []
    · rw [if_pos hh]
      exact condF (by simp [hh]) rfl
    · rw [if_neg hh]
      exact condT (by simp [hh]) (bindS (at2_p hs (by omega)) rfl)
theorem rightB_lt {s : DSpan} (h : rightB s = true) (hh : s.hi ≠ []) : s.lo < s.hi := by
  unfold rightB at h
  simp only [Bool.and_eq_true, Bool.or_eq_true, decide_eq_true_eq] at h
  rcases h.2.2 with h | h
  · exact absurd h hh
  · exact h
theorem bounds_le {s : DSpan} {l : List DRow} : (boundsF s l).1 ≤ (boundsF s l).2 ∧ (boundsF s l).2 ≤ l.length := by
  unfold boundsF
  split
  · rename_i h
    by_cases hh : s.hi = []
    · dsimp only; rw [if_pos hh]; exact ⟨lb_le _ _, Nat.le_refl _⟩
    · dsimp only; rw [if_neg hh]; exact ⟨lb_mono (ltAs (rightB_lt h hh)) l, lb_le _ _⟩
  · exact ⟨Nat.le_refl _, Nat.zero_le _⟩
/-- The rows of a span. -/
def inF (s : DSpan) (l : List DRow) : List DRow := l.filter fun r => hasB s r.key
theorem rightR_key {r : DRow} (h : rightR r = true) : keyB r.key = true := by
  unfold rightR at h
  rw [Bool.and_eq_true] at h
  exact h.1
theorem cut_in {s : DSpan} {l : List DRow} (hs : srt l) (hr : ∀ r ∈ l, rightR r = true) : (l.drop (boundsF s l).1).take ((boundsF s l).2 - (boundsF s l).1) = inF s l := by
  unfold inF boundsF
  cases h : rightB s with
  | false =>
    rw [if_neg Bool.false_ne_true]
    refine (List.filter_eq_nil_iff.2 fun r _ => ?_).symm
    unfold hasB
    rw [h]; simp
  | true =>
    rw [if_pos rfl]
    dsimp only
    have hcong : ∀ (p : DRow → Bool), (∀ r ∈ l, p r = hasB s r.key) → l.filter p = l.filter fun r => hasB s r.key := fun p hp => List.filter_congr hp
    by_cases hh : s.hi = []
    · rw [if_pos hh, List.take_of_length_le (by rw [List.length_drop]; omega), lb_drop hs]
      refine hcong _ fun r hm => ?_
      unfold hasB
      rw [h, rightR_key (hr r hm)]
      simp [hh]
    · rw [if_neg hh]
      have hm := lb_mono (ltAs (rightB_lt h hh)) l
      have e : (l.drop (lb s.lo l)).take (lb s.hi l - lb s.lo l) = (l.take (lb s.hi l)).drop (lb s.lo l) := by rw [List.drop_take]
      rw [e, lb_take hs]
      have e2 : lb s.lo (l.filter fun r => decide (r.key < s.hi)) = lb s.lo l := by
        have key : ∀ l : List DRow, lb s.lo (l.filter fun r => decide (r.key < s.hi)) = lb s.lo (l.filter fun r => decide (r.key < s.hi)) := fun _ => rfl
        have h1 : (l.filter fun r => decide (r.key < s.hi)) = l.take (lb s.hi l) := (lb_take hs).symm
        rw [h1]
        have h2 : ∀ (l : List DRow) (n : Nat), lb s.lo l ≤ n → lb s.lo (l.take n) = lb s.lo l := by
          intro l
          induction l with
          | nil => intro n _; simp
          | cons r l ih =>
            intro n hn
            cases n with
            | zero =>
              have : lb s.lo (r :: l) = 0 := by omega
              rw [List.take_zero, this]; rfl
            | succ n =>
              rw [List.take_succ_cons]
              unfold lb at hn ⊢
              split
              · rename_i hc
                rw [if_pos hc] at hn
                rw [ih n (by omega)]
              · rfl
        exact h2 l _ hm
      have hs2 : srt (l.filter fun r => decide (r.key < s.hi)) := hs.filter _
      rw [← e2, lb_drop hs2, List.filter_filter]
      refine hcong _ fun r hm => ?_
      unfold hasB
      rw [h, rightR_key (hr r hm)]
      simp [hh]
theorem In_p {s : DSpan} {l : List DRow} (hs : srt l) (hl : l.length ≤ 400) (hr : ∀ r ∈ l, rightR r = true) (ho : OkSp s) : rows_In s (l.length, true, ()) l = some (inF s l, ((l.length, true, ()), l, (), ())) := by
  obtain ⟨b1, b2⟩ := bounds_le (s := s) (l := l)
  have hc := cut_in (s := s) hs hr
  unfold rows_In
  refine bindS (v := (true, ((l.length, true, ()), l, ()))) rfl (condF rfl (bindS (bounds_p hs hl ho) (iteT (by dsimp only; omega) (bindS (v := (inF s l, (l, (), ()))) ?_ rfl))))
  unfold cloneRu26
  dsimp only
  rw [Nat.zero_add, Int.toNat_natCast, Int.toNat_natCast, hc]
  have hlen : (inF s l).length ≤ 400 := Nat.le_trans (List.length_filter_le _ _) hl
  exact iteT (by omega) rfl
/-- The others. -/
def outF (s : DSpan) (l : List DRow) : List DRow := l.filter fun r => !hasB s r.key
theorem cut_out {s : DSpan} {l : List DRow} (hs : srt l) (hr : ∀ r ∈ l, rightR r = true) : l.take (boundsF s l).1 ++ l.drop (boundsF s l).2 = outF s l := by
  obtain ⟨b1, b2⟩ := bounds_le (s := s) (l := l)
  have hc := cut_in (s := s) hs hr
  have hl : l = l.take (boundsF s l).1 ++ ((l.drop (boundsF s l).1).take ((boundsF s l).2 - (boundsF s l).1) ++ l.drop (boundsF s l).2) := by
    have h1 : l.drop (boundsF s l).1 = (l.drop (boundsF s l).1).take ((boundsF s l).2 - (boundsF s l).1) ++ (l.drop (boundsF s l).1).drop ((boundsF s l).2 - (boundsF s l).1) := (List.take_append_drop _ _).symm
    rw [List.drop_drop, show (boundsF s l).1 + ((boundsF s l).2 - (boundsF s l).1) = (boundsF s l).2 by omega] at h1
    rw [← h1, List.take_append_drop]
  rw [hc] at hl
  -- what is in it is all that has
  have hcnt : ∀ (a b c : List DRow) (p : DRow → Bool), a ++ (b ++ c) = l → b = l.filter p → (∀ r ∈ b, p r = true) → a ++ c = l.filter fun r => !p r := by
    intro a b c p h1 h2 h3
    have h4 : l.filter p = a.filter p ++ (b ++ c.filter p) := by rw [← h1, List.filter_append, List.filter_append, List.filter_eq_self.2 h3]
    have h5 := congrArg List.length (h2.trans h4)
    simp only [List.length_append] at h5
    have ha : a.filter p = [] := List.eq_nil_of_length_eq_zero (by omega)
    have hc : c.filter p = [] := List.eq_nil_of_length_eq_zero (by omega)
    have hno : ∀ (x : List DRow), x.filter p = [] → x.filter (fun r => !p r) = x := fun x hx => List.filter_eq_self.2 fun r hr => by
      have := List.filter_eq_nil_iff.1 hx r hr
      simpa using this
    rw [← h1, List.filter_append, List.filter_append, hno a ha, hno c hc]
    have hb : b.filter (fun r => !p r) = [] := List.filter_eq_nil_iff.2 fun r hr => by rw [h3 r hr]; simp
    rw [hb, List.nil_append]
  exact hcnt _ _ _ (fun r => hasB s r.key) hl.symm rfl (fun r hr => (List.mem_filter.1 hr).2)
theorem Take_p {s : DSpan} {l : List DRow} (hs : srt l) (hl : l.length ≤ 400) (hr : ∀ r ∈ l, rightR r = true) (ho : OkSp s) : rows_Take s (l.length, true, ()) l = some (inF s l, (((outF s l).length, true, ()), (), (), outF s l, ())) := by
  obtain ⟨b1, b2⟩ := bounds_le (s := s) (l := l)
  unfold rows_Take
  refine bindS (In_p hs hl hr ho) (bindS (v := (true, ((l.length, true, ()), l, ()))) rfl (condT rfl (bindS (bounds_p hs hl ho) (bindS (v := ((outF s l).length, ((), outF s l, ()))) ?_ rfl))))
  have hok : DeleteOk l.length ((boundsF s l).1 : Nat) ((boundsF s l).2 : Nat) l := ⟨rfl, by omega, by omega, by omega, by omega⟩
  unfold delete
  refine iteT hok ?_
  rw [Int.toNat_natCast, Int.toNat_natCast, cut_out hs hr]
  have h := congrArg List.length (cut_out (s := s) hs hr)
  simp only [List.length_append, List.length_take, List.length_drop] at h
  have : l.length - ((boundsF s l).2 - (boundsF s l).1) = (outF s l).length := by omega
  rw [this]
theorem outF_ok {s : DSpan} {l : List DRow} (hs : srt l) (hl : l.length ≤ 400) (hr : ∀ r ∈ l, rightR r = true) : srt (outF s l) ∧ (outF s l).length ≤ 400 ∧ ∀ r ∈ outF s l, rightR r = true :=
  ⟨hs.filter _, Nat.le_trans (List.length_filter_le _ _) hl, fun r h => hr r (List.mem_filter.1 h).1⟩
theorem SameLines_p {a b : List DRow} (hl : a.length ≤ 140737488355328) : watershedkit_SameLines a b = some (decide (a = b), ()) := by
  unfold watershedkit_SameLines
  by_cases hlen : a.length = b.length
  · refine condF (by simp [hlen]) ?_
    have hrun := same_loop (step := watershedkit_SameLines_l1) a b (fun i => ((a, b, i, ()), ())) (.inl ((false, ()), ())) (.inr ((), ())) hlen hl (fun i hi hj => ⟨fun he => ?_, fun he => ?_⟩) ?_
    · rw [hrun]
      by_cases hab : a = b
      · rw [if_pos hab, dT hab]; rfl
      · rw [if_neg hab, dF hab]; rfl
    · unfold watershedkit_SameLines_l1
      refine condT (dT (by dsimp only; omega)) (bindS (getI_lt hi) (bindS (getI_lt hj) (condF (by rw [he]; simp) ?_)))
      dsimp only
      rw [w64 (by omega)]; rfl
    · unfold watershedkit_SameLines_l1
      refine condT (dT (by dsimp only; omega)) (bindS (getI_lt hi) (bindS (getI_lt hj) (condT ?_ rfl)))
      have hne : ¬ (a[i].key = b[i].key ∧ a[i].value = b[i].value) := fun ⟨h1, h2⟩ => he (by
        cases ha : a[i]; cases hb : b[i]
        rw [ha, hb] at h1 h2
        cases h1; cases h2; rfl)
      by_cases h1 : a[i].key = b[i].key
      · have h2 : ¬ a[i].value = b[i].value := fun h => hne ⟨h1, h⟩
        simp [h1, h2]
      · simp [h1]
    · unfold watershedkit_SameLines_l1
      exact condF (dF (by dsimp only; omega)) rfl
  · refine condT (by simpa using fun h => hlen (by omega)) ?_
    rw [dF (fun h => hlen (by rw [h]))]
theorem awake_p : watershedlaw15_awake = some (true, ()) := by
  have s0 : srt [] := List.Pairwise.nil
  have hx : ∀ x ∈ ([⟨[98], [49]⟩, ⟨[97], [50]⟩, ⟨[98], [51]⟩] : List DRow), OkT x.key := fun x hx => by
    simp only [List.mem_cons, List.not_mem_nil, or_false] at hx
    rcases hx with rfl | rfl | rfl <;> simp [OkT]
  have hp := Put_p (xs := [⟨[98], [49]⟩, ⟨[97], [50]⟩, ⟨[98], [51]⟩]) s0 (Nat.zero_le _) hx (by simp)
  have hF : putF [⟨[98], [49]⟩, ⟨[97], [50]⟩, ⟨[98], [51]⟩] [] = (0, [⟨[97], [50]⟩, ⟨[98], [51]⟩]) := by decide +kernel
  have hok := putF_ok (xs := [⟨[98], [49]⟩, ⟨[97], [50]⟩, ⟨[98], [51]⟩]) s0 (Nat.zero_le _) (fun r hr => by cases hr)
  rw [hF] at hp hok
  obtain ⟨o1, o2, o3⟩ := hok
  have i1 := In_p (s := ⟨[], []⟩) o1 o2 o3 ⟨Nat.zero_le _, Nat.zero_le _⟩
  have i2 := Take_p (s := ⟨[97], [98]⟩) o1 o2 o3 ⟨by show 1 ≤ 140737488355328; omega, by show 1 ≤ 140737488355328; omega⟩
  have e1 : inF ⟨[], []⟩ [⟨[97], [50]⟩, ⟨[98], [51]⟩] = [⟨[97], [50]⟩, ⟨[98], [51]⟩] := by decide +kernel
  have e2 : inF ⟨[97], [98]⟩ [⟨[97], [50]⟩, ⟨[98], [51]⟩] = [⟨[97], [50]⟩] := by decide +kernel
  have e3 : outF ⟨[97], [98]⟩ [⟨[97], [50]⟩, ⟨[98], [51]⟩] = [⟨[98], [51]⟩] := by decide +kernel
  rw [e1] at i1
  rw [e2, e3] at i2
  unfold watershedlaw15_awake
  refine bindS (v := ((), ((0, true, ()), [], ()))) rfl (bindS hp (bindS i1 (bindS i2 (condT rfl (bindS (SameLines_p (by simp)) (condT (by decide +kernel) (bindS (SameLines_p (by simp)) (condT (by decide +kernel) (bindS (v := (1, ((1, true, ()), [⟨[98], [51]⟩], ()))) rfl rfl)))))))))
end Go.Proofs.YtlmmpfbdgiokmaaGreat
