/- XSpo, XDd, XCu, XSh1, XSk1, XTu1, XTp1, XSt1 in one. -/
import Derived.Test.YtaihdjknneiciaaGreatG1
import Derived.Test.YtaihdjknneiciaaGreatPl
/- Spans, plainly. -/
namespace Go.Proofs.YtaihdjknneiciaaGreat
open Go.RowKit
set_option maxRecDepth 100000
set_option linter.unusedVariables false
set_option linter.unusedSimpArgs false
abbrev Tx := List UInt8
def OkT (s : Tx) : Prop := s.length ≤ 140737488355328
def OkSp (s : DSpan) : Prop := OkT s.lo ∧ OkT s.hi
theorem OkSp.of {s : DSpan} (h : ok_DSpan s) : OkSp s := ⟨h.1, h.2.1⟩
def charB (c : UInt8) : Bool := (decide ((97 : Int) ≤ (c.toNat : Int)) && decide ((c.toNat : Int) ≤ 122)) || (decide ((48 : Int) ≤ (c.toNat : Int)) && decide ((c.toNat : Int) ≤ 57))
/-- Is a text a key? -/
def keyB (s : Tx) : Bool := (!decide (s = [])) && (decide (s.length ≤ 20) && s.all charB)
theorem Key_p {s : Tx} (h : OkT s) : span_Key s = some (keyB s, ()) := by
  unfold OkT at h
  unfold span_Key keyB
  by_cases h1 : s = []
  · rw [dT h1, cond_true]; simp
  rw [dF h1, cond_false]
  by_cases h2 : s.length ≤ 20
  · have key : loopM span_Key_l1 ((s, (s.length : Int), 0, ()), ()) = some (if s.all charB then .inr ((), ()) else .inl ((false, ()), ())) := by
      refine loopM_eq_of (fun n a => ∃ i : Nat, a = ((s, (s.length : Int), (i : Int), ()), ()) ∧ i ≤ s.length ∧ (s.drop i).all charB = s.all charB ∧ n = s.length - i) _ ?_ (n := s.length) ⟨0, rfl, Nat.zero_le _, rfl, rfl⟩
      rintro n a ⟨i, rfl, g1, g2, rfl⟩
      unfold span_Key_l1
      dsimp only
      by_cases hi : i < s.length
      · rw [List.drop_eq_getElem_cons hi, List.all_cons] at g2
        rw [dT (by omega), cond_true, getI_lt hi, Option.bind_some, w64 (by omega)]
        cases hc : charB s[i]
        · right
          rw [hc] at g2
          rw [← g2]
          unfold charB at hc
          by_cases q1 : (97 : Int) ≤ (s[i].toNat : Int) <;> by_cases q2 : (s[i].toNat : Int) ≤ 122 <;> by_cases q3 : (48 : Int) ≤ (s[i].toNat : Int) <;> by_cases q4 : (s[i].toNat : Int) ≤ 57 <;> simp [q1, q2, q3, q4] at hc ⊢
        · left
          rw [hc, Bool.true_and] at g2
          refine ⟨s.length - (i + 1), _, by omega, ?_, i + 1, rfl, by omega, g2, rfl⟩
          unfold charB at hc
          by_cases q1 : (97 : Int) ≤ (s[i].toNat : Int) <;> by_cases q2 : (s[i].toNat : Int) ≤ 122 <;> by_cases q3 : (48 : Int) ≤ (s[i].toNat : Int) <;> by_cases q4 : (s[i].toNat : Int) ≤ 57 <;> simp [q1, q2, q3, q4] at hc ⊢
      · right
        obtain rfl : i = s.length := by omega
        rw [dF (by omega), cond_false, ← g2, List.drop_length]
        rfl
    rw [dF (by omega), cond_false, key, dT h2]
    cases s.all charB <;> rfl
  · rw [dT (by omega), cond_true, dF h2]
    simp
theorem ltT (a : Tx) : ¬ a < a := by grind
theorem compare_p (a b : Tx) : span_compare ⟨a⟩ ⟨b⟩ = some (if a < b then -1 else if a = b then 0 else 1, ()) := by
  unfold span_compare cmp_Compare cmp_isNaN
  simp only [Option.bind_some]
  rw [dF (p := a ≠ a) (by simp), dF (p := b ≠ b) (by simp), cond_false, cond_false]
  by_cases h1 : a < b
  · simp [h1]
  · by_cases h2 : a = b <;> simp [h1, h2, ltT]
theorem above_p (h t : Tx) : span_above ⟨⟨h⟩⟩ ⟨t⟩ = some (decide (h = []) || decide (t < h), ()) := by
  unfold span_above span_none
  simp only [Option.bind_some, compare_p]
  by_cases h1 : h = []
  · simp [h1]
  rw [dF h1, cond_false, Bool.false_or]
  by_cases h2 : h < t
  · have : ¬ t < h := by grind
    simp [h2, this]
  · by_cases h3 : h = t
    · simp [h3, ltT]
    · have : t < h := by grind
      simp [h2, h3, this]
theorem over_p (h g : Tx) : span_over ⟨⟨h⟩⟩ ⟨⟨g⟩⟩ = some (decide (h = []) || (!decide (g = []) && !decide (h < g)), ()) := by
  unfold span_over span_none
  simp only [Option.bind_some, compare_p]
  by_cases h1 : h = []
  · simp [h1]
  rw [dF h1, cond_false, Bool.false_or]
  by_cases h0 : g = []
  · simp [h0]
  rw [dF h0]
  by_cases h2 : h < g
  · simp [h2]
  · by_cases h3 : h = g <;> simp [h2, h3, ltT]
/-- Is a span? -/
def rightB (s : DSpan) : Bool := (decide (s.lo = []) || keyB s.lo) && ((decide (s.hi = []) || keyB s.hi) && (decide (s.hi = []) || decide (s.lo < s.hi)))
theorem Right_p {s : DSpan} (h : OkSp s) : span_Right s = some (rightB s, ()) := by
  obtain ⟨h1, h2⟩ := h
  unfold span_Right span_ends span_none rightB
  simp only [Option.bind_some, Key_p h1, Key_p h2, above_p]
  by_cases q1 : s.lo = [] <;> by_cases q2 : s.hi = [] <;> cases q3 : keyB s.lo <;> cases q4 : keyB s.hi <;> simp [q1, q2, q3, q4]
/-- Has a span a key? -/
def hasB (s : DSpan) (k : Tx) : Bool := rightB s && (keyB k && (!decide (k < s.lo) && (decide (s.hi = []) || decide (k < s.hi))))
theorem Has_p {s : DSpan} {k : Tx} (h : OkSp s) (hk : OkT k) : span_Has s k = some (hasB s k, ()) := by
  unfold span_Has span_ends hasB
  simp only [Option.bind_some, Right_p h, Key_p hk, above_p, compare_p]
  cases q1 : rightB s
  · simp
  cases q2 : keyB k
  · simp
  simp only [cond_true, Bool.true_and]
  by_cases g1 : s.lo < k
  · have : ¬ k < s.lo := by grind
    simp [g1, this]
  · by_cases g2 : s.lo = k
    · simp [g2, ltT]
    · have : k < s.lo := by grind
      simp [g1, g2, this]
def withinB (a s : DSpan) : Bool := rightB a && (rightB s && (!decide (a.lo < s.lo) && (decide (s.hi = []) || (!decide (a.hi = []) && !decide (s.hi < a.hi)))))
theorem Within_p {a s : DSpan} (ha : OkSp a) (hs : OkSp s) : span_Within a s = some (withinB a s, ()) := by
  unfold span_Within span_ends withinB
  simp only [Option.bind_some, Right_p ha, Right_p hs, over_p, compare_p]
  cases q1 : rightB a
  · simp
  cases q2 : rightB s
  · simp
  simp only [cond_true, Bool.true_and]
  by_cases g1 : s.lo < a.lo
  · have : ¬ a.lo < s.lo := by grind
    simp [g1, this]
  · by_cases g2 : s.lo = a.lo
    · simp [g2, ltT]
    · have : a.lo < s.lo := by grind
      simp [g1, g2, this]
/-- What Cut's rounds make of the texts that are left. -/
def cutF : DSpan → List Tx → List DSpan
  | s, [] => [s]
  | s, k :: l => bif !hasB s k then cutF s l else bif decide (k = s.lo) then cutF s l else ⟨s.lo, k⟩ :: cutF ⟨k, s.hi⟩ l
theorem cutF_cons (s : DSpan) (k : Tx) (l : List Tx) : cutF s (k :: l) = bif !hasB s k then cutF s l else bif decide (k = s.lo) then cutF s l else ⟨s.lo, k⟩ :: cutF ⟨k, s.hi⟩ l := rfl
theorem cutF_len (s : DSpan) (l : List Tx) : (cutF s l).length ≤ l.length + 1 := by
  induction l generalizing s with
  | nil => simp [cutF]
  | cons k l ih =>
    unfold cutF
    cases hasB s k
    · have := ih s; simp; omega
    · by_cases h : k = s.lo
      · have := ih s; simp [h] at this ⊢; omega
      · have := ih ⟨k, s.hi⟩; simp [h]; omega
theorem cutLoop_p {xs at_ : List Tx} (zs : List Tx) (hx : ∀ k ∈ xs, OkT k) (hl : xs.length ≤ 100000) {s : DSpan} (hs : OkSp s) :
    ∃ out s', loopM span_Cut_l1 (((), [], (0, xs.length), (xs.length : Int), 0, ()), (s, xs ++ zs, (), ())) = some (((), out, ()), (s', xs ++ zs, (), (), ())) ∧ out ++ [s'] = cutF s xs := by
  obtain ⟨z, hz, out, s', rfl, h2⟩ : ∃ z, loopM span_Cut_l1 (((), [], (0, xs.length), (xs.length : Int), 0, ()), (s, xs ++ zs, (), ())) = some z ∧ ∃ out s', z = (((), out, ()), (s', xs ++ zs, (), (), ())) ∧ out ++ [s'] = cutF s xs := by
    refine loopM_spec (fun n a => ∃ (i : Nat) (out : List DSpan) (t : DSpan), a = (((), out, (0, xs.length), (xs.length : Int), (i : Int), ()), (t, xs ++ zs, (), ())) ∧ i ≤ xs.length ∧ OkSp t ∧ out ++ cutF t (xs.drop i) = cutF s xs ∧ out.length ≤ i ∧ n = xs.length - i) _ ?_ (n := xs.length) ⟨0, [], s, rfl, Nat.zero_le _, hs, rfl, Nat.le_refl _, rfl⟩
    rintro n a ⟨i, out, t, rfl, h1, ht, h2, h3, rfl⟩
    unfold span_Cut_l1
    by_cases hi : i < xs.length
    · left
      have hk := hx _ (List.getElem_mem hi)
      rw [List.drop_eq_getElem_cons hi, cutF_cons] at h2
      have hg : (xs ++ zs)[0 + ((i : Int)).toNat]? = some xs[i] := by
        rw [Nat.zero_add, Int.toNat_natCast, List.getElem?_append_left hi, List.getElem?_eq_getElem hi]
      cases hh : hasB t xs[i]
      · rw [hh] at h2
        refine ⟨xs.length - (i + 1), _, by omega, ?_, i + 1, out, t, rfl, by omega, ht, h2, by omega, rfl⟩
        refine condT (dT (by dsimp only; omega)) ?_
        refine iteT (by dsimp only; omega) ?_
        refine bindS hg ?_
        refine bindS (Has_p ht hk) ?_
        refine condT (by dsimp only; rw [hh]; rfl) ?_
        dsimp only
        rw [w64 (by omega)]
        rfl
      · rw [hh] at h2
        by_cases he : xs[i] = t.lo
        · rw [dT he] at h2
          refine ⟨xs.length - (i + 1), _, by omega, ?_, i + 1, out, t, rfl, by omega, ht, h2, by omega, rfl⟩
          refine condT (dT (by dsimp only; omega)) ?_
          refine iteT (by dsimp only; omega) ?_
          refine bindS hg ?_
          refine bindS (Has_p ht hk) ?_
          refine condF (by dsimp only; rw [hh]; rfl) ?_
          refine condT (dT he) ?_
          dsimp only
          rw [w64 (by omega)]
          rfl
        · rw [dF he] at h2
          refine ⟨xs.length - (i + 1), _, by omega, ?_, i + 1, out ++ [⟨t.lo, xs[i]⟩], ⟨xs[i], t.hi⟩, rfl, by omega, ⟨hk, ht.2⟩, by rw [List.append_assoc]; exact h2, by simp; omega, rfl⟩
          refine condT (dT (by dsimp only; omega)) ?_
          refine iteT (by dsimp only; omega) ?_
          refine bindS hg ?_
          refine bindS (Has_p ht hk) ?_
          refine condF (by dsimp only; rw [hh]; rfl) ?_
          refine condF (dF he) ?_
          refine iteT (by dsimp only; simp; omega) ?_
          dsimp only
          rw [w64 (by omega)]
          rfl
    · right
      obtain rfl : i = xs.length := by omega
      refine ⟨_, condF (dF (by dsimp only; omega)) rfl, out, t, rfl, ?_⟩
      rw [List.drop_length] at h2
      exact h2
  exact ⟨out, s', hz, h2⟩
/-- Do spans part all keys, from a text on? -/
def partsF : Tx → List DSpan → Bool
  | _, [] => false
  | f, [s] => rightB s && (decide (s.lo = f) && decide (s.hi = []))
  | f, s :: t :: l => rightB s && (decide (s.lo = f) && (!decide (s.hi = []) && partsF s.hi (t :: l)))
theorem Parts_p {l : List DSpan} (hl : l.length ≤ 140737488355328) (h : ∀ s ∈ l, OkSp s) : span_Parts l = some (partsF [] l, ()) := by
  have key : ∃ z, loopM span_Parts_l1 ((l, ([] : List UInt8), false, l, (l.length : Int), 0, ()), ()) = some z ∧ (z = .inl ((false, ()), ()) ∧ partsF [] l = false ∨ z = .inr ((partsF [] l, ()), ())) := by
    refine loopM_spec (fun n a => ∃ (i : Nat) (f : Tx) (o : Bool), a = ((l, f, o, l, (l.length : Int), (i : Int), ()), ()) ∧ i ≤ l.length ∧ (o = false → partsF f (l.drop i) = partsF [] l) ∧ (o = true → i = l.length ∧ partsF [] l = true) ∧ n = l.length - i) _ ?_ (n := l.length) ⟨0, [], false, rfl, Nat.zero_le _, fun _ => rfl, (fun h => by cases h), rfl⟩
    rintro n a ⟨i, f, o, rfl, h1, h2, h3, rfl⟩
    unfold span_Parts_l1
    by_cases hi : i < l.length
    · cases o with
      | true => have := (h3 rfl).1; omega
      | false =>
      have h2 := h2 rfl
      have ho := h _ (List.getElem_mem hi)
      rw [List.drop_eq_getElem_cons hi] at h2
      cases hr : rightB l[i]
      · right
        refine ⟨_, condT (dT (by dsimp only; omega)) (bindS (getI_lt hi) (bindS (Right_p ho) (condT (by dsimp only; rw [hr]; rfl) rfl))), .inl ⟨rfl, ?_⟩⟩
        rw [← h2]
        cases hd : l.drop (i + 1) <;> simp [partsF, hr]
      · by_cases hf : l[i].lo = f
        · by_cases hh : l[i].hi = []
          · by_cases hlast : i + 1 = l.length
            · left
              refine ⟨l.length - (i + 1), _, by omega, condT (dT (by dsimp only; omega)) (bindS (getI_lt hi) (bindS (Right_p ho) (condF (by dsimp only; rw [hr]; rfl) (condF (dF (by dsimp only; rw [hf]; simp)) (condF rfl (condT (dT hh) (condF (dF ?_) rfl))))))), i + 1, l[i].hi, true, ?_, by omega, (fun h => by cases h), fun _ => ⟨hlast, ?_⟩, rfl⟩
              · dsimp only; rw [w64 (by omega)]; omega
              · dsimp only; rw [dT hh, w64 (by omega)]; rfl
              · rw [← h2, List.drop_of_length_le (by omega)]
                simp [partsF, hr, hf, hh]
            · right
              refine ⟨_, condT (dT (by dsimp only; omega)) (bindS (getI_lt hi) (bindS (Right_p ho) (condF (by dsimp only; rw [hr]; rfl) (condF (dF (by dsimp only; rw [hf]; simp)) (condF rfl (condT (dT hh) (condT (dT (by dsimp only; rw [w64 (by omega)]; omega)) rfl))))))), .inl ⟨rfl, ?_⟩⟩
              rw [← h2, List.drop_eq_getElem_cons (by omega : i + 1 < l.length)]
              simp [partsF, hh]
          · left
            refine ⟨l.length - (i + 1), _, by omega, condT (dT (by dsimp only; omega)) (bindS (getI_lt hi) (bindS (Right_p ho) (condF (by dsimp only; rw [hr]; rfl) (condF (dF (by dsimp only; rw [hf]; simp)) (condF rfl (condF (dF hh) rfl)))))), i + 1, l[i].hi, false, ?_, by omega, fun _ => ?_, (fun h => by cases h), rfl⟩
            · dsimp only; rw [dF hh, w64 (by omega)]; rfl
            · rw [← h2]
              by_cases hlast : i + 1 = l.length
              · rw [List.drop_of_length_le (by omega)]
                simp [partsF, hh]
              · rw [List.drop_eq_getElem_cons (by omega : i + 1 < l.length)]
                simp [partsF, hr, hf, hh]
        · right
          refine ⟨_, condT (dT (by dsimp only; omega)) (bindS (getI_lt hi) (bindS (Right_p ho) (condF (by dsimp only; rw [hr]; rfl) (condT (dT hf) rfl)))), .inl ⟨rfl, ?_⟩⟩
          rw [← h2]
          cases hd : l.drop (i + 1) <;> simp [partsF, hf]
    · right
      obtain rfl : i = l.length := by omega
      refine ⟨_, condF (dF (by dsimp only; omega)) rfl, .inr ?_⟩
      cases o with
      | true => rw [(h3 rfl).2]
      | false =>
        have := h2 rfl
        rw [List.drop_length] at this
        rw [← this]; rfl
  obtain ⟨z, h1, h2⟩ := key
  unfold span_Parts
  refine bindS h1 ?_
  rcases h2 with ⟨rfl, h3⟩ | rfl
  · rw [h3]
  · rfl
end Go.Proofs.YtaihdjknneiciaaGreat
/- Lists without neighbours that are the same; sorted lists of texts. -/
namespace Go.Proofs.YtaihdjknneiciaaGreat
open Go.RowKit
set_option maxRecDepth 100000
set_option linter.unusedVariables false
set_option linter.unusedSimpArgs false
section
variable {α : Type} [DecidableEq α]
def dd : List α → List α
  | [] => []
  | [x] => [x]
  | x :: y :: l => if x = y then dd (y :: l) else x :: dd (y :: l)
theorem dd_snoc : ∀ (l : List α) (x : α), dd (l ++ [x]) = if l.getLast? = some x then dd l else dd l ++ [x]
  | [], x => by simp [dd]
  | [a], x => by
    simp only [List.cons_append, List.nil_append, dd, List.getLast?_singleton, Option.some.injEq]
    by_cases h : a = x
    · rw [if_pos h, if_pos h, h]
    · rw [if_neg h, if_neg h]
  | a :: b :: l, x => by
    have ih := dd_snoc (b :: l) x
    simp only [List.cons_append] at ih ⊢
    simp only [dd, List.getLast?_cons_cons]
    rw [ih]
    by_cases h : a = b
    · rw [if_pos h, if_pos h]
    · rw [if_neg h, if_neg h]
      split <;> rfl
theorem dd_sub : ∀ (l : List α), (dd l).Sublist l
  | [] => .slnil
  | [x] => by simp [dd]
  | x :: y :: l => by
    unfold dd
    split
    · exact (dd_sub (y :: l)).cons _
    · exact (dd_sub (y :: l)).cons_cons _
theorem mem_dd {x : α} : ∀ {l : List α}, x ∈ dd l ↔ x ∈ l
  | [] => by simp [dd]
  | [y] => by simp [dd]
  | a :: b :: l => by
    unfold dd
    have ih := mem_dd (x := x) (l := b :: l)
    split
    · rename_i h
      rw [ih]
      subst h
      simp
    · simp only [List.mem_cons] at ih ⊢
      rw [ih]
theorem dd_len (l : List α) : (dd l).length ≤ l.length := (dd_sub l).length_le
end
abbrev leT (x y : List UInt8) : Bool := decide (x ≤ y)
/-- A list of texts, in order, each once. -/
def sdF (l : List (List UInt8)) : List (List UInt8) := dd (l.mergeSort leT)
theorem mem_sdF {x : List UInt8} {l : List (List UInt8)} : x ∈ sdF l ↔ x ∈ l := by
  unfold sdF
  rw [mem_dd, List.mem_mergeSort]
theorem sdF_len (l : List (List UInt8)) : (sdF l).length ≤ l.length := by
  have := dd_len (l.mergeSort leT)
  rw [List.length_mergeSort] at this
  exact this
end Go.Proofs.YtaihdjknneiciaaGreat
/- Cut, plainly: at any texts. -/
namespace Go.Proofs.YtaihdjknneiciaaGreat
open Go.RowKit
set_option maxRecDepth 100000
set_option linter.unusedVariables false
set_option linter.unusedSimpArgs false
theorem get_of_drop {α : Type} {a b : List α} {i j : Nat} (h : a.drop i = b.drop i) (hj : i ≤ j) : a[j]? = b[j]? := by
  have := congrArg (·[j - i]?) h
  simp only [List.getElem?_drop] at this
  rwa [show i + (j - i) = j from by omega] at this
theorem drop_of_drop {α : Type} {a b : List α} {i j : Nat} (h : a.drop i = b.drop i) (hj : i ≤ j) : a.drop j = b.drop j := by
  have := congrArg (·.drop (j - i)) h
  simp only [List.drop_drop] at this
  rwa [show i + (j - i) = j from by omega] at this
theorem last_take {α : Type} {l : List α} {j : Nat} (hj : 1 ≤ j) (h : j ≤ l.length) : (l.take j).getLast? = l[j - 1]? := by
  rw [List.getLast?_eq_getElem?, List.length_take, List.getElem?_take]
  rw [show min j l.length = j from by omega, if_pos (by omega)]
theorem compactIn_p {xs : List Tx} {k : Nat} (hk : 1 ≤ k) (hkn : k < xs.length) (hn : xs.length ≤ 1000000) (hnd : dd (xs.take k) = xs.take k) (heq : xs[k]? = xs[k - 1]?) :
    ∃ arr : List Tx, loopM slices_Compact_l2 (((0, xs.length), (k : Int), (k, xs.length - k), 1, ()), (xs, ())) = some (((0, xs.length), ((dd xs).length : Int), ()), (arr, ())) ∧ arr.length = xs.length ∧ arr.take (dd xs).length = dd xs := by
  obtain ⟨z, hz, arr, rfl, h1, h2⟩ : ∃ z, loopM slices_Compact_l2 (((0, xs.length), (k : Int), (k, xs.length - k), 1, ()), (xs, ())) = some z ∧ ∃ arr : List Tx, z = (((0, xs.length), ((dd xs).length : Int), ()), (arr, ())) ∧ arr.length = xs.length ∧ arr.take (dd xs).length = dd xs := by
    refine loopM_spec (fun n a => ∃ (d k' : Nat) (arr : List Tx), a = (((0, xs.length), (k' : Int), (k, xs.length - k), (d : Int), ()), (arr, ())) ∧ 1 ≤ d ∧ k + d ≤ xs.length ∧ arr.length = xs.length ∧ arr.drop (k + d - 1) = xs.drop (k + d - 1) ∧ k' ≤ k + d - 1 ∧ k' = (dd (xs.take (k + d))).length ∧ arr.take k' = dd (xs.take (k + d)) ∧ n = xs.length - (k + d)) _ ?_ (n := xs.length - (k + 1)) ?_
    rotate_left
    · have hx : dd (xs.take (k + 1)) = xs.take k := by
        rw [List.take_succ_eq_append_getElem hkn, dd_snoc, last_take hk (by omega), ← heq, List.getElem?_eq_getElem hkn, if_pos rfl, hnd]
      refine ⟨1, k, xs, rfl, Nat.le_refl _, by omega, rfl, rfl, by omega, ?_, ?_, rfl⟩
      · rw [hx, List.length_take]; omega
      · rw [hx]
    rintro n a ⟨d, k', arr, rfl, h1, h2, h3, h4, h5, h6, h7, rfl⟩
    unfold slices_Compact_l2
    by_cases hd : k + d < xs.length
    · left
      have g1 : arr[k + d]? = some xs[k + d] := by rw [get_of_drop h4 (by omega), List.getElem?_eq_getElem hd]
      have g2 : arr[k + (d - 1)]? = some xs[k + d - 1] := by rw [get_of_drop h4 (by omega), show k + (d - 1) = k + d - 1 from by omega, List.getElem?_eq_getElem (by omega)]
      have hw : IntKind.i64.wrap ((d : Int) - 1) = ((d - 1 : Nat) : Int) := by rw [w64 (by omega)]; omega
      have hnext : dd (xs.take (k + d + 1)) = if xs[k + d - 1] = xs[k + d] then dd (xs.take (k + d)) else dd (xs.take (k + d)) ++ [xs[k + d]] := by
        rw [List.take_succ_eq_append_getElem hd, dd_snoc, last_take (by omega) (by omega), List.getElem?_eq_getElem (by omega)]
        by_cases he : xs[k + d - 1] = xs[k + d]
        · rw [if_pos (congrArg some he), if_pos he]
        · rw [if_neg (fun h => he (by injection h)), if_neg he]
      by_cases he : xs[k + d - 1] = xs[k + d]
      · rw [if_pos he] at hnext
        refine ⟨xs.length - (k + (d + 1)), _, by omega, ?_, d + 1, k', arr, rfl, by omega, by omega, h3, ?_, by omega, by rw [← Nat.add_assoc, hnext]; exact h6, by rw [← Nat.add_assoc, hnext]; exact h7, rfl⟩
        · refine condT (dT (by dsimp only; omega)) ?_
          refine iteT (by dsimp only; omega) ?_
          refine iteT (by dsimp only; rw [hw]; omega) ?_
          refine bindS g1 ?_
          refine bindS (v := xs[k + d - 1]) (by dsimp only; rw [hw, Int.toNat_natCast]; exact g2) ?_
          refine condF (dF (fun h => h he.symm)) ?_
          dsimp only
          rw [w64 (by omega)]
          rfl
        · exact drop_of_drop h4 (by omega)
      · rw [if_neg he] at hnext
        refine ⟨xs.length - (k + (d + 1)), _, by omega, ?_, d + 1, k' + 1, arr.set k' xs[k + d], rfl, by omega, by omega, by simpa using h3, ?_, by omega, by rw [← Nat.add_assoc, hnext, List.length_append, ← h6]; rfl, ?_, rfl⟩
        · refine condT (dT (by dsimp only; omega)) ?_
          refine iteT (by dsimp only; omega) ?_
          refine iteT (by dsimp only; rw [hw]; omega) ?_
          refine bindS g1 ?_
          refine bindS (v := xs[k + d - 1]) (by dsimp only; rw [hw, Int.toNat_natCast]; exact g2) ?_
          refine condT (dT (fun h => he h.symm)) ?_
          refine iteT (by dsimp only; omega) ?_
          refine bindS g1 ?_
          refine iteT (by dsimp only; omega) ?_
          refine bindS (v := arr[k']'(by omega)) (by dsimp only; rw [Nat.zero_add, Int.toNat_natCast]; exact List.getElem?_eq_getElem _) ?_
          dsimp only
          rw [w64 (by omega), w64 (by omega), Nat.zero_add, Int.toNat_natCast]
          rfl
        · rw [List.drop_set_of_lt (by omega)]
          exact drop_of_drop h4 (by omega)
        · rw [← Nat.add_assoc, hnext, List.take_succ_eq_append_getElem (by simp; omega), List.getElem_set_self, List.take_set_of_le (Nat.le_refl _), h7]
    · right
      have hkd : k + d = xs.length := by omega
      have ht : xs.take (k + d) = xs := by rw [hkd, List.take_length]
      rw [ht] at h6 h7
      refine ⟨_, condF (dF (by dsimp only; omega)) rfl, arr, ?_, h3, ?_⟩
      · dsimp only; rw [h6]
      · rw [← h6]; exact h7
  exact ⟨arr, hz, h1, h2⟩
theorem Compact_p {xs : List Tx} (hn : xs.length ≤ 1000000) : ∃ arr : List Tx, slices_Compact (0, xs.length) xs = some ((0, (dd xs).length), (arr, ())) ∧ arr.take (dd xs).length = dd xs := by
  unfold slices_Compact
  by_cases h2 : xs.length < 2
  · have hd : dd xs = xs := by
      match xs, h2 with
      | [], _ => rfl
      | [x], _ => rfl
    refine ⟨xs, condT (dT (by dsimp only; omega)) ?_, by rw [hd, List.take_length]⟩
    rw [hd]
  · have key : ∃ z, loopM slices_Compact_l1 (((0, xs.length), 1, ()), (xs, ())) = some z ∧ ((∃ arr : List Tx, z = .inl (((0, (dd xs).length), ()), (arr, ())) ∧ arr.take (dd xs).length = dd xs) ∨ z = .inr (((0, xs.length), ()), (xs, ())) ∧ dd xs = xs) := by
      refine loopM_spec (fun n a => ∃ k : Nat, a = (((0, xs.length), (k : Int), ()), (xs, ())) ∧ 1 ≤ k ∧ k ≤ xs.length ∧ dd (xs.take k) = xs.take k ∧ n = xs.length - k) _ ?_ (n := xs.length - 1) ⟨1, rfl, Nat.le_refl _, by omega, ?_, rfl⟩
      rotate_left
      · match xs, h2 with
        | [], h => exact absurd (by simp) h
        | x :: l, _ => rfl
      rintro n a ⟨k, rfl, g1, g2, g3, rfl⟩
      unfold slices_Compact_l1
      by_cases hk : k < xs.length
      · have hw : IntKind.i64.wrap ((k : Int) - 1) = ((k - 1 : Nat) : Int) := by rw [w64 (by omega)]; omega
        have r1 : xs[0 + k]? = some xs[k] := by rw [Nat.zero_add, List.getElem?_eq_getElem hk]
        have r2 : xs[0 + (k - 1)]? = some xs[k - 1] := by rw [Nat.zero_add, List.getElem?_eq_getElem (by omega)]
        by_cases he : xs[k] = xs[k - 1]
        · right
          obtain ⟨arr, q1, q2, q3⟩ := compactIn_p g1 hk hn g3 (by rw [List.getElem?_eq_getElem hk, List.getElem?_eq_getElem (by omega), he])
          have hdl := dd_len xs
          have hdt : dd (xs.take k) = xs.take k := g3
          refine ⟨_, ?_, .inl ⟨arr.take (dd xs).length ++ List.replicate (xs.length - (dd xs).length) [] ++ arr.drop ((dd xs).length + (xs.length - (dd xs).length)), rfl, ?_⟩⟩
          · refine condT (dT (by dsimp only; omega)) ?_
            refine iteT (by dsimp only; omega) ?_
            refine iteT (by dsimp only; rw [hw]; omega) ?_
            refine bindS r1 ?_
            refine bindS (v := xs[k - 1]) (by dsimp only; rw [hw, Int.toNat_natCast]; exact r2) ?_
            refine condT (dT he) ?_
            refine iteT (by dsimp only; omega) ?_
            refine bindS (v := (((0, xs.length), ((dd xs).length : Int), ()), (arr, ()))) (by dsimp only; rw [Nat.zero_add, Int.toNat_natCast, Int.toNat_natCast]; exact q1) ?_
            refine iteT (by dsimp only; omega) ?_
            refine iteT (by dsimp only; rw [Nat.zero_add, Int.toNat_natCast]; omega) ?_
            dsimp only
            refine iteT (by omega) ?_
            simp only [Nat.zero_add, Int.toNat_natCast]
            rfl
          · rw [List.append_assoc, List.take_append_of_le_length (by rw [List.length_take]; omega), List.take_take, Nat.min_self]
            exact q3
        · left
          refine ⟨xs.length - (k + 1), _, by omega, ?_, k + 1, rfl, by omega, by omega, ?_, rfl⟩
          · refine condT (dT (by dsimp only; omega)) ?_
            refine iteT (by dsimp only; omega) ?_
            refine iteT (by dsimp only; rw [hw]; omega) ?_
            refine bindS r1 ?_
            refine bindS (v := xs[k - 1]) (by dsimp only; rw [hw, Int.toNat_natCast]; exact r2) ?_
            refine condF (dF he) ?_
            dsimp only
            rw [w64 (by omega)]
            rfl
          · rw [List.take_succ_eq_append_getElem hk, dd_snoc, last_take g1 (by omega), List.getElem?_eq_getElem (by omega), if_neg (fun h => he (by injection h with h; exact h.symm)), g3]
      · right
        have hkx : k = xs.length := by omega
        refine ⟨_, condF (dF (by dsimp only; omega)) rfl, .inr ⟨rfl, ?_⟩⟩
        rw [hkx, List.take_length] at g3
        exact g3
    obtain ⟨z, hz, ⟨arr, rfl, q⟩ | ⟨rfl, q⟩⟩ := key
    · exact ⟨arr, condF (dF (by dsimp only; omega)) (bindS hz rfl), q⟩
    · refine ⟨xs, condF (dF (by dsimp only; omega)) (bindS hz ?_), by rw [q, List.take_length]⟩
      dsimp only
      rw [q]
theorem Sorted_p {xs : List Tx} (h : xs.length ≤ 1000000) : slices_Sorted xs = some ((0, xs.length), (xs, xs.mergeSort leT, ())) := by
  unfold slices_Sorted slices_Collect appendSeq
  rw [if_pos (by omega)]
  refine bindS rfl ?_
  refine bindS (v := ((), (xs.mergeSort leT, ()))) ?_ rfl
  unfold sortT
  exact if_pos ⟨rfl, rfl, by dsimp only; omega⟩
/-- Cut at any texts. -/
theorem Cut_p {s : DSpan} {xs : List Tx} (hs : OkSp s) (hx : ∀ k ∈ xs, OkT k) (hl : xs.length ≤ 100000) : span_Cut s xs = some (bif rightB s then cutF s (sdF xs) else [], ((), ())) := by
  unfold span_Cut
  rw [Right_p hs]
  refine bindS rfl ?_
  cases rightB s
  · exact condT rfl rfl
  refine condF rfl ?_
  refine bindS rfl ?_
  refine bindS (Sorted_p (xs := xs) (by omega)) ?_
  obtain ⟨arr, c1, c2⟩ := Compact_p (xs := xs.mergeSort leT) (by rw [List.length_mergeSort]; omega)
  rw [List.length_mergeSort] at c1
  refine bindS c1 ?_
  have hdl := sdF_len xs
  have harr : arr = sdF xs ++ arr.drop (sdF xs).length := by
    conv => lhs; rw [← List.take_append_drop (sdF xs).length arr]
    rw [show arr.take (sdF xs).length = sdF xs from c2]
  obtain ⟨out, s', h1, h2⟩ := cutLoop_p (at_ := []) (arr.drop (sdF xs).length) (xs := sdF xs) (fun k hk => hx k (mem_sdF.1 hk)) (by omega) hs
  rw [← harr] at h1
  refine bindS h1 ?_
  have hcl := cutF_len s (sdF xs)
  rw [← h2] at hcl
  simp at hcl
  refine iteT (by dsimp only; simp; omega) ?_
  rw [← h2]
  rfl
end Go.Proofs.YtaihdjknneiciaaGreat
/- Shares, plainly. -/
namespace Go.Proofs.YtaihdjknneiciaaGreat
open Go.RowKit
set_option maxRecDepth 100000
set_option linter.unusedVariables false
set_option linter.unusedSimpArgs false
theorem within_p (n lo hi : Int) : shares_within n lo hi = some (decide (lo ≤ n) && decide (n ≤ hi), ()) := by
  unfold shares_within
  by_cases h : lo ≤ n <;> simp [h]
/-- The first place of a list at which something holds. -/
def ixF (p : DShare → Bool) (l : List DShare) : Int := if l.any p = true then (l.findIdx p : Int) else -1
theorem ix_loop {α β : Type} {step : α → Option (α ⊕ β)} (l : List DShare) (p : DShare → Bool) (st : Int → α) (hit : Int → β) (miss : β)
    (h1 : ∀ (i : Nat) (hi : i < l.length), p l[i] = true → step (st i) = some (.inr (hit i))) (h2 : ∀ (i : Nat) (hi : i < l.length), p l[i] = false → step (st i) = some (.inl (st ((i + 1 : Nat) : Int)))) (h3 : step (st l.length) = some (.inr miss)) :
    loopM step (st 0) = some (if l.any p = true then hit (l.findIdx p) else miss) := by
  refine loopM_eq_of (fun n a => ∃ i : Nat, a = st i ∧ i ≤ l.length ∧ (∀ (j : Nat) (hj : j < l.length), j < i → p l[j] = false) ∧ n = l.length - i) _ ?_ (n := l.length) ⟨0, rfl, Nat.zero_le _, fun j _ h => absurd h (Nat.not_lt_zero j), rfl⟩
  rintro n a ⟨i, rfl, k1, k2, rfl⟩
  by_cases hi : i < l.length
  · cases hp : p l[i]
    · refine .inl ⟨_, _, by omega, h2 i hi hp, i + 1, rfl, by omega, fun j hj hji => ?_, rfl⟩
      by_cases he : j = i
      · subst he; exact hp
      · exact k2 j hj (by omega)
    · right
      have hany : l.any p = true := List.any_eq_true.2 ⟨l[i], List.getElem_mem hi, hp⟩
      have hix : l.findIdx p = i := (List.findIdx_eq hi).2 ⟨hp, fun j hj => k2 j (by omega) hj⟩
      rw [h1 i hi hp, if_pos hany, hix]
  · right
    obtain rfl : i = l.length := by omega
    have hany : ¬ l.any p = true := by
      intro h
      obtain ⟨x, hx, hp⟩ := List.any_eq_true.1 h
      obtain ⟨j, hj, rfl⟩ := List.mem_iff_getElem.1 hx
      rw [k2 j hj hj] at hp
      cases hp
    rw [h3, if_neg hany]
theorem ix_get {p : DShare → Bool} {l : List DShare} (h : l.any p = true) : ∃ (hi : l.findIdx p < l.length), p l[l.findIdx p] = true := by
  obtain ⟨x, hx, hp⟩ := List.any_eq_true.1 h
  have hi : l.findIdx p < l.length := List.findIdx_lt_length_of_exists ⟨x, hx, hp⟩
  exact ⟨hi, List.findIdx_getElem (w := hi)⟩
/-- Shares as they may come. -/
structure OkSh (s : DShares) : Prop where
  len : s.list.length ≤ 1000
  sp : ∀ x ∈ s.list, OkSp x.span
def wrongB (s : DShares) (x : DShare) : Bool := !(decide ((1 : Int) ≤ x.group) && decide (x.group ≤ 4)) || !(decide ((1 : Int) ≤ x.epoch) && decide (x.epoch ≤ s.epoch))
theorem right1_p (x : DShare) (w : DWork) : shares_right1 x w = some (wrongB w.shares x, (w, ())) := by
  unfold shares_right1
  rw [within_p, Option.bind_some, within_p, Option.bind_some]
  unfold wrongB
  cases (decide ((1 : Int) ≤ x.group) && decide (x.group ≤ 4)) <;> simp
theorem ix1_p {l : List DShare} (hl : l.length ≤ 1000) (w : DWork) : slices_IndexFunc l w = some (ixF (wrongB w.shares) l, (w, ())) := by
  have h := ix_loop (step := slices_IndexFunc_l1) l (wrongB w.shares) (fun i => ((l, (), (l.length : Int), i, ()), (w, ()))) (fun i => .inl ((i, ()), (w, ()))) (.inr ((), (w, ())))
    (fun i hi hp => by
      unfold slices_IndexFunc_l1
      exact condT (dT (by dsimp only; omega)) (bindS (getI_lt hi) (bindS (right1_p _ _) (condT hp rfl))))
    (fun i hi hp => by
      unfold slices_IndexFunc_l1
      refine condT (dT (by dsimp only; omega)) (bindS (getI_lt hi) (bindS (right1_p _ _) (condF hp ?_)))
      dsimp only
      rw [w64 (by omega)]
      rfl)
    (by unfold slices_IndexFunc_l1; exact condF (dF (by dsimp only; omega)) rfl)
  unfold slices_IndexFunc ixF
  refine bindS h ?_
  by_cases hq : l.any (wrongB w.shares) = true
  · rw [if_pos hq, if_pos hq]
  · rw [if_neg hq, if_neg hq]
theorem contains_p {l : List DShare} (hl : l.length ≤ 1000) (w : DWork) : slices_ContainsFunc l w = some (l.any (wrongB w.shares), (w, ())) := by
  unfold slices_ContainsFunc
  refine bindS (ix1_p hl w) ?_
  dsimp only
  unfold ixF
  cases h : l.any (wrongB w.shares) <;> simp
theorem spans_p {w : DWork} (hl : w.shares.list.length ≤ 1000) : shares_spans w = some (w.shares.list.map (·.span), ((), ())) := by
  have h := loopM_run (step := shares_spans_l1) (fun i : Nat => (((w.shares.list.take i).map (·.span), w.shares.list, (w.shares.list.length : Int), (i : Int), ()), ((), ()))) (N := w.shares.list.length) (b := ((w.shares.list.map (·.span), ()), ((), (), ())))
    (fun i hi => by
      unfold shares_spans_l1
      refine condT (dT (by dsimp only; omega)) (bindS (getI_lt hi) (iteT (by simp; omega) ?_))
      dsimp only
      rw [w64 (by omega), List.take_succ_eq_append_getElem hi, List.map_append]
      rfl)
    (by
      unfold shares_spans_l1
      refine condF (dF (by dsimp only; omega)) ?_
      dsimp only
      rw [List.take_length])
  unfold shares_spans
  exact bindS h rfl
def rightW (s : DShares) : Bool := (decide ((1 : Int) ≤ s.epoch) && decide (s.epoch ≤ 1073741824)) && (decide (s.list.length ≤ 40) && (!(s.list.any (wrongB s)) && partsF [] (s.list.map (·.span))))
theorem right_p {s : DShares} (h : OkSh s) : shares_right ⟨s⟩ = some (rightW s, ()) := by
  have hp : span_Parts (s.list.map (·.span)) = some (partsF [] (s.list.map (·.span)), ()) := Parts_p (by have := h.len; simp; omega) (fun x hx => by
    obtain ⟨y, hy, rfl⟩ := List.mem_map.1 hx
    exact h.sp y hy)
  unfold shares_right
  refine bindS (contains_p h.len _) ?_
  refine bindS (within_p _ _ _) ?_
  dsimp only
  unfold rightW
  cases (decide ((1 : Int) ≤ s.epoch) && decide (s.epoch ≤ 1073741824))
  · rfl
  simp only [cond_true, Bool.true_and]
  have e : decide ((s.list.length : Int) ≤ 40) = decide (s.list.length ≤ 40) := by
    by_cases h : s.list.length ≤ 40
    · rw [dT h, dT (by omega)]
    · rw [dF h, dF (by omega)]
  rw [e]
  cases decide (s.list.length ≤ 40)
  · rfl
  simp only [cond_true, Bool.true_and]
  cases s.list.any (wrongB s)
  · simp only [Bool.not_false, cond_true, Bool.true_and]
    exact bindS (spans_p h.len) (bindS hp rfl)
  · rfl
theorem Right_sh {s : DShares} (h : OkSh s) : shares_Right s = some (rightW s, ()) := by
  unfold shares_Right
  exact bindS (right_p h) rfl
theorem ix2_p {l : List DShare} (hl : l.length ≤ 1000) (hs : ∀ x ∈ l, OkSp x.span) {k : Tx} (hk : OkT k) : slices_IndexFunc_4 l ((), ()) k = some (ixF (fun x => hasB x.span k) l, (((), ()), k, ())) := by
  have hc : ∀ x ∈ l, shares_at1_3 x ((), ()) k = some (hasB x.span k, (((), ()), k, ())) := fun x hx => by
    unfold shares_at1_3 shares_Of1
    exact bindS (bindS (Has_p (hs x hx) hk) rfl) rfl
  have h := ix_loop (step := slices_IndexFunc_4_l1) l (fun x => hasB x.span k) (fun i => ((l, (), (l.length : Int), i, ()), (((), ()), k, ()))) (fun i => .inl ((i, ()), (((), ()), k, ()))) (.inr ((), (((), ()), k, ())))
    (fun i hi hp => by
      unfold slices_IndexFunc_4_l1
      exact condT (dT (by dsimp only; omega)) (bindS (getI_lt hi) (bindS (hc _ (List.getElem_mem hi)) (condT hp rfl))))
    (fun i hi hp => by
      unfold slices_IndexFunc_4_l1
      refine condT (dT (by dsimp only; omega)) (bindS (getI_lt hi) (bindS (hc _ (List.getElem_mem hi)) (condF hp ?_)))
      dsimp only
      rw [w64 (by omega)]
      rfl)
    (by unfold slices_IndexFunc_4_l1; exact condF (dF (by dsimp only; omega)) rfl)
  unfold slices_IndexFunc_4 ixF
  refine bindS h ?_
  by_cases hq : l.any (fun x => hasB x.span k) = true
  · rw [if_pos hq, if_pos hq]
  · rw [if_neg hq, if_neg hq]
theorem ix3_p {l : List DShare} (hl : l.length ≤ 1000) (hs : ∀ x ∈ l, OkSp x.span) {a : DSpan} (ha : OkSp a) : slices_IndexFunc_3 l ((), ()) a = some (ixF (fun x => withinB a x.span) l, (((), ()), a, ())) := by
  have hc : ∀ x ∈ l, shares_at1_2 x ((), ()) a = some (withinB a x.span, (((), ()), a, ())) := fun x hx => by
    unfold shares_at1_2 shares_In1
    exact bindS (bindS (Within_p ha (hs x hx)) rfl) rfl
  have h := ix_loop (step := slices_IndexFunc_3_l1) l (fun x => withinB a x.span) (fun i => ((l, (), (l.length : Int), i, ()), (((), ()), a, ()))) (fun i => .inl ((i, ()), (((), ()), a, ()))) (.inr ((), (((), ()), a, ())))
    (fun i hi hp => by
      unfold slices_IndexFunc_3_l1
      exact condT (dT (by dsimp only; omega)) (bindS (getI_lt hi) (bindS (hc _ (List.getElem_mem hi)) (condT hp rfl))))
    (fun i hi hp => by
      unfold slices_IndexFunc_3_l1
      refine condT (dT (by dsimp only; omega)) (bindS (getI_lt hi) (bindS (hc _ (List.getElem_mem hi)) (condF hp ?_)))
      dsimp only
      rw [w64 (by omega)]
      rfl)
    (by unfold slices_IndexFunc_3_l1; exact condF (dF (by dsimp only; omega)) rfl)
  unfold slices_IndexFunc_3 ixF
  refine bindS h ?_
  by_cases hq : l.any (fun x => withinB a x.span) = true
  · rw [if_pos hq, if_pos hq]
  · rw [if_neg hq, if_neg hq]
theorem ix0_p {l : List DShare} (hl : l.length ≤ 1000) (hs : ∀ x ∈ l, OkSp x.span) {a : DSpan} (ha : OkSp a) : slices_IndexFunc_2 l ((), ()) a = some (ixF (fun x => withinB a x.span) l, (((), ()), a, ())) := by
  have hc : ∀ x ∈ l, shares_at1 x ((), ()) a = some (withinB a x.span, (((), ()), a, ())) := fun x hx => by
    unfold shares_at1 shares_Turn1
    exact bindS (bindS (Within_p ha (hs x hx)) rfl) rfl
  have h := ix_loop (step := slices_IndexFunc_2_l1) l (fun x => withinB a x.span) (fun i => ((l, (), (l.length : Int), i, ()), (((), ()), a, ()))) (fun i => .inl ((i, ()), (((), ()), a, ()))) (.inr ((), (((), ()), a, ())))
    (fun i hi hp => by
      unfold slices_IndexFunc_2_l1
      exact condT (dT (by dsimp only; omega)) (bindS (getI_lt hi) (bindS (hc _ (List.getElem_mem hi)) (condT hp rfl))))
    (fun i hi hp => by
      unfold slices_IndexFunc_2_l1
      refine condT (dT (by dsimp only; omega)) (bindS (getI_lt hi) (bindS (hc _ (List.getElem_mem hi)) (condF hp ?_)))
      dsimp only
      rw [w64 (by omega)]
      rfl)
    (by unfold slices_IndexFunc_2_l1; exact condF (dF (by dsimp only; omega)) rfl)
  unfold slices_IndexFunc_2 ixF
  refine bindS h ?_
  by_cases hq : l.any (fun x => withinB a x.span) = true
  · rw [if_pos hq, if_pos hq]
  · rw [if_neg hq, if_neg hq]
def noSh : DShare := ⟨⟨[], []⟩, 0, 0⟩
/-- The first share at which something holds. -/
def pickF (s : DShares) (p : DShare → Bool) : Option DShare := if rightW s = true ∧ s.list.any p = true then s.list[s.list.findIdx p]? else none
theorem share_p (s : DShares) (p : DShare → Bool) : shares_share ⟨s⟩ (bif rightW s then ixF p s.list else -1) = some (((pickF s p).getD noSh, (pickF s p).isSome, ()), ()) := by
  unfold shares_share pickF
  cases hr : rightW s
  · exact condT rfl (by simp [noSh])
  · simp only [cond_true, true_and]
    unfold ixF
    by_cases h : s.list.any p = true
    · obtain ⟨hi, _⟩ := ix_get h
      rw [if_pos h, if_pos h]
      refine condF (dF (by omega)) ?_
      refine bindS (getI_lt hi) ?_
      rw [List.getElem?_eq_getElem hi]
      rfl
    · rw [if_neg h, if_neg h]
      exact condT rfl rfl
theorem Of_p {s : DShares} (h : OkSh s) {k : Tx} (hk : OkT k) : shares_Of s k = some (((pickF s fun x => hasB x.span k).getD noSh, (pickF s fun x => hasB x.span k).isSome, ()), ()) := by
  have ha : shares_at_3 ⟨s⟩ k = some (bif rightW s then ixF (fun x => hasB x.span k) s.list else -1, (k, ())) := by
    unfold shares_at_3
    refine bindS (right_p h) ?_
    cases rightW s
    · rfl
    · exact condF rfl (bindS (ix2_p h.len h.sp hk) rfl)
  unfold shares_Of
  exact bindS ha (bindS (share_p s _) rfl)
theorem In_p {s : DShares} (h : OkSh s) {a : DSpan} (hk : OkSp a) : shares_In s a = some (((pickF s fun x => withinB a x.span).getD noSh, (pickF s fun x => withinB a x.span).isSome, ()), ()) := by
  have ha : shares_at_2 ⟨s⟩ a = some (bif rightW s then ixF (fun x => withinB a x.span) s.list else -1, (a, ())) := by
    unfold shares_at_2
    refine bindS (right_p h) ?_
    cases rightW s
    · rfl
    · exact condF rfl (bindS (ix3_p h.len h.sp hk) rfl)
  unfold shares_In
  exact bindS ha (bindS (share_p s _) rfl)
theorem pick_some {s : DShares} {p : DShare → Bool} {x : DShare} (h : pickF s p = some x) : rightW s = true ∧ ∃ (i : Nat) (hi : i < s.list.length), s.list[i] = x ∧ p x = true := by
  unfold pickF at h
  split at h
  · rename_i hc
    obtain ⟨hi, hp⟩ := ix_get hc.2
    rw [List.getElem?_eq_getElem hi] at h
    injection h with h
    subst h
    exact ⟨hc.1, _, hi, rfl, hp⟩
  · cases h
theorem pick_is {s : DShares} {p : DShare → Bool} : (pickF s p).isSome = (rightW s && s.list.any p) := by
  unfold pickF
  by_cases h : rightW s = true ∧ s.list.any p = true
  · obtain ⟨hi, _⟩ := ix_get h.2
    rw [if_pos h, List.getElem?_eq_getElem hi, h.1, h.2]
    rfl
  · rw [if_neg h]
    cases hr : rightW s
    · rfl
    · cases ha : s.list.any p
      · rfl
      · exact absurd ⟨hr, ha⟩ h
-- spans that part all keys
theorem has_ge {f : Tx} {l : List DSpan} {k : Tx} (h : partsF f l = true) : (∀ s ∈ l, hasB s k = true → ¬ k < f) ∧ (keyB k = true → ¬ k < f → ∃ s ∈ l, hasB s k = true) ∧ l.Pairwise (fun s t => ¬ (hasB s k = true ∧ hasB t k = true)) := by
  induction l generalizing f with
  | nil => cases h
  | cons s l ih =>
    cases l with
    | nil =>
      simp only [partsF, Bool.and_eq_true, decide_eq_true_eq] at h
      obtain ⟨h1, h2, h3⟩ := h
      refine ⟨fun t ht hk => ?_, fun hk hf => ⟨s, by simp, ?_⟩, by simp⟩
      · simp at ht
        subst ht
        simp only [hasB, Bool.and_eq_true, Bool.not_eq_true', decide_eq_false_iff_not] at hk
        rw [← h2]; exact hk.2.2.1
      · simp only [hasB, Bool.and_eq_true, Bool.not_eq_true', decide_eq_false_iff_not, Bool.or_eq_true, decide_eq_true_eq]
        exact ⟨h1, hk, by rw [h2]; exact hf, .inl h3⟩
    | cons t l =>
      simp only [partsF, Bool.and_eq_true, decide_eq_true_eq, Bool.not_eq_true', decide_eq_false_iff_not] at h
      obtain ⟨h1, h2, h3, h4⟩ := h
      obtain ⟨i1, i2, i3⟩ := ih h4
      have hlt : s.lo < s.hi := by
        simp only [rightB, Bool.and_eq_true, Bool.or_eq_true, decide_eq_true_eq] at h1
        exact h1.2.2.resolve_left h3
      refine ⟨fun u hu hk => ?_, fun hk hf => ?_, List.pairwise_cons.2 ⟨fun u hu hh => ?_, i3⟩⟩
      · rcases List.mem_cons.1 hu with rfl | hu
        · simp only [hasB, Bool.and_eq_true, Bool.not_eq_true', decide_eq_false_iff_not] at hk
          rw [← h2]; exact hk.2.2.1
        · have := i1 u hu hk
          rw [← h2]
          grind
      · by_cases hh : k < s.hi
        · refine ⟨s, by simp, ?_⟩
          simp only [hasB, Bool.and_eq_true, Bool.not_eq_true', decide_eq_false_iff_not, Bool.or_eq_true, decide_eq_true_eq]
          exact ⟨h1, hk, by rw [h2]; exact hf, .inr hh⟩
        · obtain ⟨u, hu, hu2⟩ := i2 hk hh
          exact ⟨u, List.mem_cons_of_mem _ hu, hu2⟩
      · have g1 := i1 u hu hh.2
        have g2 := hh.1
        simp only [hasB, Bool.and_eq_true, Bool.not_eq_true', decide_eq_false_iff_not, Bool.or_eq_true, decide_eq_true_eq] at g2
        exact g1 (g2.2.2.2.resolve_left h3)
theorem right_parts {s : DShares} (h : rightW s = true) : partsF [] (s.list.map (·.span)) = true := by
  unfold rightW at h
  simp only [Bool.and_eq_true] at h
  exact h.2.2.2
theorem any_key {s : DShares} (h : rightW s = true) (k : Tx) : s.list.any (fun x => hasB x.span k) = keyB k := by
  cases hk : keyB k
  · rw [List.any_eq_false]
    intro x hx hh
    simp only [hasB, Bool.and_eq_true] at hh
    rw [hk] at hh
    cases hh.2.1
  · obtain ⟨u, hu, hu2⟩ := (has_ge (k := k) (right_parts h)).2.1 hk (by simp)
    obtain ⟨x, hx, rfl⟩ := List.mem_map.1 hu
    exact List.any_eq_true.2 ⟨x, hx, hu2⟩
theorem one_key {s : DShares} (h : rightW s = true) {k : Tx} {i j : Nat} (hi : i < s.list.length) (hj : j < s.list.length) (h1 : hasB s.list[i].span k = true) (h2 : hasB s.list[j].span k = true) : i = j := by
  have hp := (has_ge (k := k) (right_parts h)).2.2
  rw [List.pairwise_map, List.pairwise_iff_getElem] at hp
  rcases Nat.lt_trichotomy i j with hlt | he | hlt
  · exact absurd ⟨h1, h2⟩ (hp i j hi hj hlt)
  · exact he
  · exact absurd ⟨h2, h1⟩ (hp j i hj hi hlt)
theorem within_has {a b : DSpan} {k : Tx} (h : withinB a b = true) (hk : hasB a k = true) : hasB b k = true := by
  simp only [withinB, Bool.and_eq_true, Bool.not_eq_true', decide_eq_false_iff_not, Bool.or_eq_true, decide_eq_true_eq] at h
  simp only [hasB, Bool.and_eq_true, Bool.not_eq_true', decide_eq_false_iff_not, Bool.or_eq_true, decide_eq_true_eq] at hk ⊢
  obtain ⟨h1, h2, h3, h4⟩ := h
  obtain ⟨k1, k2, k3, k4⟩ := hk
  refine ⟨h2, k2, by grind, ?_⟩
  rcases h4 with h4 | ⟨h4, h5⟩
  · exact .inl h4
  · rcases k4 with k4 | k4
    · exact absurd k4 h4
    · right; grind
end Go.Proofs.YtaihdjknneiciaaGreat
/- Cuts and a first turn, plainly (written by plain20.py). -/
namespace Go.Proofs.YtaihdjknneiciaaGreat
open Go.RowKit
set_option maxRecDepth 100000
set_option linter.unusedVariables false
set_option linter.unusedSimpArgs false
/-- The places of a cut at two texts. -/
def at2 (x y : Tx) : List Tx := if x = y then [x] else if y < x then [y, x] else [x, y]
theorem sd2 (x y : Tx) : sdF [x, y] = at2 x y := by
  have hs : [x, y].mergeSort leT = if leT x y then [x, y] else [y, x] := by
    rw [List.mergeSort]
    simp [List.MergeSort.Internal.splitInTwo, List.merge]
  unfold sdF at2
  rw [hs]
  by_cases h : x = y
  · subst h; simp [dd]
  · rw [if_neg h]
    by_cases h2 : y < x
    · have : ¬ x ≤ y := List.not_le.2 h2
      rw [if_pos h2, if_neg (by simpa [leT] using this)]
      simp [dd, Ne.symm h]
    · have : x ≤ y := List.not_lt.1 h2
      rw [if_neg h2, if_pos (by simpa [leT] using this)]
      simp [dd, h]
theorem CutAt_p {s : DSpan} {x y : Tx} (hs : OkSp s) (hx : OkT x) (hy : OkT y) (hr : rightB s = true) : span_Cut s [x, y] = some (cutF s (at2 x y), ((), ())) := by
  have := Cut_p (xs := [x, y]) hs (fun k hk => by
    simp only [List.mem_cons, List.not_mem_nil, or_false] at hk
    rcases hk with rfl | rfl
    · exact hx
    · exact hy) (by simp)
  rw [hr, sd2] at this
  exact this
theorem ok0 : OkSp ⟨[], []⟩ := ⟨by simp [OkT], by simp [OkT]⟩
theorem okm : OkSp ⟨[109], []⟩ := ⟨by simp [OkT], by simp [OkT]⟩
theorem cut_m : cutF ⟨[], []⟩ [[], [109]] = [⟨[], [109]⟩, ⟨[109], []⟩] := by decide +kernel
theorem First_p : shares_First 1 = some (⟨1, [⟨⟨[], []⟩, 1, 1⟩]⟩, ()) := by
  unfold shares_First
  refine bindS (within_p _ _ _) ?_
  exact condF (by decide) (bindS rfl rfl)
theorem parted_m : shares_parted ⟨⟨[], []⟩, 1, 1⟩ ⟨[109], []⟩ 2 2 = some ([⟨⟨[], [109]⟩, 1, 1⟩, ⟨⟨[109], []⟩, 2, 2⟩], ((), ())) := by
  have hc : span_Cut ⟨[], []⟩ [[109], []] = some ([⟨[], [109]⟩, ⟨[109], []⟩], ((), ())) := by
    rw [CutAt_p ok0 (by simp [OkT]) (by simp [OkT]) (by decide +kernel), show at2 [109] [] = [[], [109]] from by decide +kernel, cut_m]
  have l1 : shares_parted_l1 ((2, 2, (), (), [], [⟨[], [109]⟩, ⟨[109], []⟩], 2, 0, ()), (⟨⟨[], []⟩, 1, 1⟩, ⟨[109], []⟩, (), (), ())) = some (.inl ((2, 2, (), (), [⟨⟨[], [109]⟩, 1, 1⟩], [⟨[], [109]⟩, ⟨[109], []⟩], 2, 1, ()), (⟨⟨[], []⟩, 1, 1⟩, ⟨[109], []⟩, (), (), ()))) := by
    unfold shares_parted_l1
    refine condT rfl (bindS (v := ⟨[], [109]⟩) rfl (condF (by decide) (iteT (by simp) ?_)))
    rfl
  have l2 : shares_parted_l1 ((2, 2, (), (), [⟨⟨[], [109]⟩, 1, 1⟩], [⟨[], [109]⟩, ⟨[109], []⟩], 2, 1, ()), (⟨⟨[], []⟩, 1, 1⟩, ⟨[109], []⟩, (), (), ())) = some (.inl ((2, 2, (), (), [⟨⟨[], [109]⟩, 1, 1⟩, ⟨⟨[109], []⟩, 2, 2⟩], [⟨[], [109]⟩, ⟨[109], []⟩], 2, 2, ()), (⟨⟨[], []⟩, 1, 1⟩, ⟨[109], []⟩, (), (), ()))) := by
    unfold shares_parted_l1
    refine condT rfl (bindS (v := ⟨[109], []⟩) rfl (condT (by decide) (iteT (by simp) ?_)))
    rfl
  have l3 : shares_parted_l1 ((2, 2, (), (), [⟨⟨[], [109]⟩, 1, 1⟩, ⟨⟨[109], []⟩, 2, 2⟩], [⟨[], [109]⟩, ⟨[109], []⟩], 2, 2, ()), (⟨⟨[], []⟩, 1, 1⟩, ⟨[109], []⟩, (), (), ())) = some (.inr (([⟨⟨[], [109]⟩, 1, 1⟩, ⟨⟨[109], []⟩, 2, 2⟩], ()), (⟨⟨[], []⟩, 1, 1⟩, ⟨[109], []⟩, (), (), (), ()))) := by
    unfold shares_parted_l1
    exact condF rfl rfl
  unfold shares_parted
  refine bindS hc ?_
  refine bindS ((loopM_next l1).trans ((loopM_next l2).trans (loopM_end l3))) ?_
  rfl
theorem okf : OkSh ⟨1, [⟨⟨[], []⟩, 1, 1⟩]⟩ := ⟨by simp, by simpa using ok0⟩
theorem Turn_m : shares_Turn ⟨1, [⟨⟨[], []⟩, 1, 1⟩]⟩ ⟨[109], []⟩ 2 = some ((⟨2, [⟨⟨[], [109]⟩, 1, 1⟩, ⟨⟨[109], []⟩, 2, 2⟩]⟩, 0, ()), ()) := by
  have hr : rightW ⟨1, [⟨⟨[], []⟩, 1, 1⟩]⟩ = true := by decide +kernel
  have ha : shares_at ⟨⟨1, [⟨⟨[], []⟩, 1, 1⟩]⟩⟩ ⟨[109], []⟩ = some (0, (⟨[109], []⟩, ())) := by
    unfold shares_at
    refine bindS (right_p okf) ?_
    refine condF (by rw [hr]; rfl) ?_
    refine bindS (ix0_p okf.len okf.sp okm) ?_
    have : ixF (fun x => withinB ⟨[109], []⟩ x.span) [⟨⟨[], []⟩, 1, 1⟩] = 0 := by decide +kernel
    dsimp only
    rw [this]
  unfold shares_Turn
  refine bindS ha ?_
  refine bindS (right_p okf) ?_
  refine condF (by rw [hr]; rfl) ?_
  refine bindS (Right_p okm) ?_
  refine condF (by decide +kernel) ?_
  refine bindS (within_p _ _ _) ?_
  refine condF (by decide) ?_
  refine condF rfl ?_
  refine bindS (v := ⟨⟨[], []⟩, 1, 1⟩) rfl ?_
  refine condF (by decide) ?_
  refine bindS (v := ⟨⟨[], []⟩, 1, 1⟩) rfl ?_
  refine bindS (v := (1, ([⟨⟨[], []⟩, 1, 1⟩], ()))) (by unfold cloneA100; exact if_pos (by simp)) ?_
  refine bindS (v := ([⟨⟨[], [109]⟩, 1, 1⟩, ⟨⟨[109], []⟩, 2, 2⟩], ((), ()))) (by
    show shares_parted _ _ _ (IntKind.i64.wrap (1 + 1)) = _
    rw [show IntKind.i64.wrap (1 + 1) = 2 from by decide]
    exact parted_m) ?_
  refine bindS (v := ([⟨⟨[], [109]⟩, 1, 1⟩, ⟨⟨[109], []⟩, 2, 2⟩], ((), (), ()))) (by
    unfold replace
    dsimp only
    rw [show IntKind.i64.wrap (0 + 1) = 1 from by decide]
    exact if_pos ⟨rfl, by omega, by omega, by simp, by simp, by simp⟩) ?_
  refine condF (by decide) ?_
  refine condF rfl ?_
  rfl
/-- The shares of a key. -/
def ofF (s : DShares) (k : Tx) : Option DShare := pickF s fun x => hasB x.span k
end Go.Proofs.YtaihdjknneiciaaGreat
/- What a turn makes of shares, plainly. -/
namespace Go.Proofs.YtaihdjknneiciaaGreat
open Go.RowKit
set_option maxRecDepth 100000
set_option linter.unusedVariables false
set_option linter.unusedSimpArgs false
/-- A piece of a share. -/
def pieceF (x : DShare) (a : DSpan) (g e : Int) (s : DSpan) : DShare := bif decide (s.lo = a.lo) && (decide (s.hi = a.hi) && true) then ⟨s, g, e⟩ else ⟨s, x.group, x.epoch⟩
def partF (x : DShare) (a : DSpan) (g e : Int) : List DShare := (cutF x.span (at2 a.lo a.hi)).map (pieceF x a g e)
theorem at2_len (x y : Tx) : (at2 x y).length ≤ 2 := by
  unfold at2
  split
  · simp
  · split <;> simp
theorem parted_p {x : DShare} {a : DSpan} {g e : Int} (hx : OkSp x.span) (ha : OkSp a) (hr : rightB x.span = true) : shares_parted x a g e = some (partF x a g e, ((), ())) := by
  have hl := cutF_len x.span (at2 a.lo a.hi)
  have hl2 := at2_len a.lo a.hi
  unfold shares_parted
  refine bindS (CutAt_p hx ha.1 ha.2 hr) ?_
  unfold partF
  generalize cutF x.span (at2 a.lo a.hi) = l at *
  have h := loopM_run (step := shares_parted_l1) (fun i : Nat => ((g, e, (), (), (l.take i).map (pieceF x a g e), l, (l.length : Int), (i : Int), ()), (x, a, (), (), ()))) (N := l.length) (b := ((l.map (pieceF x a g e), ()), (x, a, (), (), (), ())))
    (fun i hi => by
      unfold shares_parted_l1
      refine condT (dT (by dsimp only; omega)) (bindS (getI_lt hi) ?_)
      have ht : (l.take (i + 1)).map (pieceF x a g e) = (l.take i).map (pieceF x a g e) ++ [pieceF x a g e l[i]] := by
        rw [List.take_succ_eq_append_getElem hi, List.map_append]
        rfl
      rw [ht]
      unfold pieceF
      cases (decide (l[i].lo = a.lo) && (decide (l[i].hi = a.hi) && true))
      · refine condF rfl (iteT (by simp; omega) ?_)
        dsimp only
        rw [w64 (by omega)]
        rfl
      · refine condT rfl (iteT (by simp; omega) ?_)
        dsimp only
        rw [w64 (by omega)]
        rfl)
    (by
      unfold shares_parted_l1
      refine condF (dF (by dsimp only; omega)) ?_
      dsimp only
      rw [List.take_length])
  exact bindS h rfl
/-- Shares, turned at a place. -/
def turnF (s : DShares) (i : Nat) (a : DSpan) (g : Int) : DShares := ⟨s.epoch + 1, s.list.take i ++ partF (s.list[i]?.getD noSh) a g (s.epoch + 1) ++ s.list.drop (i + 1)⟩
theorem cutF_ne (s : DSpan) (l : List Tx) : 1 ≤ (cutF s l).length := by
  induction l generalizing s with
  | nil => simp [cutF]
  | cons k l ih =>
    unfold cutF
    cases hasB s k
    · exact ih s
    · by_cases h : k = s.lo
      · simp [h]; exact ih s
      · simp [h]
theorem at_in {s : DShares} (h : OkSh s) {a : DSpan} (ha : OkSp a) : shares_at ⟨s⟩ a = some (bif rightW s then ixF (fun x => withinB a x.span) s.list else -1, (a, ())) := by
  unfold shares_at
  refine bindS (right_p h) ?_
  cases rightW s
  · rfl
  · exact condF rfl (bindS (ix0_p h.len h.sp ha) rfl)
theorem within_right {a b : DSpan} (h : withinB a b = true) : rightB a = true ∧ rightB b = true := by
  simp only [withinB, Bool.and_eq_true] at h
  exact ⟨h.1, h.2.1⟩
/-- What a turn tells. -/
theorem Turn_p {s : DShares} (h : OkSh s) {a : DSpan} (ha : OkSp a) (g : Int) : ∃ t e, shares_Turn s a g = some ((t, e, ()), ()) ∧ (e ≠ 0 → t = ⟨0, []⟩) ∧ (e = 0 → rightW s = true ∧ (1 ≤ g ∧ g ≤ 4) ∧ s.epoch ≠ 1073741824 ∧ ∃ (i : Nat) (hi : i < s.list.length), withinB a s.list[i].span = true ∧ s.list[i].group ≠ g ∧ t = turnF s i a g ∧ t.list.length ≤ 40 ∧ pickF s (fun x => withinB a x.span) = some s.list[i]) := by
  unfold shares_Turn
  rw [at_in h ha, Option.bind_some, right_p h, Option.bind_some]
  cases hr : rightW s with
  | false => exact ⟨_, _, condT rfl rfl, fun _ => rfl, fun h => by cases h⟩
  | true =>
  simp only [Bool.not_true, cond_false, cond_true]
  rw [Right_p ha, Option.bind_some]
  cases hra : rightB a with
  | false => exact ⟨_, _, condT rfl rfl, fun _ => rfl, fun h => by cases h⟩
  | true =>
  simp only [Bool.not_true, cond_false]
  rw [within_p, Option.bind_some]
  by_cases hg : 1 ≤ g ∧ g ≤ 4
  rotate_left
  · refine ⟨_, _, condT (by
      rw [Bool.not_eq_true', Bool.and_eq_false_iff]
      by_cases h1 : 1 ≤ g
      · exact .inr (dF fun h2 => hg ⟨h1, h2⟩)
      · exact .inl (dF h1)) rfl, fun _ => rfl, fun h => by cases h⟩
  have hgb : (!(decide (1 ≤ g) && decide (g ≤ 4))) = false := by rw [dT hg.1, dT hg.2]; rfl
  rw [hgb, cond_false]
  unfold ixF
  by_cases hany : s.list.any (fun x => withinB a x.span) = true
  rotate_left
  · rw [if_neg hany]
    exact ⟨_, _, condT rfl rfl, fun _ => rfl, fun h => by cases h⟩
  rw [if_pos hany]
  obtain ⟨hi, hp⟩ := ix_get hany
  have hpk : pickF s (fun x => withinB a x.span) = some (s.list[s.list.findIdx (fun x => withinB a x.span)]) := by
    unfold pickF
    rw [if_pos ⟨hr, hany⟩, List.getElem?_eq_getElem hi]
  generalize s.list.findIdx (fun x => withinB a x.span) = i at *
  rw [dF (by omega : ¬ (i : Int) < 0), cond_false, getI_lt hi, Option.bind_some, Option.bind_some]
  by_cases hgr : s.list[i].group = g
  · rw [dT hgr, cond_true]
    exact ⟨_, _, rfl, fun _ => rfl, fun h => by cases h⟩
  rw [dF hgr, cond_false]
  have hsx : OkSp s.list[i].span := h.sp _ (List.getElem_mem hi)
  have hlen := h.len
  have hc : cloneA100 s.list = some (s.list.length, (s.list, ())) := by
    unfold cloneA100
    exact if_pos (by omega)
  have he : 1 ≤ s.epoch ∧ s.epoch ≤ 1073741824 := by
    unfold rightW at hr
    simp only [Bool.and_eq_true, decide_eq_true_eq] at hr
    exact hr.1
  have hw : IntKind.i64.wrap (s.epoch + 1) = s.epoch + 1 := w64 (by omega)
  have hl1 := cutF_len s.list[i].span (at2 a.lo a.hi)
  have hl2 := at2_len a.lo a.hi
  have hl3 := cutF_ne s.list[i].span (at2 a.lo a.hi)
  have hpl : (partF s.list[i] a g (s.epoch + 1)).length = (cutF s.list[i].span (at2 a.lo a.hi)).length := by unfold partF; simp
  rw [hc, Option.bind_some, hw, parted_p hsx ha (within_right hp).2, Option.bind_some]
  dsimp only
  rw [w64 (by omega)]
  have hrp : replace s.list.length (i : Int) ((i : Int) + 1) (partF s.list[i] a g (s.epoch + 1)) s.list = some (s.list.take i ++ partF s.list[i] a g (s.epoch + 1) ++ s.list.drop (i + 1), ((), (), ())) := by
    unfold replace
    rw [if_pos ⟨rfl, by omega, by omega, by omega, by omega, by omega⟩]
    have : ((i : Int) + 1).toNat = i + 1 := by omega
    rw [this, Int.toNat_natCast]
  rw [hrp, Option.bind_some]
  by_cases hme : s.epoch = 1073741824
  · rw [dT hme, cond_true]
    exact ⟨_, _, rfl, fun _ => rfl, fun h => by cases h⟩
  rw [dF hme, cond_false]
  dsimp only
  have htf : turnF s i a g = ⟨s.epoch + 1, s.list.take i ++ partF s.list[i] a g (s.epoch + 1) ++ s.list.drop (i + 1)⟩ := by
    unfold turnF
    rw [List.getElem?_eq_getElem hi]
    rfl
  by_cases hmx : (40 : Int) < ((s.list.take i ++ partF s.list[i] a g (s.epoch + 1) ++ s.list.drop (i + 1)).length : Int)
  · rw [dT hmx, cond_true]
    exact ⟨_, _, rfl, fun _ => rfl, fun h => by cases h⟩
  · rw [dF hmx, cond_false]
    exact ⟨_, _, rfl, fun h => absurd rfl h, fun _ => ⟨trivial, hg, hme, i, hi, hp, hgr, htf.symm, by dsimp only; omega, hpk⟩⟩
end Go.Proofs.YtaihdjknneiciaaGreat
/- Spans that part a span: put in the place of it, they part what was parted. -/
namespace Go.Proofs.YtaihdjknneiciaaGreat
open Go.RowKit
set_option maxRecDepth 100000
set_option linter.unusedVariables false
set_option linter.unusedSimpArgs false
/-- Do spans part all keys from a text on up to another one? -/
def partsE (h : Tx) : Tx → List DSpan → Bool
  | _, [] => false
  | f, [s] => rightB s && (decide (s.lo = f) && decide (s.hi = h))
  | f, s :: t :: l => rightB s && (decide (s.lo = f) && (!decide (s.hi = []) && partsE h s.hi (t :: l)))
theorem partsF_E : ∀ (f : Tx) (l : List DSpan), partsF f l = partsE [] f l
  | _, [] => rfl
  | _, [_] => rfl
  | f, s :: t :: l => by
    unfold partsF partsE
    rw [partsF_E s.hi (t :: l)]
theorem partsE_ne {h f : Tx} {l : List DSpan} (k : partsE h f l = true) : l ≠ [] := fun e => by subst e; cases k
theorem partsE_cons {h f : Tx} {s : DSpan} {l : List DSpan} (hl : l ≠ []) : partsE h f (s :: l) = (rightB s && (decide (s.lo = f) && (!decide (s.hi = []) && partsE h s.hi l))) := by
  cases l with
  | nil => exact absurd rfl hl
  | cons t l => rfl
theorem partsE_app {h m : Tx} {l2 : List DSpan} (hm : m ≠ []) (k2 : partsE h m l2 = true) : ∀ {l1 : List DSpan} {f : Tx}, partsE m f l1 = true → partsE h f (l1 ++ l2) = true
  | [], _, k => by cases k
  | [s], f, k => by
    simp only [partsE, Bool.and_eq_true, decide_eq_true_eq] at k
    rw [List.singleton_append, partsE_cons (partsE_ne k2), k.1, k.2.1, k.2.2, k2]
    simp [hm]
  | s :: t :: l, f, k => by
    rw [partsE_cons (by simp)] at k
    simp only [Bool.and_eq_true] at k
    rw [List.cons_append, partsE_cons (by simp)]
    simp only [Bool.and_eq_true]
    exact ⟨k.1, k.2.1, k.2.2.1, partsE_app hm k2 k.2.2.2⟩
/-- One of the spans gives way to spans that part it. -/
theorem partsE_put {h : Tx} {m : List DSpan} : ∀ {l : List DSpan} {f : Tx} {i : Nat} (hi : i < l.length), partsE h f l = true → partsE l[i].hi l[i].lo m = true → partsE h f (l.take i ++ m ++ l.drop (i + 1)) = true
  | [], _, _, hi, _, _ => absurd hi (Nat.not_lt_zero _)
  | [s], f, 0, hi, k, km => by
    simp only [partsE, Bool.and_eq_true, decide_eq_true_eq] at k
    simp only [List.getElem_cons_zero] at km
    rw [k.2.1, k.2.2] at km
    simpa using km
  | s :: t :: l, f, 0, hi, k, km => by
    rw [partsE_cons (by simp)] at k
    simp only [Bool.and_eq_true, decide_eq_true_eq, Bool.not_eq_true', decide_eq_false_iff_not] at k
    simp only [List.getElem_cons_zero] at km
    have := partsE_app k.2.2.1 k.2.2.2 km
    rw [k.2.1] at this
    simpa using this
  | [s], f, i + 1, hi, _, _ => absurd hi (by simp)
  | s :: t :: l, f, i + 1, hi, k, km => by
    rw [partsE_cons (by simp)] at k
    simp only [Bool.and_eq_true] at k
    have hi' : i < (t :: l).length := by simpa using hi
    have ih := partsE_put hi' k.2.2.2 (by simpa using km)
    have hne := partsE_ne ih
    rw [List.take_succ_cons, List.drop_succ_cons, List.cons_append, List.cons_append, partsE_cons hne]
    simp only [Bool.and_eq_true]
    exact ⟨k.1, k.2.1, k.2.2.1, ih⟩
theorem keyB_ne {k : Tx} (h : keyB k = true) : k ≠ [] := by
  unfold keyB at h
  simp only [Bool.and_eq_true, Bool.not_eq_true', decide_eq_false_iff_not] at h
  exact h.1
/-- Where a right span is cut, the pieces part it. -/
theorem cutF_parts : ∀ (l : List Tx) {s : DSpan}, rightB s = true → partsE s.hi s.lo (cutF s l) = true
  | [], s, h => by simp [cutF, partsE, h]
  | k :: l, s, h => by
    rw [cutF_cons]
    cases hk : hasB s k
    · exact cutF_parts l h
    · by_cases he : k = s.lo
      · rw [dT he]; exact cutF_parts l h
      · rw [dF he]
        simp only [Bool.not_true, cond_false]
        simp only [hasB, Bool.and_eq_true, Bool.not_eq_true', decide_eq_false_iff_not, Bool.or_eq_true, decide_eq_true_eq] at hk
        have hr := h
        simp only [rightB, Bool.and_eq_true, Bool.or_eq_true, decide_eq_true_eq] at hr
        have h2 : rightB ⟨k, s.hi⟩ = true := by
          simp only [rightB, Bool.and_eq_true, Bool.or_eq_true, decide_eq_true_eq]
          exact ⟨.inr hk.2.1, hr.2.1, hk.2.2.2⟩
        have ih := cutF_parts l h2
        rw [partsE_cons (partsE_ne ih)]
        simp only [Bool.and_eq_true, decide_eq_true_eq, Bool.not_eq_true', decide_eq_false_iff_not]
        refine ⟨?_, trivial, keyB_ne hk.2.1, ih⟩
        simp only [rightB, Bool.and_eq_true, Bool.or_eq_true, decide_eq_true_eq]
        exact ⟨hr.1, .inr hk.2.1, .inr (by grind)⟩
theorem piece_span (x : DShare) (a : DSpan) (g e : Int) (s : DSpan) : (pieceF x a g e s).span = s := by
  unfold pieceF
  cases (decide (s.lo = a.lo) && (decide (s.hi = a.hi) && true)) <;> rfl
theorem partF_spans (x : DShare) (a : DSpan) (g e : Int) : (partF x a g e).map (·.span) = cutF x.span (at2 a.lo a.hi) := by
  unfold partF
  rw [List.map_map]
  have : ((fun y : DShare => y.span) ∘ pieceF x a g e) = id := by
    funext s
    exact piece_span x a g e s
  rw [this, List.map_id]
theorem wrong_of {s : DShares} {x : DShare} : wrongB s x = false ↔ (1 ≤ x.group ∧ x.group ≤ 4) ∧ (1 ≤ x.epoch ∧ x.epoch ≤ s.epoch) := by
  unfold wrongB
  simp only [Bool.or_eq_false_iff, Bool.not_eq_false', Bool.and_eq_true, decide_eq_true_eq]
theorem right_iff {s : DShares} : rightW s = true ↔ (1 ≤ s.epoch ∧ s.epoch ≤ 1073741824) ∧ s.list.length ≤ 40 ∧ (∀ x ∈ s.list, wrongB s x = false) ∧ partsF [] (s.list.map (·.span)) = true := by
  unfold rightW
  simp only [Bool.and_eq_true, decide_eq_true_eq, Bool.not_eq_true', List.any_eq_false, Bool.not_eq_true]
theorem turn_right {s : DShares} (h : rightW s = true) {a : DSpan} {g : Int} (hg : 1 ≤ g ∧ g ≤ 4) (he : s.epoch ≠ 1073741824) {i : Nat} (hi : i < s.list.length) (hw : withinB a s.list[i].span = true) (hl : (turnF s i a g).list.length ≤ 40) : rightW (turnF s i a g) = true := by
  obtain ⟨h1, h2, h3, h4⟩ := right_iff.1 h
  have hx : s.list[i]?.getD noSh = s.list[i] := by rw [List.getElem?_eq_getElem hi]; rfl
  refine right_iff.2 ⟨⟨?_, ?_⟩, hl, fun x hx' => ?_, ?_⟩
  · show 1 ≤ s.epoch + 1; omega
  · show s.epoch + 1 ≤ 1073741824; omega
  · have hold : ∀ y ∈ s.list, wrongB (turnF s i a g) y = false := fun y hy => by
      have := wrong_of.1 (h3 y hy)
      exact wrong_of.2 ⟨this.1, this.2.1, by show y.epoch ≤ s.epoch + 1; omega⟩
    unfold turnF at hx'
    simp only [List.mem_append] at hx'
    rcases hx' with (hx' | hx') | hx'
    · exact hold _ (List.mem_of_mem_take hx')
    · rw [hx] at hx'
      unfold partF at hx'
      obtain ⟨p, _, rfl⟩ := List.mem_map.1 hx'
      have hs := wrong_of.1 (h3 _ (List.getElem_mem hi))
      unfold pieceF
      cases (decide (p.lo = a.lo) && (decide (p.hi = a.hi) && true))
      · exact wrong_of.2 ⟨hs.1, hs.2.1, by show s.list[i].epoch ≤ s.epoch + 1; omega⟩
      · exact wrong_of.2 ⟨hg, by show 1 ≤ s.epoch + 1; omega, by show s.epoch + 1 ≤ s.epoch + 1; omega⟩
    · exact hold _ (List.mem_of_mem_drop hx')
  · have hi' : i < (s.list.map (·.span)).length := by simpa using hi
    rw [partsF_E] at h4 ⊢
    have := partsE_put (m := cutF s.list[i].span (at2 a.lo a.hi)) hi' h4 (by
      rw [List.getElem_map]
      exact cutF_parts _ (within_right hw).2)
    unfold turnF
    rw [hx, List.map_append, List.map_append, partF_spans, List.map_take, List.map_drop]
    exact this
end Go.Proofs.YtaihdjknneiciaaGreat
/- SharesTurn, plainly: what is turned is right, and has the groups and the epochs that it must have. -/
namespace Go.Proofs.YtaihdjknneiciaaGreat
open Go.RowKit
set_option maxRecDepth 100000
set_option linter.unusedVariables false
set_option linter.unusedSimpArgs false
theorem no_nil (s : DSpan) : hasB s [] = false := by
  have : keyB ([] : Tx) = false := by decide
  simp [hasB, this]
/-- What lies within a span is one of its pieces, where it is cut at its ends. -/
theorem in_mem {a s : DSpan} (h : withinB a s = true) : a ∈ cutF s (at2 a.lo a.hi) := by
  obtain ⟨al, ah⟩ := a
  obtain ⟨sl, sh⟩ := s
  simp only [withinB, Bool.and_eq_true, Bool.not_eq_true', decide_eq_false_iff_not, Bool.or_eq_true, decide_eq_true_eq] at h
  obtain ⟨h1, h2, h3, h4⟩ := h
  have hr := h1
  simp only [rightB, Bool.and_eq_true, Bool.or_eq_true, decide_eq_true_eq] at hr
  obtain ⟨r1, r2, r3⟩ := hr
  have has : ∀ (t : DSpan) (k : Tx), rightB t = true → keyB k = true → ¬ k < t.lo → (t.hi = [] ∨ k < t.hi) → hasB t k = true := fun t k q1 q2 q3 q4 => by
    simp only [hasB, Bool.and_eq_true, Bool.not_eq_true', decide_eq_false_iff_not, Bool.or_eq_true, decide_eq_true_eq]
    exact ⟨q1, q2, q3, q4⟩
  -- cut at the upper end
  have upper : ∀ t : DSpan, rightB t = true → t.lo = al → t.hi = sh → ah ≠ [] → (⟨al, ah⟩ : DSpan) ∈ cutF t [ah] := fun t q1 q2 q3 q4 => by
    have hk : keyB ah = true := r2.resolve_left q4
    have hlt : al < ah := r3.resolve_left q4
    rw [cutF_cons]
    by_cases he : ah = sh
    · have hn : hasB t ah = false := by
        cases hh : hasB t ah
        · rfl
        · simp only [hasB, Bool.and_eq_true, Bool.not_eq_true', decide_eq_false_iff_not, Bool.or_eq_true, decide_eq_true_eq] at hh
          rw [q3, ← he] at hh
          rcases hh.2.2.2 with q | q
          · exact absurd q q4
          · exact absurd q (by grind)
      rw [hn]
      simp only [Bool.not_false, cond_true, cutF, List.mem_singleton]
      rw [← q2, he, ← q3]
    · have hh : hasB t ah = true := has t ah q1 hk (by rw [q2]; grind) (by
        rw [q3]
        rcases h4 with q | q
        · exact .inl q
        · right; have := q.2; grind)
      rw [hh, dF (by rw [q2]; grind)]
      simp only [Bool.not_true, cond_false]
      rw [q2]
      exact List.mem_cons_self
  have nl : ∀ x : Tx, ¬ ([] : Tx) < x → x = [] := fun x hx => by
    cases x with
    | nil => rfl
    | cons y l => exact absurd (List.nil_lt_cons y l) hx
  have sR : rightB ⟨sl, sh⟩ = true := h2
  have hal : al ≠ [] → (sh = [] ∨ al < sh) → hasB ⟨sl, sh⟩ al = true := fun q1 q2 => has ⟨sl, sh⟩ al h2 (r1.resolve_left q1) h3 q2
  unfold at2
  dsimp only
  by_cases e : al = ah
  · rw [if_pos e]
    have hah : ah = [] := r3.resolve_right (by rw [e]; grind)
    have hal0 : al = [] := by rw [e, hah]
    rw [hal0] at h3 ⊢
    rw [hah] at h4 ⊢
    rw [cutF_cons, no_nil]
    simp only [Bool.not_false, cond_true, cutF, List.mem_singleton]
    rw [nl sl h3, h4.resolve_right (fun q => absurd rfl q.1)]
  · rw [if_neg e]
    by_cases hlt : ah < al
    · rw [if_pos hlt]
      have hah : ah = [] := r3.resolve_right (by grind)
      have hsh : sh = [] := h4.resolve_right (fun q => absurd hah q.1)
      have hne : al ≠ [] := fun q => e (by rw [q, hah])
      rw [hah, cutF_cons, no_nil]
      simp only [Bool.not_false, cond_true]
      rw [cutF_cons, hal hne (.inl hsh)]
      simp only [Bool.not_true, cond_false]
      by_cases hq : al = sl
      · rw [dT hq]
        simp only [cond_true, cutF, List.mem_singleton]
        rw [hq, hsh]
      · rw [dF hq]
        simp only [cond_false, cutF, List.mem_cons]
        exact .inr (.inl (by rw [hsh]))
    · rw [if_neg hlt]
      have hne : ah ≠ [] := fun q => by
        rw [q] at hlt e
        exact e (nl al hlt)
      have hlt2 : al < ah := r3.resolve_left hne
      by_cases ha0 : al = []
      · rw [cutF_cons, ha0, no_nil]
        simp only [Bool.not_false, cond_true]
        rw [ha0] at h3
        have := upper ⟨sl, sh⟩ h2 (by rw [ha0]; exact nl sl h3) rfl hne
        rw [ha0] at this
        exact this
      · have hin : sh = [] ∨ al < sh := by
          rcases h4 with q | q
          · exact .inl q
          · right; have := q.2; grind
        rw [cutF_cons, hal ha0 hin]
        simp only [Bool.not_true, cond_false]
        by_cases hq : al = sl
        · rw [dT hq]
          exact upper ⟨sl, sh⟩ h2 hq.symm rfl hne
        · rw [dF hq]
          have hs := h2
          simp only [rightB, Bool.and_eq_true, Bool.or_eq_true, decide_eq_true_eq] at hs
          have h5 : rightB ⟨al, sh⟩ = true := by
            simp only [rightB, Bool.and_eq_true, Bool.or_eq_true, decide_eq_true_eq]
            exact ⟨r1, hs.2.1, hin⟩
          exact List.mem_cons_of_mem _ (upper ⟨al, sh⟩ h5 rfl rfl hne)
theorem one_mem {s : DShares} (h : rightW s = true) {k : Tx} {x y : DShare} (hx : x ∈ s.list) (hy : y ∈ s.list) (h1 : hasB x.span k = true) (h2 : hasB y.span k = true) : x = y := by
  obtain ⟨i, hi, rfl⟩ := List.mem_iff_getElem.1 hx
  obtain ⟨j, hj, rfl⟩ := List.mem_iff_getElem.1 hy
  have := one_key h hi hj h1 h2
  subst this
  rfl
theorem of_key {s : DShares} (h : rightW s = true) {k : Tx} (hk : keyB k = true) : ∃ x, ofF s k = some x ∧ x ∈ s.list ∧ hasB x.span k = true := by
  have hs := pick_is (s := s) (p := fun x => hasB x.span k)
  rw [h, any_key h, hk] at hs
  cases hq : ofF s k with
  | none => change (ofF s k).isSome = _ at hs; rw [hq] at hs; cases hs
  | some x =>
    obtain ⟨_, i, hi, rfl, hp⟩ := pick_some hq
    exact ⟨_, rfl, List.getElem_mem hi, hp⟩
theorem cutF_ok : ∀ (l : List Tx) {s : DSpan}, OkSp s → (∀ k ∈ l, OkT k) → ∀ x ∈ cutF s l, OkSp x
  | [], s, h, _, x, hx => by
    simp only [cutF, List.mem_singleton] at hx
    rw [hx]; exact h
  | k :: l, s, h, hl, x, hx => by
    have hk := hl k List.mem_cons_self
    have hl' : ∀ k ∈ l, OkT k := fun y hy => hl y (List.mem_cons_of_mem _ hy)
    rw [cutF_cons] at hx
    cases hh : hasB s k
    · rw [hh] at hx
      exact cutF_ok l h hl' x hx
    · rw [hh] at hx
      by_cases he : k = s.lo
      · rw [dT he] at hx
        exact cutF_ok l h hl' x hx
      · rw [dF he] at hx
        simp only [Bool.not_true, cond_false, List.mem_cons] at hx
        rcases hx with rfl | hx
        · exact ⟨h.1, hk⟩
        · exact cutF_ok l (s := ⟨k, s.hi⟩) ⟨hk, h.2⟩ hl' x hx
theorem turnF_ok {s : DShares} (h : ∀ x ∈ s.list, OkSp x.span) {a : DSpan} (ha : OkSp a) {g : Int} {i : Nat} (hi : i < s.list.length) : ∀ x ∈ (turnF s i a g).list, OkSp x.span := by
  intro x hx
  have hxe : s.list[i]?.getD noSh = s.list[i] := by rw [List.getElem?_eq_getElem hi]; rfl
  unfold turnF at hx
  rw [hxe] at hx
  simp only [List.mem_append] at hx
  rcases hx with (hx | hx) | hx
  · exact h _ (List.mem_of_mem_take hx)
  · unfold partF at hx
    obtain ⟨p, hp, rfl⟩ := List.mem_map.1 hx
    rw [piece_span]
    refine cutF_ok _ (h _ (List.getElem_mem hi)) (fun k hk => ?_) p hp
    unfold at2 at hk
    split at hk
    · simp only [List.mem_singleton] at hk; rw [hk]; exact ha.1
    · split at hk <;> simp only [List.mem_cons, List.not_mem_nil, or_false] at hk <;> rcases hk with rfl | rfl
      · exact ha.2
      · exact ha.1
      · exact ha.1
      · exact ha.2
  · exact h _ (List.mem_of_mem_drop hx)
theorem Of_o {s : DShares} (h : OkSh s) {k : Tx} (hk : OkT k) : shares_Of s k = some (((ofF s k).getD noSh, (ofF s k).isSome, ()), ()) := Of_p h hk
end Go.Proofs.YtaihdjknneiciaaGreat
