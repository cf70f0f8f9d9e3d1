/- What the law of turns looks at (written by plain21g.py). -/
import Derived.Test.YtaihdjknneiciaaGreatSxt
namespace Go.Proofs.YtaihdjknneiciaaGreat
open Go.RowKit
set_option maxRecDepth 100000
set_option linter.unusedVariables false
set_option linter.unusedSimpArgs false
theorem FirstG_p (g : Int) : ∃ s, shares_First g = some (s, ()) ∧ OkSh s ∧ rightW s = true := by
  unfold shares_First
  rw [within_p, Option.bind_some]
  have ok1 : ∀ k : Int, OkSh ⟨1, [⟨⟨[], []⟩, k, 1⟩]⟩ := fun k => ⟨by simp, by simpa using ok0⟩
  by_cases h : 1 ≤ g ∧ g ≤ 4
  · refine ⟨⟨1, [⟨⟨[], []⟩, g, 1⟩]⟩, condF (by rw [dT h.1, dT h.2]; rfl) (bindS rfl rfl), ok1 g, ?_⟩
    have : g = 1 ∨ g = 2 ∨ g = 3 ∨ g = 4 := by omega
    rcases this with rfl | rfl | rfl | rfl <;> decide +kernel
  · refine ⟨⟨1, [⟨⟨[], []⟩, 1, 1⟩]⟩, condT ?_ (bindS rfl rfl), ok1 1, by decide +kernel⟩
    by_cases h1 : 1 ≤ g
    · rw [dF (fun h2 => h ⟨h1, h2⟩ : ¬ g ≤ 4)]; simp
    · rw [dF h1]; rfl
theorem Pick_in (x n : Int) (h1 : 1 ≤ n) (h2 : n ≤ 1000000000) : ∃ p, wk_Pick x n = some (p, ()) ∧ 0 ≤ p ∧ p < n := by
  unfold wk_Pick
  have hb := Int.tmod_lt_of_pos x (show 0 < n by omega)
  have hb2 : -n < x.tmod n := by
    have := Int.tmod_lt_of_pos (-x) (show 0 < n by omega)
    rw [Int.neg_tmod] at this
    omega
  rw [decide_eq_false (by omega : ¬ n < 1), cond_false, if_neg (by omega)]
  by_cases h : x.tmod n < 0
  · rw [decide_eq_true h, cond_true, w64 (by omega)]
    exact ⟨_, rfl, by omega, by omega⟩
  · rw [decide_eq_false h, cond_false]
    exact ⟨_, rfl, by omega, hb⟩
theorem sameRows_g {l : List DShare} (hl : l.length ≤ 1000) : wk_SameShareRows l l = some (true, ()) := by
  have hrun := loopM_run (step := wk_SameShareRows_l1) (fun i : Nat => ((l, l, (i : Int), ()), ())) (N := l.length) (b := .inr ((), ())) (fun i hi => ?_) ?_
  · unfold wk_SameShareRows
    exact condF (dF (by simp)) (bindS hrun rfl)
  · unfold wk_SameShareRows_l1
    refine condT (dT (by (try dsimp only); omega)) (bindS (getI_lt hi) (bindS (getI_lt hi) (condF (by simp) ?_)))
    dsimp only
    rw [w64 (by omega)]; rfl
  · unfold wk_SameShareRows_l1
    exact condF (dF (by (try dsimp only); omega)) rfl
theorem same_g {s : DShares} (h : OkSh s) : wk_SameShares s s = some (true, ()) := by
  unfold wk_SameShares
  exact condT (dT rfl) (bindS (sameRows_g h.len) rfl)
section
variable {s : DShares} {u : Bool} {x : DScheme} {n : Int} {l : List DVerdict} {m : Nm}
theorem Shares_g (h : OkSh s) : registry_Shares (plc s u x n) (l, (), ()) m = some (s, (plc s u x n, (l, (), ()), m, (), (), ())) := by
  unfold registry_Shares registry_copied
  exact bindS (v := (true, (plc s u x n, (l, (), ()), m, (), (), ()))) rfl (condF rfl (bindS (bindS (clone100_p h.len) rfl) rfl))
theorem Last_g : registry_Last (plc s u x n) (l, (), ()) m = some (n, (plc s u x n, (l, (), ()), m, (), (), ())) := rfl
theorem Scheme_g : registry_Scheme (plc s u x n) (l, (), ()) m = some ((x, u, ()), (plc s u x n, (l, (), ()), m, (), (), ())) := rfl
theorem whole_g (h : PlanOk s u x n) : wl_whole (plc s u x n) (l, (), ()) m = some (true, (plc s u x n, (l, (), ()), m, (), (), ())) := by
  have hs := h.pl.sh
  have hu : u = true → rightS x = true := fun hu => (h.on hu).1
  have hR := Right_sh hs
  rw [h.pl.rt] at hR
  unfold wl_whole
  refine bindS Scheme_g (bindS (View_g h.pl.rt hu l m) (bindS (ReadView_p h) (condF rfl (condF (dF (fun hh => hh rfl)) (condF (by simp) (bindS (Shares_g hs) (bindS (same_g hs) (condF rfl (bindS hR (condF rfl ?_))))))))))
  cases u with
  | false =>
    have hx := h.off rfl
    subst hx
    exact condT rfl (condT rfl rfl)
  | true =>
    obtain ⟨g1, g2, g3, g4⟩ := h.on rfl
    have hS := SchemeRight_p h.pl.sp
    rw [g1] at hS
    have hO := Over_p x
    rw [dF g2, dF g3] at hO
    refine condF rfl (condT rfl (bindS hS (condT rfl (bindS hO (condT rfl (bindS Last_g ?_))))))
    dsimp only
    rw [decide_eq_true g4]
theorem regwrite_g (h : PlanOk s u x n) (hb : Bks l m) (hl : l.length ≤ 100) : registry_Write (plc s u x n) (true, false, [], ()) (l, (), ()) m = some ((), (plc s u x n, (true, false, planB s u x ++ catN [n] ++ (catN [(l.length : Int)] ++ bodyV l), ()), (l, (), ()), m, (), (), (), (), ())) := by
  have hu : u = true → rightS x = true := fun hu => (h.on hu).1
  have hlen := planB_len h.pl.rt hu
  have hg : ([n] : List Int).all goodB = true := by simp [good1 h.pl.lo h.pl.hi]
  have hc := catN_len _ hg
  simp only [List.length_cons, List.length_nil] at hc
  have n1 := Numbers_h (sp := false) (b := planB s u x) hg (by simp) (by omega)
  have w := bwrite_g (fun v hv => (hb.all v hv).1) hl m (sp := false) (b := planB s u x ++ catN [n]) (by rw [List.length_append]; omega)
  unfold registry_Write
  exact bindS (v := (true, (plc s u x n, (l, (), ()), m, (), (), ()))) rfl (condF rfl (bindS (write_g h.pl.rt hu) (bindS n1 (bindS w rfl))))
theorem regB_len (h : PlanOk s u x n) (hb : Bks l m) (hl : l.length ≤ 100) : (planB s u x ++ catN [n] ++ (catN [(l.length : Int)] ++ bodyV l)).length ≤ 50000 := by
  have hu : u = true → rightS x = true := fun hu => (h.on hu).1
  have hlen := planB_len h.pl.rt hu
  have hg : ([n] : List Int).all goodB = true := by simp [good1 h.pl.lo h.pl.hi]
  have hc := catN_len _ hg
  have hg2 : ([(l.length : Int)] : List Int).all goodB = true := by simp [good1 (x := (l.length : Int)) (by omega) (by omega)]
  have hc2 := catN_len _ hg2
  have hv := bodyV_len (fun v hv => (hb.all v hv).1) l.length
  rw [List.take_length] at hv
  simp only [List.length_cons, List.length_nil] at hc hc2
  simp only [List.length_append]
  omega
theorem regread_g (h : PlanOk s u x n) (hb : Bks l m) (hl : l.length ≤ 100) : registry_Read (true, false, planB s u x ++ catN [n] ++ (catN [(l.length : Int)] ++ bodyV l), ()) = some (((), true, ()), (rdR (some []), (), plc s u x n, (l, (), ()), m, (), ())) := by
  have e : planB s u x ++ catN [n] ++ (catN [(l.length : Int)] ++ bodyV l) = planB s u x ++ (numF n.toNat ++ (catN [(l.length : Int)] ++ bodyV l ++ [])) := by simp [catN]
  have hp := plan_r h (numF n.toNat ++ (catN [(l.length : Int)] ++ bodyV l ++ []))
  have hr := read_p (planB s u x ++ (numF n.toNat ++ (catN [(l.length : Int)] ++ bodyV l ++ [])))
  rw [hp] at hr
  have hn := Num2_p 1073741824 (some (numF n.toNat ++ (catN [(l.length : Int)] ++ bodyV l ++ [])))
  rw [num_r (most := 1073741824) (x := n) _ h.pl.lo h.pl.hi (Nat.le_refl _)] at hn
  have hk := bread_p hb (by omega) []
  rw [e]
  unfold registry_Read
  refine bindS hr (condF rfl (bindS hn (bindS hk (condF rfl ?_))))
  cases u with
  | false => exact condF rfl rfl
  | true => exact condT rfl (condF (dF (fun hh => hh (h.on rfl).2.2.2)) rfl)
end
theorem ofNone {s : DShares} (h : rightW s = true) {k : Tx} (hk : keyB k = false) : ofF s k = none := by
  have := pick_is (s := s) (p := fun x => hasB x.span k)
  rw [any_key h k, hk, Bool.and_false] at this
  unfold ofF
  cases hq : pickF s fun x => hasB x.span k
  · rfl
  · rw [hq] at this; cases this
theorem turned_g {s t : DShares} {x y : DScheme} (hs : OkSh s) (hr : rightW s = true) (ht : OkSh t) (htr : rightW t = true) (hT : Trn s t x y) {keys : List Tx} (hk : ∀ k ∈ keys, OkT k) (hl : keys.length ≤ 1000) : wl_turned s t x y keys = some (true, ()) := by
  unfold wl_turned
  by_cases h1 : x.stage = y.stage
  · refine condT (dT h1) ?_
    rw [hT.1 (.inl h1)]
    exact bindS (same_g hs) rfl
  refine condF (dF h1) ?_
  by_cases h2 : y.stage ≠ 4
  · refine condT (dT h2) ?_
    rw [hT.1 (.inr h2)]
    exact bindS (same_g hs) rfl
  refine condF (dF h2) ?_
  obtain ⟨i, hi, e1, e2, e3, e4, e5, e6⟩ := hT.2 (fun hh => hh.elim h1 h2)
  obtain ⟨w1, w2, w3, w4⟩ := right_iff.1 hr
  refine bindS (loopM_run (step := wl_turned_l1) (fun j : Nat => ((keys, (), (), (), (j : Int), ()), (s, t, y, ()))) (N := keys.length) (b := .inr ((), (s, t, y, ()))) (fun j hj => ?_) ?_) rfl
  · have hkk := hk _ (List.getElem_mem hj)
    have o1 := Of_o hs hkk
    have o2 := Of_o ht hkk
    unfold wl_turned_l1
    refine condT (dT (by (try dsimp only); omega)) (bindS (getI_lt hj) (bindS o1 (bindS (getI_lt hj) (bindS o2 ?_))))
    cases hb : keyB keys[j] with
    | false =>
      rw [ofNone hr hb, ofNone htr hb]
      refine condF (dF (fun hh => hh rfl)) (condF rfl (condF rfl (condF rfl ?_)))
      dsimp only
      rw [w64 (by omega)]; rfl
    | true =>
      subst e1
      obtain ⟨x0, y0, k1, k2, k3, k4⟩ := turn_key2 hr hi e2 e3 e6 hb
      rw [k1, k2]
      cases hc : hasB y.span keys[j] with
      | true =>
        obtain ⟨g1, g2, g3⟩ := k3 hc
        obtain ⟨_, w6⟩ := wrong_of.1 (w3 _ (List.getElem_mem hi))
        rw [← g3] at e3 e4 w6
        have hne : ¬ x0.group = y0.group := by rw [g1]; exact e3
        have hne2 : ¬ x0.epoch = y0.epoch := by omega
        unfold hasB at hc
        simp only [Bool.and_eq_true, Bool.not_eq_true', decide_eq_false_iff_not, Bool.or_eq_true, decide_eq_true_eq] at hc
        obtain ⟨_, _, c3, c4⟩ := hc
        refine condF (dF (fun hh => hh rfl)) (condT rfl (condF (dF (fun hh => hh (by show decide (x0.group = y0.group) = decide (x0.epoch = y0.epoch); rw [dF hne, dF hne2]))) (condT rfl (condF (dF (by show ¬ y0.epoch < x0.epoch; omega)) (condT rfl (condT (dT hne) (condF (dF (fun hh => hh g1)) (condF (dF (fun hh => hh e4)) (condF (dF (fun hh => hh (g2.trans e5.symm))) (bindS (getI_lt hj) (condF (dF c3) ?_)))))))))))
        by_cases hh : y.span.hi = []
        · refine condF (dF (fun q => q hh)) ?_
          dsimp only
          rw [w64 (by omega)]; rfl
        · refine condT (dT hh) (bindS (getI_lt hj) (condF (by rw [dT (c4.resolve_left hh)]; rfl) ?_))
          dsimp only
          rw [w64 (by omega)]; rfl
      | false =>
        obtain ⟨g1, g2⟩ := k4 hc
        refine condF (dF (fun hh => hh rfl)) (condT rfl (condF (dF (fun hh => hh (by show decide (x0.group = y0.group) = decide (x0.epoch = y0.epoch); rw [dT g1, dT g2]))) (condT rfl (condF (dF (by show ¬ y0.epoch < x0.epoch; omega)) (condT rfl (condF (dF (fun hh => hh g1)) ?_))))))
        dsimp only
        rw [w64 (by omega)]; rfl
  · unfold wl_turned_l1
    exact condF (dF (by (try dsimp only); omega)) rfl
end Go.Proofs.YtaihdjknneiciaaGreat
