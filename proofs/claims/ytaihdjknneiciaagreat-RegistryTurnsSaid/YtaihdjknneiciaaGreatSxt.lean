/- Steps, exactly (round 21Z: RegistryTurns; written by plain21t.py). -/
import Derived.Test.YtaihdjknneiciaaGreatBxt
namespace Go.Proofs.YtaihdjknneiciaaGreat
open Go.RowKit
set_option maxRecDepth 100000
set_option linter.unusedVariables false
set_option linter.unusedSimpArgs false
section
variable {x : DScheme} {s : DShares} {st : Int} (hx : OkSp x.span) (hs : OkSh s)
include hx hs
variable (h1 : rightS x = true) (h2 : rightW s = true)
include h1 h2
/-- A step that turns: what it tells. -/
theorem Step_turn2 (h : x.stage ≠ 4) (hg : goesB x.stage 4 = true) {t : DShares} {e : Int} (ht : shares_Turn s x.span x.to_ = some ((t, e, ()), ())) (he : e ≠ 0 → t = ⟨0, []⟩) :
    ∃ y t' e', scheme_Step x s 4 = some ((y, t', e', ()), ()) ∧ (e' = 0 → e = 0 ∧ t' = t ∧ y = ⟨x.num, x.span, x.from_, x.to_, x.epoch, t.epoch, 4⟩ ∧ ((pickF s fun q => withinB x.span q.span).getD noSh).group = x.from_ ∧ ((pickF s fun q => withinB x.span q.span).getD noSh).epoch = x.epoch) ∧
      ∀ z, e = 0 → pickF s (fun q => withinB x.span q.span) = some z → z.group = x.from_ → z.epoch = x.epoch → e' = 0 := by
  have hin := In_p hs hx
  have key : ∃ w t' e', scheme_turn s ⟨x⟩ = some ((t', e', ()), (w, ())) ∧ (e' = 0 → e = 0 ∧ t' = t ∧ w = ⟨⟨x.num, x.span, x.from_, x.to_, x.epoch, t.epoch, x.stage⟩⟩ ∧ ((pickF s fun q => withinB x.span q.span).getD noSh).group = x.from_ ∧ ((pickF s fun q => withinB x.span q.span).getD noSh).epoch = x.epoch) ∧
      ∀ z, e = 0 → pickF s (fun q => withinB x.span q.span) = some z → z.group = x.from_ → z.epoch = x.epoch → e' = 0 := by
    unfold scheme_turn
    by_cases h0 : e = 0
    · subst h0
      by_cases g1 : ((pickF s fun q => withinB x.span q.span).getD noSh).group = x.from_
      · by_cases g2 : ((pickF s fun q => withinB x.span q.span).getD noSh).epoch = x.epoch
        · exact ⟨_, _, _, bindS ht (condF rfl (bindS hin (condF (by simpa using g1) (condF (by simpa using g2) rfl)))), fun _ => ⟨rfl, rfl, rfl, g1, g2⟩, fun z _ _ _ _ => rfl⟩
        · refine ⟨_, _, _, bindS ht (condF rfl (bindS hin (condF (by simpa using g1) (condT (by simpa using g2) rfl)))), fun h => (by cases h), fun z _ hz _ hz2 => ?_⟩
          rw [hz] at g2
          exact absurd hz2 g2
      · refine ⟨_, _, _, bindS ht (condF rfl (bindS hin (condT (by simpa using g1) rfl))), fun h => (by cases h), fun z _ hz hz1 _ => ?_⟩
        rw [hz] at g1
        exact absurd hz1 g1
    · exact ⟨_, _, _, bindS ht (condT (by simpa using h0) rfl), fun h => absurd h h0, fun z h => absurd h h0⟩
  obtain ⟨w, t', e', k1, k2, k3⟩ := key
  unfold scheme_Step
  by_cases he' : e' = 0
  · obtain ⟨q1, q2, q3, q4, q5⟩ := k2 he'
    subst q3
    refine ⟨_, _, _, bindS (rightS_p hx) (condF (by rw [h1]; rfl) (bindS (Right_sh hs) (condF (by rw [h2]; rfl) (condF (dF h) (bindS (Goes_p _ _) (condF (by rw [hg]; rfl) (bindS (own_p hs) (condT rfl (bindS k1 (condF (by simpa using he') rfl)))))))))), fun _ => ⟨q1, q2, rfl, q4, q5⟩, fun z _ _ _ _ => rfl⟩
  · exact ⟨_, _, _, bindS (rightS_p hx) (condF (by rw [h1]; rfl) (bindS (Right_sh hs) (condF (by rw [h2]; rfl) (condF (dF h) (bindS (Goes_p _ _) (condF (by rw [hg]; rfl) (bindS (own_p hs) (condT rfl (bindS k1 (condT (by simpa using he') rfl)))))))))), fun h => absurd h he', fun z g1 g2 g3 g4 => absurd (k3 z g1 g2 g3 g4) he'⟩
end
theorem turn_key2 {s : DShares} (h : rightW s = true) {a : DSpan} {g : Int} {i : Nat} (hi : i < s.list.length) (hw : withinB a s.list[i].span = true) (hgr : s.list[i].group ≠ g) (ht : rightW (turnF s i a g) = true) {k : Tx} (hk : keyB k = true) :
    ∃ x y, ofF s k = some x ∧ ofF (turnF s i a g) k = some y ∧ (hasB a k = true → y.group = g ∧ y.epoch = s.epoch + 1 ∧ x = s.list[i]) ∧ (hasB a k = false → x.group = y.group ∧ x.epoch = y.epoch) := by
  obtain ⟨x, hx, mx, kx⟩ := of_key h hk
  obtain ⟨y, hy, my, ky⟩ := of_key ht hk
  have hxe : s.list[i]?.getD noSh = s.list[i] := by rw [List.getElem?_eq_getElem hi]; rfl
  refine ⟨x, y, hx, hy, fun ha => ?_, fun ha => ?_⟩
  · have e1 : x = s.list[i] := one_mem h mx (List.getElem_mem hi) kx (within_has hw ha)
    have e2 : y = ⟨a, g, s.epoch + 1⟩ := by
      refine one_mem ht my ?_ ky ha
      unfold turnF
      rw [hxe]
      simp only [List.mem_append]
      refine .inl (.inr ?_)
      unfold partF
      refine List.mem_map.2 ⟨a, in_mem hw, ?_⟩
      unfold pieceF
      simp
    rw [e2]
    exact ⟨rfl, rfl, e1⟩
  · obtain ⟨j, hj, rfl⟩ := List.mem_iff_getElem.1 mx
    by_cases hji : j = i
    · subst hji
      have my2 := my
      unfold turnF at my2
      rw [hxe] at my2
      simp only [List.mem_append] at my2
      rcases my2 with (my2 | my2) | my2
      · rw [one_mem h mx (List.mem_of_mem_take my2) kx ky]; exact ⟨rfl, rfl⟩
      · unfold partF at my2
        obtain ⟨p, _, rfl⟩ := List.mem_map.1 my2
        rw [piece_span] at ky
        unfold pieceF
        by_cases hp : p.lo = a.lo ∧ p.hi = a.hi
        · have : p = a := by cases p; cases a; simp_all
          rw [this, ha] at ky
          cases ky
        · have : (decide (p.lo = a.lo) && (decide (p.hi = a.hi) && true)) = false := by
            simp only [Bool.and_true, Bool.and_eq_false_iff, decide_eq_false_iff_not]
            by_cases h1 : p.lo = a.lo
            · exact .inr fun h2 => hp ⟨h1, h2⟩
            · exact .inl h1
          rw [this]
          exact ⟨rfl, rfl⟩
      · rw [one_mem h mx (List.mem_of_mem_drop my2) kx ky]; exact ⟨rfl, rfl⟩
    · have mt : s.list[j] ∈ (turnF s i a g).list := by
        unfold turnF
        simp only [List.mem_append]
        rcases Nat.lt_or_gt_of_ne hji with hlt | hgt
        · exact .inl (.inl (List.mem_take_iff_getElem.2 ⟨j, by omega, rfl⟩))
        · refine .inr (List.mem_drop_iff_getElem.2 ⟨j - (i + 1), by omega, ?_⟩)
          congr 1
          omega
      rw [one_mem ht mt my kx ky]
      exact ⟨rfl, rfl⟩
/-- What became of the shares. -/
def Trn (s t : DShares) (x y : DScheme) : Prop := ((x.stage = y.stage ∨ y.stage ≠ 4) → t = s) ∧ (¬ (x.stage = y.stage ∨ y.stage ≠ 4) → ∃ (i : Nat) (hi : i < s.list.length), t = turnF s i y.span y.to_ ∧ withinB y.span s.list[i].span = true ∧ s.list[i].group ≠ y.to_ ∧ s.list[i].group = y.from_ ∧ y.under = s.epoch + 1 ∧ rightW t = true)
theorem StepX {x : DScheme} {s : DShares} (hx : OkSp x.span) (hs : OkSh s) (st : Int) : ∃ y t e, scheme_Step x s st = some ((y, t, e, ()), ()) ∧ (e = 0 → y.span = x.span ∧ OkSh t ∧ rightW t = true ∧ rightS y = true ∧ y.num = x.num ∧ y.stage = st ∧ Trn s t x y) := by
  cases hb : (rightS x && rightW s) with
  | false => exact ⟨_, _, _, Step_bad hx hs hb, fun h => by cases h⟩
  | true =>
  simp only [Bool.and_eq_true] at hb
  obtain ⟨h1, h2⟩ := hb
  by_cases h : x.stage = st
  · exact ⟨_, _, _, Step_same hx hs h1 h2 h, fun _ => ⟨rfl, hs, h2, h1, rfl, h, fun _ => rfl, fun hh => absurd (.inl rfl) hh⟩⟩
  cases hg : goesB x.stage st with
  | false => exact ⟨_, _, _, Step_no hx hs h1 h2 h hg, fun h => by cases h⟩
  | true =>
  obtain ⟨r1, r2, r3, r4, r5, r6, r7, r8⟩ := rightS_iff.1 h1
  have hgc := goes_cases hg
  by_cases h4 : st = 4
  · subst h4
    obtain ⟨t, e, t1, t2, t3⟩ := Turn_p hs hx x.to_
    obtain ⟨y, t', e', k1, k2, _⟩ := Step_turn2 hx hs h1 h2 h hg t1 t2
    refine ⟨_, _, _, k1, fun he => ?_⟩
    obtain ⟨q1, q2, q3, q4, q5⟩ := k2 he
    obtain ⟨_, f1, f2, i, hi, f4, f5, f6, f7, f8⟩ := t3 q1
    rw [f8] at q4 q5
    have q4' : s.list[i].group = x.from_ := q4
    have q5' : s.list[i].epoch = x.epoch := q5
    subst q2 q3
    subst f6
    have hrt := turn_right h2 f1 f2 hi f4 f7
    obtain ⟨w1, w2, w3, w4⟩ := right_iff.1 h2
    obtain ⟨_, w6⟩ := wrong_of.1 (w3 _ (List.getElem_mem hi))
    have hep : (turnF s i x.span x.to_).epoch = s.epoch + 1 := rfl
    refine ⟨rfl, ⟨by omega, turnF_ok hs.2 hx hi⟩, hrt, rightS_iff.2 ⟨r1, r2, r3, r4, r5, r6, ⟨by (try dsimp only); omega, by (try dsimp only); omega⟩, ?_⟩, rfl, rfl, fun hh => ?_, fun _ => ⟨i, hi, rfl, f4, f5, q4', hep, hrt⟩⟩
    · dsimp only
      rw [if_pos (by omega), hep]
      omega
    · rcases hh with hh | hh
      · exact absurd hh h
      · exact absurd rfl hh
  · refine ⟨_, _, _, Step_go hx hs h1 h2 h hg h4, fun _ => ⟨rfl, hs, h2, rightS_iff.2 ⟨r1, r2, r3, r4, r5, r6, ⟨by (try dsimp only); omega, by (try dsimp only); omega⟩, ?_⟩, rfl, rfl, fun _ => rfl, fun hh => absurd (.inr h4) hh⟩⟩
    dsimp only
    by_cases q : 4 ≤ x.stage ∧ x.stage ≤ 6
    · rw [if_pos q] at r8
      rw [if_pos (by omega)]
      exact r8
    · rw [if_neg q] at r8
      rw [if_neg (by omega)]
      exact r8
theorem Trn.same (s : DShares) (x : DScheme) : Trn s s x x := ⟨fun _ => rfl, fun h => absurd (.inl rfl) h⟩
theorem noSc_stage : noSc.stage = 0 := rfl
/-- A deed, exactly. -/
structure DoneX (s : DShares) (u : Bool) (x : DScheme) (n r e : Int) (s' : DShares) (u' : Bool) (x' : DScheme) (n' : Int) (begins : Prop) : Prop where
  ok : PlanOk s' u' x' n'
  bad : e ≠ 0 → r = 0 ∧ s' = s ∧ u' = u ∧ x' = x ∧ n' = n
  num : ¬ (begins ∧ e = 0) → n' = n
  beg : begins → e = 0 → r = n + 1 ∧ u = false ∧ n' = r
  trn : Trn s s' x x'
section
variable {s : DShares} {u : Bool} {x : DScheme} {n : Int} (h : PlanOk s u x n)
include h
theorem Begin_g {a : DSpan} (ha : OkSp a) (g : Int) : ∃ r e u' x' n', DoneX s u x n r e s u' x' n' True ∧ ∀ (l : List DVerdict) (m : Nm), registry_Begin a g (plc s u x n) (l, (), ()) m = some ((r, e, ()), (plc s u' x' n', (l, (), ()), m, (), (), ())) := by
  cases hu : u with
  | true =>
    subst hu
    exact ⟨0, 26, true, x, n, ⟨h, fun _ => ⟨rfl, rfl, rfl, rfl, rfl⟩, fun _ => rfl, fun _ h => (by cases h), Trn.same s x⟩, fun l m => by unfold registry_Begin; exact bindS (v := (true, (plc s true x n, (l, (), ()), m, (), (), ()))) rfl (condF rfl (condT rfl rfl))⟩
  | false =>
    subst hu
    have hxn := h.off rfl
    have hlo := h.pl.lo
    have hhi := h.pl.hi
    obtain ⟨x', e, b1, b2, b3⟩ := Begin_p h.pl.sh ha (IntKind.i64.wrap (n + 1)) g
    by_cases he : e = 0
    · subst he
      obtain ⟨c1, _, d1, _, i, hi, c3, c4, _, _, _, c2⟩ := b3 rfl
      have hw : IntKind.i64.wrap (n + 1) = n + 1 := w64 (by omega)
      rw [hw] at c1 c2
      obtain ⟨w1, w2, w3, w4⟩ := right_iff.1 h.pl.rt
      obtain ⟨w5, w6⟩ := wrong_of.1 (w3 _ (List.getElem_mem hi))
      have hnum : x'.num = n + 1 := by rw [c2]
      have hrs : rightS x' = true := by
        rw [c2]
        refine rightS_iff.2 ⟨c1, (within_right c3).1, w5, d1, c4, ⟨by (try dsimp only); omega, by (try dsimp only); omega⟩, ⟨by (try dsimp only); omega, by (try dsimp only); omega⟩, ?_⟩
        dsimp only
        rw [if_neg (by omega)]
      have hst : x'.stage = 1 := by rw [c2]
      refine ⟨x'.num, 0, true, x', x'.num, ⟨⟨⟨h.pl.sh, h.pl.rt, by rw [c2]; exact ha, by rw [c2]; exact (within_right c3).1, by omega, by omega⟩, fun _ => ⟨hrs, by omega, by omega, rfl⟩, fun h => by cases h⟩, fun h => absurd rfl h, fun h => absurd ⟨trivial, rfl⟩ h, fun _ _ => ⟨hnum, rfl, rfl⟩, ⟨fun _ => rfl, fun hh => absurd (.inr (by omega)) hh⟩⟩, fun l m => ?_⟩
      unfold registry_Begin
      exact bindS (v := (true, (plc s false x n, (l, (), ()), m, (), (), ()))) rfl (condF rfl (condF rfl (bindS b1 (condF rfl rfl))))
    · refine ⟨0, e, false, x, n, ⟨h, fun _ => ⟨rfl, rfl, rfl, rfl, rfl⟩, fun _ => rfl, fun _ hh => absurd hh he, Trn.same s x⟩, fun l m => ?_⟩
      unfold registry_Begin
      exact bindS (v := (true, (plc s false x n, (l, (), ()), m, (), (), ()))) rfl (condF rfl (condF rfl (bindS b1 (condT (by simpa using he) rfl))))
theorem Step_g (k st : Int) : ∃ r e s' u' x', DoneX s u x n r e s' u' x' n False ∧ IntKind.i64.wrap r = r ∧ ∀ (l : List DVerdict) (m : Nm), registry_Step k st (plc s u x n) (l, (), ()) m = some ((r, e, ()), (plc s' u' x' n, (l, (), ()), m, (), (), ())) := by
  have kn : ∀ (l : List DVerdict) (m : Nm), registry_known (plc s u x n) (l, (), ()) m = some (true, (plc s u x n, (l, (), ()), m, (), (), ())) := fun l m => rfl
  have same : ∀ e, DoneX s u x n 0 e s u x n False := fun e => ⟨h, fun _ => ⟨rfl, rfl, rfl, rfl, rfl⟩, fun _ => rfl, fun h => h.elim, Trn.same s x⟩
  have w0 : IntKind.i64.wrap 0 = 0 := w64 (by omega)
  by_cases c1 : k < 1
  · exact ⟨0, 2, s, u, x, same 2, w0, fun l m => by unfold registry_Step; exact bindS (kn l m) (condF rfl (condT (dT c1) rfl))⟩
  by_cases c2 : 1073741824 < k
  · exact ⟨0, 2, s, u, x, same 2, w0, fun l m => by unfold registry_Step; exact bindS (kn l m) (condF rfl (condF (dF c1) (condT (dT c2) rfl)))⟩
  by_cases c3 : st < 1
  · exact ⟨0, 2, s, u, x, same 2, w0, fun l m => by unfold registry_Step; exact bindS (kn l m) (condF rfl (condF (dF c1) (condF (dF c2) (condT (dT c3) rfl))))⟩
  by_cases c4 : 9 < st
  · exact ⟨0, 2, s, u, x, same 2, w0, fun l m => by unfold registry_Step; exact bindS (kn l m) (condF rfl (condF (dF c1) (condF (dF c2) (condF (dF c3) (condT (dT c4) rfl)))))⟩
  by_cases c5 : n < k
  · exact ⟨0, 26, s, u, x, same 26, w0, fun l m => by unfold registry_Step; exact bindS (kn l m) (condF rfl (condF (dF c1) (condF (dF c2) (condF (dF c3) (condF (dF c4) (condT (dT c5) rfl))))))⟩
  cases hu : u with
  | false =>
    subst hu
    exact ⟨0, 0, s, false, x, same 0, w0, fun l m => by unfold registry_Step; exact bindS (kn l m) (condF rfl (condF (dF c1) (condF (dF c2) (condF (dF c3) (condF (dF c4) (condF (dF c5) (condT rfl rfl)))))))⟩
  | true =>
  subst hu
  by_cases c6 : x.num = k
  rotate_left
  · exact ⟨0, 0, s, true, x, same 0, w0, fun l m => by unfold registry_Step; exact bindS (kn l m) (condF rfl (condF (dF c1) (condF (dF c2) (condF (dF c3) (condF (dF c4) (condF (dF c5) (condF rfl (condT (dT c6) rfl))))))))⟩
  obtain ⟨y, t, e, e1, e2⟩ := StepX h.pl.sp h.pl.sh st
  by_cases he : e = 0
  rotate_left
  · refine ⟨0, e, s, true, x, same e, w0, fun l m => ?_⟩
    unfold registry_Step
    exact bindS (kn l m) (condF rfl (condF (dF c1) (condF (dF c2) (condF (dF c3) (condF (dF c4) (condF (dF c5) (condF rfl (condF (dF (fun hh => hh c6)) (bindS e1 (condT (by simpa using he) rfl))))))))))
  obtain ⟨q1, q2, q3, q4, q5, q6, q7⟩ := e2 he
  obtain ⟨g1, g2, g3, g4⟩ := h.on rfl
  cases ho : (decide (y.stage = 6) || decide (y.stage = 9)) with
  | true =>
    have hy : y.stage ≠ 4 := by
      intro hh; rw [hh] at ho; simp at ho
    refine ⟨st, 0, t, false, noSc, ⟨⟨⟨q2, q3, ⟨Nat.zero_le _, Nat.zero_le _⟩, by simp [noSc, rightB], h.pl.lo, h.pl.hi⟩, fun h => (by cases h), fun _ => rfl⟩, fun h => absurd rfl h, fun _ => rfl, fun h => h.elim, ⟨fun _ => q7.1 (.inr hy), fun hh => absurd (.inr (by rw [noSc_stage]; decide)) hh⟩⟩, w64 (by omega), fun l m => ?_⟩
    unfold registry_Step
    exact bindS (kn l m) (condF rfl (condF (dF c1) (condF (dF c2) (condF (dF c3) (condF (dF c4) (condF (dF c5) (condF rfl (condF (dF (fun hh => hh c6)) (bindS e1 (condF (by simpa using he) (bindS (Over_p y) (condT ho rfl))))))))))))
  | false =>
    have hy : ¬ y.stage = 6 ∧ ¬ y.stage = 9 := by
      simp only [Bool.or_eq_false_iff, decide_eq_false_iff_not] at ho; exact ho
    refine ⟨st, 0, t, true, y, ⟨⟨⟨q2, q3, by rw [q1]; exact h.pl.sp, by rw [q1]; exact h.pl.rx, h.pl.lo, h.pl.hi⟩, fun _ => ⟨q4, hy.1, hy.2, q5.trans g4⟩, fun h => by cases h⟩, fun h => absurd rfl h, fun _ => rfl, fun h => h.elim, q7⟩, w64 (by omega), fun l m => ?_⟩
    unfold registry_Step
    exact bindS (kn l m) (condF rfl (condF (dF c1) (condF (dF c2) (condF (dF c3) (condF (dF c4) (condF (dF c5) (condF rfl (condF (dF (fun hh => hh c6)) (bindS e1 (condF (by simpa using he) (bindS (Over_p y) (condF ho rfl))))))))))))
end
end Go.Proofs.YtaihdjknneiciaaGreat
