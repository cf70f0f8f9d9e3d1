/- Steps of a handoff, and its beginning, plainly. -/
import Derived.Test.YtaihdjknneiciaaGreatSc1
namespace Go.Proofs.YtaihdjknneiciaaGreat
open Go.RowKit
set_option maxRecDepth 100000
set_option linter.unusedVariables false
set_option linter.unusedSimpArgs false
theorem goes_cases {a b : Int} (h : goesB a b = true) : (a = 1 ∧ (b = 2 ∨ b = 7)) ∨ (a = 2 ∧ (b = 3 ∨ b = 7)) ∨ (a = 3 ∧ (b = 4 ∨ b = 7)) ∨ (a = 4 ∧ b = 5) ∨ (a = 5 ∧ b = 6) ∨ (a = 7 ∧ b = 8) ∨ (a = 8 ∧ b = 9) := by
  have e2 : ((2 : UInt8).toNat : Int) = 2 := rfl
  have e3 : ((3 : UInt8).toNat : Int) = 3 := rfl
  have e4 : ((4 : UInt8).toNat : Int) = 4 := rfl
  have e5 : ((5 : UInt8).toNat : Int) = 5 := rfl
  have e6 : ((6 : UInt8).toNat : Int) = 6 := rfl
  have e7 : ((7 : UInt8).toNat : Int) = 7 := rfl
  have e8 : ((8 : UInt8).toNat : Int) = 8 := rfl
  have e9 : ((9 : UInt8).toNat : Int) = 9 := rfl
  have two : ∀ {u v : UInt8}, (([u, v] : List UInt8).any fun e => decide (b = (e.toNat : Int))) = true → b = (u.toNat : Int) ∨ b = (v.toNat : Int) := fun {u v} h => by simpa using h
  have one : ∀ {u : UInt8}, (([u] : List UInt8).any fun e => decide (b = (e.toNat : Int))) = true → b = (u.toNat : Int) := fun {u} h => by simpa using h
  by_cases h1 : a = 1
  · subst h1; have := two (u := 2) (v := 7) h; omega
  by_cases h2 : a = 2
  · subst h2; have := two (u := 3) (v := 7) h; omega
  by_cases h3 : a = 3
  · subst h3; have := two (u := 4) (v := 7) h; omega
  by_cases h4 : a = 4
  · subst h4; have := one (u := 5) h; omega
  by_cases h5 : a = 5
  · subst h5; have := one (u := 6) h; omega
  by_cases h7 : a = 7
  · subst h7; have := one (u := 8) h; omega
  by_cases h8 : a = 8
  · subst h8; have := one (u := 9) h; omega
  exfalso
  unfold goesB waysM227_t at h
  simp only [lkp] at h
  rw [decide_eq_false h1, decide_eq_false h2, decide_eq_false h3, decide_eq_false h4, decide_eq_false h5, decide_eq_false h7, decide_eq_false h8] at h
  simp only [cond_false] at h
  generalize decide (a = 6) = u at h
  generalize decide (a = 9) = v at h
  cases u <;> cases v <;> simp at h
section
variable {x : DScheme} {s : DShares} {st : Int} (hx : OkSp x.span) (hs : OkSh s)
include hx hs
theorem Step_bad (h : (rightS x && rightW s) = false) : scheme_Step x s st = some ((noSc, ⟨0, []⟩, 2, ()), ()) := by
  unfold scheme_Step
  refine bindS (rightS_p hx) ?_
  cases h1 : rightS x
  · exact condT rfl rfl
  · rw [h1, Bool.true_and] at h
    exact condF rfl (bindS (Right_sh hs) (condT (by rw [h]; rfl) rfl))
variable (h1 : rightS x = true) (h2 : rightW s = true)
include h1 h2
theorem Step_same (h : x.stage = st) : scheme_Step x s st = some ((x, s, 0, ()), ()) := by
  unfold scheme_Step
  exact bindS (rightS_p hx) (condF (by rw [h1]; rfl) (bindS (Right_sh hs) (condF (by rw [h2]; rfl) (condT (dT h) (bindS (own_p hs) rfl)))))
theorem Step_no (h : x.stage ≠ st) (hg : goesB x.stage st = false) : scheme_Step x s st = some ((noSc, ⟨0, []⟩, 26, ()), ()) := by
  unfold scheme_Step
  exact bindS (rightS_p hx) (condF (by rw [h1]; rfl) (bindS (Right_sh hs) (condF (by rw [h2]; rfl) (condF (dF h) (bindS (Goes_p _ _) (condT (by rw [hg]; rfl) rfl))))))
theorem Step_go (h : x.stage ≠ st) (hg : goesB x.stage st = true) (h4 : st ≠ 4) : scheme_Step x s st = some ((⟨x.num, x.span, x.from_, x.to_, x.epoch, x.under, st⟩, s, 0, ()), ()) := by
  unfold scheme_Step
  exact bindS (rightS_p hx) (condF (by rw [h1]; rfl) (bindS (Right_sh hs) (condF (by rw [h2]; rfl) (condF (dF h) (bindS (Goes_p _ _) (condF (by rw [hg]; rfl) (bindS (own_p hs) (condF (dF h4) rfl))))))))
/-- A step that turns: what it tells. -/
theorem Step_turn (h : x.stage ≠ 4) (hg : goesB x.stage 4 = true) {t : DShares} {e : Int} (ht : shares_Turn s x.span x.to_ = some ((t, e, ()), ())) (he : e ≠ 0 → t = ⟨0, []⟩) :
    ∃ y t' e', scheme_Step x s 4 = some ((y, t', e', ()), ()) ∧ (e' = 0 → e = 0 ∧ t' = t ∧ y = ⟨x.num, x.span, x.from_, x.to_, x.epoch, t.epoch, 4⟩) ∧
      ∀ z, e = 0 → pickF s (fun q => withinB x.span q.span) = some z → z.group = x.from_ → z.epoch = x.epoch → e' = 0 := by
  have hin := In_p hs hx
  have key : ∃ w t' e', scheme_turn s ⟨x⟩ = some ((t', e', ()), (w, ())) ∧ (e' = 0 → e = 0 ∧ t' = t ∧ w = ⟨⟨x.num, x.span, x.from_, x.to_, x.epoch, t.epoch, x.stage⟩⟩) ∧
      ∀ z, e = 0 → pickF s (fun q => withinB x.span q.span) = some z → z.group = x.from_ → z.epoch = x.epoch → e' = 0 := by
    unfold scheme_turn
    by_cases h0 : e = 0
    · subst h0
      by_cases g1 : ((pickF s fun q => withinB x.span q.span).getD noSh).group = x.from_
      · by_cases g2 : ((pickF s fun q => withinB x.span q.span).getD noSh).epoch = x.epoch
        · exact ⟨_, _, _, bindS ht (condF rfl (bindS hin (condF (by simpa using g1) (condF (by simpa using g2) rfl)))), fun _ => ⟨rfl, rfl, rfl⟩, fun z _ _ _ _ => rfl⟩
        · refine ⟨_, _, _, bindS ht (condF rfl (bindS hin (condF (by simpa using g1) (condT (by simpa using g2) rfl)))), fun h => (by cases h), fun z _ hz _ hz2 => ?_⟩
          rw [hz] at g2
          exact absurd hz2 g2
      · refine ⟨_, _, _, bindS ht (condF rfl (bindS hin (condT (by simpa using g1) rfl))), fun h => (by cases h), fun z _ hz hz1 _ => ?_⟩
        rw [hz] at g1
        exact absurd hz1 g1
    · exact ⟨_, _, _, bindS ht (condT (by simpa using h0) rfl), fun h => absurd h h0, fun z h => absurd h h0⟩
  obtain ⟨w, t', e', k1, k2, k3⟩ := key
  unfold scheme_Step
  by_cases he' : e' = 0
  · obtain ⟨q1, q2, q3⟩ := k2 he'
    subst q3
    refine ⟨_, _, _, bindS (rightS_p hx) (condF (by rw [h1]; rfl) (bindS (Right_sh hs) (condF (by rw [h2]; rfl) (condF (dF h) (bindS (Goes_p _ _) (condF (by rw [hg]; rfl) (bindS (own_p hs) (condT rfl (bindS k1 (condF (by simpa using he') rfl)))))))))), fun _ => ⟨q1, q2, rfl⟩, fun z _ _ _ _ => rfl⟩
  · exact ⟨_, _, _, bindS (rightS_p hx) (condF (by rw [h1]; rfl) (bindS (Right_sh hs) (condF (by rw [h2]; rfl) (condF (dF h) (bindS (Goes_p _ _) (condF (by rw [hg]; rfl) (bindS (own_p hs) (condT rfl (bindS k1 (condT (by simpa using he') rfl)))))))))), fun h => absurd h he', fun z g1 g2 g3 g4 => absurd (k3 z g1 g2 g3 g4) he'⟩
end
/-- What a right handoff is. -/
theorem rightS_iff {x : DScheme} : rightS x = true ↔ (1 ≤ x.num ∧ x.num ≤ 1073741824) ∧ rightB x.span = true ∧ (1 ≤ x.from_ ∧ x.from_ ≤ 4) ∧ (1 ≤ x.to_ ∧ x.to_ ≤ 4) ∧ x.from_ ≠ x.to_ ∧ (1 ≤ x.epoch ∧ x.epoch ≤ 1073741824) ∧ (1 ≤ x.stage ∧ x.stage ≤ 9) ∧ (if 4 ≤ x.stage ∧ x.stage ≤ 6 then x.epoch + 1 ≤ x.under ∧ x.under ≤ 1073741824 else x.under = 0) := by
  unfold rightS turnedB
  simp only [Bool.and_eq_true, decide_eq_true_eq, Bool.not_eq_true', decide_eq_false_iff_not]
  constructor
  · rintro ⟨a, b, c, d, e, f, g, h⟩
    refine ⟨a, b, c, d, e, f, g, ?_⟩
    rw [w64 (by omega)] at h
    split at h
    · rename_i hh; rw [if_pos hh]; simpa using h
    · rename_i hh; rw [if_neg hh]; simpa using h
  · rintro ⟨a, b, c, d, e, f, g, h⟩
    refine ⟨a, b, c, d, e, f, g, ?_⟩
    rw [w64 (by omega)]
    split at h
    · rename_i hh; rw [if_pos hh]; simpa using h
    · rename_i hh; rw [if_neg hh]; simpa using h
/-- The beginning of a handoff. -/
theorem Begin_p {s : DShares} (hs : OkSh s) {a : DSpan} (ha : OkSp a) (num g : Int) : ∃ x e, scheme_Begin s num a g = some ((x, e, ()), ()) ∧ (e ≠ 0 → x = noSc) ∧
    (e = 0 → (1 ≤ num ∧ num ≤ 1073741824) ∧ rightW s = true ∧ (1 ≤ g ∧ g ≤ 4) ∧ s.epoch ≠ 1073741824 ∧ ∃ (i : Nat) (hi : i < s.list.length), withinB a s.list[i].span = true ∧ s.list[i].group ≠ g ∧ (turnF s i a g).list.length ≤ 40 ∧ pickF s (fun q => withinB a q.span) = some s.list[i] ∧
      shares_Turn s a g = some ((turnF s i a g, 0, ()), ()) ∧ x = ⟨num, a, s.list[i].group, g, s.list[i].epoch, 0, 1⟩) := by
  unfold scheme_Begin
  rw [swithin_p, Option.bind_some]
  by_cases hn : 1 ≤ num ∧ num ≤ 1073741824
  rotate_left
  · refine ⟨_, _, condT (by
      rw [Bool.not_eq_true', Bool.and_eq_false_iff]
      by_cases h1 : 1 ≤ num
      · exact .inr (dF fun h2 => hn ⟨h1, h2⟩)
      · exact .inl (dF h1)) rfl, fun _ => rfl, fun h => by cases h⟩
  have hnb : (!(decide (1 ≤ num) && decide (num ≤ 1073741824))) = false := by rw [dT hn.1, dT hn.2]; rfl
  rw [hnb, cond_false]
  obtain ⟨t, e, t1, t2, t3⟩ := Turn_p hs ha g
  by_cases he : e = 0
  · subst he
    obtain ⟨f1, f2, f3, i, hi, f4, f5, f6, f7, f8⟩ := t3 rfl
    subst f6
    refine ⟨_, _, bindS t1 (condF rfl (bindS (In_p hs ha) rfl)), fun h => absurd rfl h, fun _ => ⟨hn, f1, f2, f3, i, hi, f4, f5, f7, f8, t1, ?_⟩⟩
    rw [f8]
    rfl
  · exact ⟨_, _, bindS t1 (condT (by simpa using he) rfl), fun _ => rfl, fun h => absurd h he⟩
end Go.Proofs.YtaihdjknneiciaaGreat
