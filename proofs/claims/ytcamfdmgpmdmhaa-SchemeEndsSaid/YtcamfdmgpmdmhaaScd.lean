/- SchemeEnds, plainly. -/
import Derived.Test.YtcamfdmgpmdmhaaScc
namespace Go.Proofs.Ytcamfdmgpmdmhaa
open Go.RowKit
set_option maxRecDepth 100000
set_option linter.unusedVariables false
set_option linter.unusedSimpArgs false
theorem b8_p {n : Int} (h : 0 ≤ n ∧ n < 256) : b8 n = some (UInt8.ofNat n.toNat) := by
  unfold b8 g8
  dsimp only
  rw [if_pos h]
  rfl
theorem b8_n {n : Int} (h : 0 ≤ n ∧ n < 256) : ((UInt8.ofNat n.toNat).toNat : Int) = n := by
  simp
  omega
/-- How many stages are left, at most. -/
def mF (st : Int) : Int := if st ≤ 6 then 6 - st else 9 - st
theorem Step_turn2 {x : DScheme} {s : DShares} (hx : OkSp x.span) (hs : OkSh s) (h1 : rightS x = true) (h2 : rightW s = true) (h3 : x.stage = 3) :
    ∃ y t e, scheme_Step x s 4 = some ((y, t, e, ()), ()) ∧ (e = 0 → OkSp y.span ∧ OkSh t ∧ rightS y = true ∧ rightW t = true ∧ y.stage = 4) := by
  have hg : goesB x.stage 4 = true := by rw [h3]; decide +kernel
  have h4 : x.stage ≠ 4 := by omega
  obtain ⟨t, e, t1, t2, t3⟩ := Turn_p hs hx x.to_
  have hin := In_p hs hx
  have key : ∃ w t' e', scheme_turn s ⟨x⟩ = some ((t', e', ()), (w, ())) ∧ (e' = 0 → e = 0 ∧ t' = t ∧ w = ⟨⟨x.num, x.span, x.from_, x.to_, x.epoch, t.epoch, x.stage⟩⟩ ∧ ((pickF s fun q => withinB x.span q.span).getD noSh).epoch = x.epoch) := by
    unfold scheme_turn
    by_cases h0 : e = 0
    · subst h0
      by_cases g1 : ((pickF s fun q => withinB x.span q.span).getD noSh).group = x.from_
      · by_cases g2 : ((pickF s fun q => withinB x.span q.span).getD noSh).epoch = x.epoch
        · exact ⟨_, _, _, bindS t1 (condF rfl (bindS hin (condF (by simpa using g1) (condF (by simpa using g2) rfl)))), fun _ => ⟨rfl, rfl, rfl, g2⟩⟩
        · exact ⟨_, _, _, bindS t1 (condF rfl (bindS hin (condF (by simpa using g1) (condT (by simpa using g2) rfl)))), fun h => (by cases h)⟩
      · exact ⟨_, _, _, bindS t1 (condF rfl (bindS hin (condT (by simpa using g1) rfl))), fun h => (by cases h)⟩
    · exact ⟨_, _, _, bindS t1 (condT (by simpa using h0) rfl), fun h => absurd h h0⟩
  obtain ⟨w, t', e', k1, k2⟩ := key
  unfold scheme_Step
  by_cases he' : e' = 0
  · obtain ⟨q1, q2, q3, q4⟩ := k2 he'
    subst q3 q1 q2
    obtain ⟨f1, f2, f3, i, hi, f4, f5, f6, f7, f8⟩ := t3 rfl
    clear t3
    subst f6
    have hr := rightS_iff.1 h1
    have hep := (right_iff.1 h2).1
    have hsh := (wrong_of.1 ((right_iff.1 h2).2.2.1 _ (List.getElem_mem hi))).2
    rw [f8] at q4
    have q4 : s.list[i].epoch = x.epoch := q4
    have hb1 : x.epoch + 1 ≤ s.epoch + 1 ∧ s.epoch + 1 ≤ 1073741824 := by omega
    have hb2 : (turnF s i x.span x.to_).list.length ≤ 1000 := Nat.le_trans f7 (by decide)
    have hy : rightS ⟨x.num, x.span, x.from_, x.to_, x.epoch, (turnF s i x.span x.to_).epoch, 4⟩ = true := by
      refine rightS_iff.2 ⟨hr.1, hr.2.1, hr.2.2.1, hr.2.2.2.1, hr.2.2.2.2.1, hr.2.2.2.2.2.1, ⟨(by decide : (1 : Int) ≤ 4), (by decide : (4 : Int) ≤ 9)⟩, ?_⟩
      show if 4 ≤ (4 : Int) ∧ (4 : Int) ≤ 6 then x.epoch + 1 ≤ s.epoch + 1 ∧ s.epoch + 1 ≤ 1073741824 else _
      rw [if_pos (by decide)]
      exact hb1
    exact ⟨_, _, _, bindS (rightS_p hx) (condF (by rw [h1]; rfl) (bindS (Right_sh hs) (condF (by rw [h2]; rfl) (condF (dF h4) (bindS (Goes_p _ _) (condF (by rw [hg]; rfl) (bindS (own_p hs) (condT rfl (bindS k1 (condF (by simpa using he') rfl)))))))))), fun _ => ⟨hx, ⟨hb2, turnF_ok hs.sp hx hi⟩, hy, turn_right h2 f2 f3 hi f4 f7, rfl⟩⟩
  · exact ⟨_, _, _, bindS (rightS_p hx) (condF (by rw [h1]; rfl) (bindS (Right_sh hs) (condF (by rw [h2]; rfl) (condF (dF h4) (bindS (Goes_p _ _) (condF (by rw [hg]; rfl) (bindS (own_p hs) (condT rfl (bindS k1 (condT (by simpa using he') rfl)))))))))), fun h => absurd h he'⟩
section
variable {x : DScheme} {s : DShares} (hx : OkSp x.span) (hs : OkSh s) (h1 : rightS x = true) (h2 : rightW s = true)
include hx hs h1 h2
/-- To another stage, under the same epoch. -/
theorem Step_to {st : Int} (hg : goesB x.stage st = true) (h4 : st ≠ 4) : ∃ y, scheme_Step x s st = some ((y, s, 0, ()), ()) ∧ OkSp y.span ∧ rightS y = true ∧ y.stage = st := by
  have hc := goes_cases hg
  have hr := rightS_iff.1 h1
  refine ⟨_, Step_go hx hs h1 h2 (by omega) hg h4, hx, rightS_iff.2 ⟨hr.1, hr.2.1, hr.2.2.1, hr.2.2.2.1, hr.2.2.2.2.1, hr.2.2.2.2.2.1, ?_, ?_⟩, rfl⟩
  · show 1 ≤ st ∧ st ≤ 9
    omega
  · have h := hr.2.2.2.2.2.2.2
    show if 4 ≤ st ∧ st ≤ 6 then x.epoch + 1 ≤ x.under ∧ x.under ≤ 1073741824 else x.under = 0
    by_cases hq : 4 ≤ st ∧ st ≤ 6
    · rw [if_pos hq]
      rw [if_pos (by omega)] at h
      exact h
    · rw [if_neg hq]
      rw [if_neg (by omega)] at h
      exact h
omit hx hs h1 h2 in
theorem ends_in {y : DScheme} {t : DShares} {back : Bool} {i : Int} {seen : List UInt8} (hl : seen.length ≤ 1000) (hn : ∀ e ∈ seen, (e.toNat : Int) ≠ y.stage) :
    loopM watershedlaw20_SchemeEnds_l2 ((back, (), (), seen, i, (), (), 0, ()), (x, s, y, t, (), ())) = some (.inr ((back, (), (), seen, i, (), (), ()), (x, s, y, t, (), (), ()))) := by
  refine loopM_run (step := watershedlaw20_SchemeEnds_l2) (fun k : Nat => ((back, (), (), seen, i, (), (), (k : Int), ()), (x, s, y, t, (), ()))) (N := seen.length) (fun k hk => ?_) ?_
  · unfold watershedlaw20_SchemeEnds_l2
    refine condT (dT (by dsimp only; omega)) (bindS (getI_lt hk) (condF (dF (hn _ (List.getElem_mem hk))) ?_))
    dsimp only
    rw [w64 (by omega)]
    rfl
  · unfold watershedlaw20_SchemeEnds_l2
    exact condF (dF (by dsimp only; omega)) rfl
end
structure Ev (x : DScheme) (s : DShares) (seen : List UInt8) (i : Int) : Prop where
  hx : OkSp x.span
  hs : OkSh s
  h1 : rightS x = true
  h2 : rightW s = true
  le : ∀ e ∈ seen, (e.toNat : Int) ≤ x.stage
  ln : (seen.length : Int) + mF x.stage ≤ 6
  ix : i = (seen.length : Int) - 1
  ne : 1 ≤ seen.length
theorem Ev.next {x y : DScheme} {s t : DShares} {seen : List UInt8} {i : Int} (h : Ev x s seen i) (hy : OkSp y.span) (ht : OkSh t) (k1 : rightS y = true) (k2 : rightW t = true) (hlt : x.stage < y.stage) (hm : mF y.stage + 1 ≤ mF x.stage) : Ev y t (seen ++ [UInt8.ofNat y.stage.toNat]) (i + 1) := by
  have hst := (rightS_iff.1 k1).2.2.2.2.2.2.1
  have hb := b8_n (n := y.stage) (by omega)
  have h3 := h.ln
  have h4 := h.ix
  refine ⟨hy, ht, k1, k2, fun e he => ?_, ?_, ?_, by simp⟩
  · rcases List.mem_append.1 he with he | he
    · have := h.le e he; omega
    · rw [List.mem_singleton] at he
      subst he
      omega
  · simp only [List.length_append, List.length_singleton]; omega
  · simp only [List.length_append, List.length_singleton]; omega
theorem u8s {n : Int} (h : 0 ≤ n ∧ n < 256) : IntKind.u8.wrap n = n := by
  simp only [IntKind.wrap, IntKind.bits, IntKind.signed, IntKind.min, IntKind.max]
  first | omega | (simp; omega)
theorem ends_loop (back : Bool) {x : DScheme} {s : DShares} {seen : List UInt8} {i : Int} (h : Ev x s seen i) :
    ∃ z, loopM watershedlaw20_SchemeEnds_l1 ((back, (), (), seen, i, ()), (x, s, (), ())) = some z ∧ ∃ (x : DScheme) (s : DShares) (seen : List UInt8), z = .inr (((), seen, ()), (x, s, (), (), ())) ∧ (x.stage = 6 ∨ x.stage = 9) ∧ seen.length ≤ 6 := by
  refine loopM_spec (fun n a => ∃ (x : DScheme) (s : DShares) (seen : List UInt8) (i : Int), a = ((back, (), (), seen, i, ()), (x, s, (), ())) ∧ Ev x s seen i ∧ n = (mF x.stage).toNat) _ ?_ (n := (mF x.stage).toNat) ⟨x, s, seen, i, rfl, h, rfl⟩
  rintro n a ⟨x, s, seen, i, rfl, h, rfl⟩
  have hst := (rightS_iff.1 h.h1).2.2.2.2.2.2.1
  have hm0 : 0 ≤ mF x.stage := by unfold mF; split <;> omega
  have hln := h.ln
  have hix := h.ix
  have hne := h.ne
  by_cases ho : x.stage = 6 ∨ x.stage = 9
  · right
    refine ⟨_, ?_, x, s, seen, rfl, ho, by omega⟩
    unfold watershedlaw20_SchemeEnds_l1
    refine condT (dT (by dsimp only; omega)) (bindS (Over_p x) (condF ?_ rfl))
    rcases ho with ho | ho <;> rw [ho] <;> rfl
  left
  -- a step that is taken
  have fin : ∀ (y : DScheme) (t : DShares), OkSp y.span → OkSh t → rightS y = true → rightW t = true → x.stage < y.stage → mF y.stage + 1 ≤ mF x.stage →
      loopM watershedlaw20_SchemeEnds_l2 ((back, (), (), seen, i, (), (), 0, ()), (x, s, y, t, (), ())) = some (.inr ((back, (), (), seen, i, (), (), ()), (x, s, y, t, (), (), ()))) ∧ b8 y.stage = some (UInt8.ofNat y.stage.toNat) ∧ Ev y t (seen ++ [UInt8.ofNat y.stage.toNat]) (i + 1) ∧ (mF y.stage).toNat < (mF x.stage).toNat := by
    intro y t hy ht k1 k2 hlt hm
    have hst := (rightS_iff.1 k1).2.2.2.2.2.2.1
    have hmy : 0 ≤ mF y.stage := by unfold mF; split <;> omega
    exact ⟨ends_in (by omega) (fun e he => by have := h.le e he; omega), b8_p (by omega), h.next hy ht k1 k2 hlt hm, by omega⟩
  have hov : (!(decide (x.stage = 6) || decide (x.stage = 9))) = true := by rw [dF fun e => ho (.inl e), dF fun e => ho (.inr e)]; rfl
  have hi6 : decide (i < 6) = true := dT (by omega)
  have hu : IntKind.u8.wrap (x.stage + 1) = x.stage + 1 := u8s (by omega)
  have hw : IntKind.i64.wrap (i + 1) = i + 1 := w64 (by omega)
  have hcap : seen.length + 1 ≤ 140737488355328 ∧ (seen.length + 1) * 1 ≤ 140737488355328 := by omega
  have e4 : x.stage = 3 → x.stage + 1 = 4 := fun h => by omega
  have e5 : x.stage ≠ 3 → x.stage + 1 ≠ 4 := fun h => by omega
  have eno : ¬ (x.stage = 1 ∨ x.stage = 2 ∨ x.stage = 3) → x.stage ≠ 3 := fun h => by omega
  have elist : x.stage ≠ 3 → x.stage = 1 ∨ x.stage = 2 ∨ x.stage = 4 ∨ x.stage = 5 ∨ x.stage = 7 ∨ x.stage = 8 := fun h => by omega
  have on_m : ∀ y : DScheme, y.stage = x.stage + 1 → x.stage < y.stage ∧ mF y.stage + 1 ≤ mF x.stage := fun y hy => by
    refine ⟨by omega, ?_⟩
    unfold mF
    rw [hy]
    by_cases h6 : x.stage + 1 ≤ 6
    · rw [if_pos h6, if_pos (by omega)]; omega
    · rw [if_neg h6, if_neg (by omega)]; omega
  have seven_m : ∀ y : DScheme, y.stage = 7 → (x.stage = 1 ∨ x.stage = 2 ∨ x.stage = 3) → x.stage < y.stage ∧ mF y.stage + 1 ≤ mF x.stage := fun y hy hc => by
    refine ⟨by omega, ?_⟩
    unfold mF
    rw [if_neg (by omega), if_pos (by omega)]
    omega
  -- from one of the first three it can go back
  have seven : (x.stage = 1 ∨ x.stage = 2 ∨ x.stage = 3) → ∃ y, scheme_Step x s 7 = some ((y, s, 0, ()), ()) ∧ OkSp y.span ∧ rightS y = true ∧ y.stage = 7 := fun hc => Step_to h.hx h.hs h.h1 h.h2 (goes_17 hc) (by decide)
  have on : x.stage ≠ 3 → ∃ y, scheme_Step x s (x.stage + 1) = some ((y, s, 0, ()), ()) ∧ OkSp y.span ∧ rightS y = true ∧ y.stage = x.stage + 1 := fun h3 => by
    refine Step_to h.hx h.hs h.h1 h.h2 ?_ (e5 h3)
    rcases elist h3 with e | e | e | e | e | e <;> rw [e] <;> decide +kernel
  cases back with
  | true =>
    by_cases hc : x.stage = 1 ∨ x.stage = 2 ∨ x.stage = 3
    · obtain ⟨y, s1, y1, y2, y3⟩ := seven hc
      obtain ⟨m1, m2⟩ := seven_m y y3 hc
      obtain ⟨q1, q2, q3, q4⟩ := fin y s y1 h.hs y2 h.h2 m1 m2
      refine ⟨_, ((true, (), (), seen ++ [UInt8.ofNat y.stage.toNat], i + 1, ()), (y, s, (), ())), q4, ?_, y, s, _, _, rfl, q3, rfl⟩
      unfold watershedlaw20_SchemeEnds_l1
      refine condT hi6 (bindS (Over_p x) (condT hov (condT rfl (bindS (Goes_p _ _) (condT (goes_17 hc) (bindS s1 (condF rfl (condF rfl (bindS q1 (bindS q2 (iteT hcap ?_)))))))))))
      dsimp only
      rw [hw]
    · obtain ⟨y, s1, y1, y2, y3⟩ := on (eno hc)
      obtain ⟨m1, m2⟩ := on_m y y3
      obtain ⟨q1, q2, q3, q4⟩ := fin y s y1 h.hs y2 h.h2 m1 m2
      refine ⟨_, ((true, (), (), seen ++ [UInt8.ofNat y.stage.toNat], i + 1, ()), (y, s, (), ())), q4, ?_, y, s, _, _, rfl, q3, rfl⟩
      unfold watershedlaw20_SchemeEnds_l1
      refine condT hi6 (bindS (Over_p x) (condT hov (condT rfl (bindS (Goes_p _ _) (condF (goes_no7 hc) ?_)))))
      dsimp only
      rw [hu]
      exact bindS s1 (condF rfl (condF rfl (bindS q1 (bindS q2 (iteT hcap (by dsimp only; rw [hw]))))))
  | false =>
    by_cases h3 : x.stage = 3
    · obtain ⟨y, t, e, s1, s2⟩ := Step_turn2 h.hx h.hs h.h1 h.h2 h3
      by_cases he : e = 0
      · subst he
        obtain ⟨y1, y2, y3, y4, y5⟩ := s2 rfl
        obtain ⟨m1, m2⟩ := on_m y (y5.trans (e4 h3).symm)
        obtain ⟨q1, q2, q3, q4⟩ := fin y t y1 y2 y3 y4 m1 m2
        refine ⟨_, ((false, (), (), seen ++ [UInt8.ofNat y.stage.toNat], i + 1, ()), (y, t, (), ())), q4, ?_, y, t, _, _, rfl, q3, rfl⟩
        unfold watershedlaw20_SchemeEnds_l1
        refine condT hi6 (bindS (Over_p x) (condT hov (condF rfl ?_)))
        dsimp only
        rw [hu, show x.stage + 1 = 4 from e4 h3]
        exact bindS s1 (condF rfl (condF rfl (bindS q1 (bindS q2 (iteT hcap (by dsimp only; rw [hw]))))))
      · have hc : x.stage = 1 ∨ x.stage = 2 ∨ x.stage = 3 := .inr (.inr h3)
        obtain ⟨y7, z1, y1, y2, y3⟩ := seven hc
        obtain ⟨m1, m2⟩ := seven_m y7 y3 hc
        obtain ⟨q1, q2, q3, q4⟩ := fin y7 s y1 h.hs y2 h.h2 m1 m2
        refine ⟨_, ((false, (), (), seen ++ [UInt8.ofNat y7.stage.toNat], i + 1, ()), (y7, s, (), ())), q4, ?_, y7, s, _, _, rfl, q3, rfl⟩
        unfold watershedlaw20_SchemeEnds_l1
        refine condT hi6 (bindS (Over_p x) (condT hov (condF rfl ?_)))
        dsimp only
        rw [hu, show x.stage + 1 = 4 from e4 h3]
        exact bindS s1 (condT (dT he) (bindS (Goes_p _ _) (condT (goes_17 hc) (bindS z1 (condF rfl (bindS q1 (bindS q2 (iteT hcap (by dsimp only; rw [hw])))))))))
    · obtain ⟨y, s1, y1, y2, y3⟩ := on h3
      obtain ⟨m1, m2⟩ := on_m y y3
      obtain ⟨q1, q2, q3, q4⟩ := fin y s y1 h.hs y2 h.h2 m1 m2
      refine ⟨_, ((false, (), (), seen ++ [UInt8.ofNat y.stage.toNat], i + 1, ()), (y, s, (), ())), q4, ?_, y, s, _, _, rfl, q3, rfl⟩
      unfold watershedlaw20_SchemeEnds_l1
      refine condT hi6 (bindS (Over_p x) (condT hov (condF rfl ?_)))
      dsimp only
      rw [hu]
      exact bindS s1 (condF rfl (condF rfl (bindS q1 (bindS q2 (iteT hcap (by dsimp only; rw [hw]))))))
theorem SchemeEnds_p (x0 : DScheme) (x1 : DShares) (x2 : Bool) (k0 : ok_DScheme x0) (k1 : ok_DShares x1) (k2 : ok_Bool x2) : watershedlaw20_SchemeEnds x0 x1 x2 = some (true, ()) := by
  have hx : OkSp x0.span := .of k0.2.1
  obtain ⟨r, r1, r2⟩ := great_s (s := x1) x0.span k1.2.1.len (fun x hx => .of (k1.2.1.all x hx).1)
  unfold watershedlaw20_SchemeEnds
  refine bindS awake_p (condF rfl (bindS r1 ?_))
  cases r with
  | true => exact condT rfl rfl
  | false =>
  refine condF rfl (bindS (Right1_p hx) ?_)
  have hs := r2 rfl
  cases h1 : rightS x0 with
  | false => exact condT rfl rfl
  | true =>
  refine condF rfl (bindS (Right_sh hs) ?_)
  cases h2 : rightW x1 with
  | false => exact condT rfl rfl
  | true =>
  refine condF rfl ?_
  have hst := (rightS_iff.1 h1).2.2.2.2.2.2.1
  refine bindS (b8_p (by omega)) ?_
  have hb := b8_n (n := x0.stage) (by omega)
  have hv : Ev x0 x1 [UInt8.ofNat x0.stage.toNat] 0 := ⟨hx, hs, h1, h2, fun e he => by
    rw [List.mem_singleton] at he
    subst he
    omega, by
    simp only [List.length_singleton]
    unfold mF
    split <;> omega, by simp, by simp⟩
  obtain ⟨z, hz, x, s, seen, rfl, ho, hl⟩ := ends_loop x2 hv
  refine bindS hz ?_
  refine bindS (Over_p x) (condT ?_ ?_)
  · rcases ho with ho | ho <;> dsimp only <;> rw [ho] <;> rfl
  · dsimp only
    rw [dT (by omega)]
end Go.Proofs.Ytcamfdmgpmdmhaa
