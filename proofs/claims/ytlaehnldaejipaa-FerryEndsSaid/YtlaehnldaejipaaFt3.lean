/- FerryEnds, plainly. -/
import Derived.Test.YtlaehnldaejipaaFt2
namespace Go.Proofs.Ytlaehnldaejipaa
open Go.RowKit
set_option maxRecDepth 100000
set_option linter.unusedVariables false
set_option linter.unusedSimpArgs false
theorem clone54_p {x : List Int} (h : x.length ≤ 1000000) : clone54 x = some (x, ((), ())) := by unfold clone54; exact iteT (by omega) rfl
theorem clone34_p {x : List UInt8} (h : x.length ≤ 1000000) : clone34 x = some (x, ((), ())) := by unfold clone34; exact iteT (by omega) rfl
theorem own_4_p {b : DBase} (h : b.config.few) : ferry_own_4 b = some (b, ()) := bindS (clone54_p h.1) (bindS (clone54_p h.2.1) (bindS (clone54_p h.2.2.1) (bindS (clone54_p h.2.2.2) rfl)))
theorem Fill_3_p {x : DLetter} {m : DImage} (hm : m.few) : ferry_Fill_3 x m = some ((fillR x m, decide (fillOk x m), ()), ()) := by
  unfold fillR
  by_cases h : fillOk x m
  · rw [decide_eq_true h, if_pos h]
    obtain ⟨g1, g2, g3, g4, g5⟩ := h
    have hb := hm.2
    have hw : IntKind.i64.wrap (x.at_ + 600) = x.at_ + 600 := w64 (by omega)
    have hc := cut600 g4 g5 rfl
    unfold ferry_Fill_3
    refine condF (dF (by omega)) (condF (dF (by omega)) (condF (dF (by omega)) (condF (dF (by omega)) (condF (dF (by omega)) (bindS (own_4_p hm.1) ?_)))))
    dsimp only
    rw [hw, hc]
    exact iteT (by split <;> omega) (bindS (clone34_p (by simp; omega)) rfl)
  · rw [decide_eq_false h, if_neg h]
    unfold ferry_Fill_3
    by_cases h1 : x.kind = 5
    · refine condF (dF (by omega)) ?_
      by_cases h2 : x.base.index = m.base.index
      · refine condF (dF (by omega)) ?_
        by_cases h3 : x.base.term_ = m.base.term_
        · refine condF (dF (by omega)) ?_
          by_cases h4 : x.at_ < 0
          · exact condT (dT h4) rfl
          · refine condF (dF h4) ?_
            by_cases h5 : (m.bytes.length : Int) < x.at_
            · exact condT (dT h5) rfl
            · exact absurd ⟨h1, h2, h3, by omega, by omega⟩ h
        · exact condT (dT (by omega)) rfl
      · exact condT (dT (by omega)) rfl
    · exact condT (dT (by omega)) rfl
theorem okNum {n : Int} (h1 : -1000000000 ≤ n) (h2 : n ≤ 1000000000) : ok_Ii64 n := by
  simp [ok_Ii64, InK, Lit.wf, IntKind.bits, IntKind.signed, IntKind.min, IntKind.max]
  omega
theorem okU8 {n : Int} (h1 : 0 ≤ n) (h2 : n ≤ 255) : ok_Iu8 n := by
  simp [ok_Iu8, InK, Lit.wf, IntKind.bits, IntKind.signed, IntKind.min, IntKind.max]
  omega
theorem okNil : ok_LIi64 [] := ⟨Nat.zero_le _, (fun x hx => by simp at hx), by simp⟩
theorem okBs {l : List UInt8} (h : l.length ≤ 1000000) : ok_LUInt8 l := ⟨by omega, fun _ _ => trivial, by omega⟩
def base0 : DBase := ⟨3, 2, ⟨[], [], [], []⟩⟩
theorem base0_ok : ok_DBase base0 := ⟨okNum (by decide) (by decide), okNum (by decide) (by decide), ⟨okNil, okNil, okNil, okNil, trivial⟩, trivial⟩
theorem plain_ok {n : Nat} (h : n ≤ 1000000) : ok_DImage (plainI n) := ⟨base0_ok, okBs (by simpa [plainI] using h), trivial⟩
/-- The letters of the law. -/
abbrev fam (k t s a : Int) (bs : List UInt8) : DLetter := ⟨k, 0, 1, 2, t, 0, 0, 0, false, [], base0, s, a, 0, bs⟩
theorem fam_ok {k t s a : Int} {bs : List UInt8} (hk : 0 ≤ k ∧ k ≤ 255) (ht : 0 ≤ t ∧ t ≤ 1000) (hs : 0 ≤ s ∧ s ≤ 1000000) (ha : -1000 ≤ a ∧ a ≤ 1000000) (hb : bs.length ≤ 1000000) : ok_DLetter (fam k t s a bs) :=
  ⟨okU8 (n := k) hk.1 hk.2, okNum (n := 0) (by decide) (by decide), okNum (n := 1) (by decide) (by decide), okNum (n := 2) (by decide) (by decide), okNum (n := t) (by omega) (by omega), okNum (n := 0) (by decide) (by decide), okNum (n := 0) (by decide) (by decide), okNum (n := 0) (by decide) (by decide), trivial, ⟨Nat.zero_le _, (fun x hx => by simp at hx), by simp⟩, base0_ok, okNum (n := s) (by omega) (by omega), okNum (n := a) (by omega) (by omega), okNum (n := 0) (by decide) (by decide), okBs hb, trivial⟩
/-- What the law makes of a letter: filled, or as it was. -/
theorem fill_fam {n : Nat} {a : Int} (hn : n ≤ 2000) (ha : -1000 ≤ a ∧ a ≤ 2000) : ∃ s bs, 0 ≤ s ∧ s ≤ 2000 ∧ bs.length ≤ 600 ∧ (if decide (fillOk (askL (plainI n) a) (plainI n)) = true then fillR (askL (plainI n) a) (plainI n) else askL (plainI n) a) = fam 5 4 s a bs := by
  by_cases h : fillOk (askL (plainI n) a) (plainI n)
  · refine ⟨n, ((plainB n).drop a.toNat).take 600, by omega, by omega, by simp; omega, ?_⟩
    rw [if_pos (decide_eq_true h)]
    unfold fillR
    rw [if_pos h]
    simp [fillL, askL, plainI, base0]
  · exact ⟨0, [], by omega, by omega, by simp, by rw [if_neg (by simpa using h)]; rfl⟩
theorem four_ok {l : List DLetter} {s a : Int} {bs : List UInt8} (h : ∀ x ∈ l, ok_DLetter x) (hs : 0 ≤ s ∧ s ≤ 2000) (ha : -1000 ≤ a ∧ a ≤ 2000) (hb : bs.length ≤ 600) : ∀ x ∈ l ++ [fam 5 4 s a bs, fam 5 5 s a bs, fam 5 4 (s + 1) a bs, fam 5 4 s a bs], ok_DLetter x := by
  intro x hx
  rcases List.mem_append.1 hx with hx | hx
  · exact h x hx
  · simp only [List.mem_cons, List.not_mem_nil, or_false] at hx
    rcases hx with rfl | rfl | rfl | rfl
    all_goals exact fam_ok (by omega) (by omega) (by omega) (by omega) (by omega)
theorem okLs {l : List DLetter} (h : ∀ x ∈ l, ok_DLetter x) (hl : l.length ≤ 1000) : ok_LDLetter l := ⟨by omega, h, by omega⟩
abbrev ats : List Int := [(-1), 0, 0, 1, 599, 600, 601, 1200, 1201, 1202]
abbrev sizes : List Int := [0, 1, 599, 600, 601, 1200, 1201]
theorem ats_in {k : Nat} (hk : k < ats.length) : -1 ≤ ats[k] ∧ ats[k] ≤ 1202 := (show ∀ x ∈ ats, -1 ≤ x ∧ x ≤ 1202 by decide) _ (List.getElem_mem hk)
theorem sizes_in {k : Nat} (hk : k < sizes.length) : 0 ≤ sizes[k] ∧ sizes[k] ≤ 1201 := (show ∀ x ∈ sizes, 0 ≤ x ∧ x ≤ 1201 by decide) _ (List.getElem_mem hk)
theorem inner_p {n : Nat} {i : Int} (hn : n ≤ 2000) : ∃ l : List DLetter, loopM wl_FerryEnds_l2 ((sizes, i, (), [], ats, 0, ()), (plainI n, (), (), (), ())) = some (.inr ((sizes, i, l, ()), (plainI n, (), (), (), (), (), ()))) ∧ l.length = 40 ∧ ∀ x ∈ l, ok_DLetter x := by
  have key : ∃ b, loopM wl_FerryEnds_l2 ((sizes, i, (), [], ats, 0, ()), (plainI n, (), (), (), ())) = some b ∧ ∃ l : List DLetter, b = .inr ((sizes, i, l, ()), (plainI n, (), (), (), (), (), ())) ∧ l.length = 40 ∧ ∀ x ∈ l, ok_DLetter x := by
    refine loopM_spec (fun r a => ∃ (k : Nat) (l : List DLetter), a = ((sizes, i, (), l, ats, (k : Int), ()), (plainI n, (), (), (), ())) ∧ k ≤ 10 ∧ l.length = 4 * k ∧ (∀ x ∈ l, ok_DLetter x) ∧ r = 10 - k) _ ?_ (n := 10) ⟨0, [], rfl, by omega, rfl, (fun x hx => by simp at hx), rfl⟩
    rintro r a ⟨k, l, rfl, g1, g2, g3, rfl⟩
    unfold wl_FerryEnds_l2
    have hlen : ats.length = 10 := rfl
    by_cases hk : k < ats.length
    · left
      have ha := ats_in hk
      obtain ⟨s, bs, s1, s2, s3, s4⟩ := fill_fam (n := n) (a := ats[k]) hn (by omega)
      have hT := FerryTells_p (askL (plainI n) ats[k]) (plainI n) (fam_ok (k := 5) (t := 4) (s := 0) (a := ats[k]) (bs := []) (by omega) (by omega) (by omega) (by omega) (by simp)) (plain_ok (by omega))
      refine ⟨10 - (k + 1), _, by omega, condT (dT (by dsimp only; omega)) (bindS (getI_lt hk) (bindS (asks_p _ _) (bindS hT (condF rfl (bindS (Fill_3_p (plainI_few (by omega))) ?_))))), k + 1, l ++ [fam 5 4 s ats[k] bs, fam 5 5 s ats[k] bs, fam 5 4 (s + 1) ats[k] bs, fam 5 4 s ats[k] bs], rfl, by omega, by simp; omega, four_ok g3 ⟨s1, s2⟩ (by omega) s3, rfl⟩
      by_cases hf : fillOk (askL (plainI n) ats[k]) (plainI n)
      · rw [if_pos (decide_eq_true hf)] at s4
        refine condF (by simp [hf]) (iteT (by simp; omega) ?_)
        dsimp only
        rw [s4]
        dsimp only
        rw [w64 (n := s + 1) (by omega), w64 (n := (k : Int) + 1) (by omega)]
        rfl
      · rw [if_neg (by simpa using hf)] at s4
        refine condT (by simp [hf]) (iteT (by simp; omega) ?_)
        dsimp only
        rw [s4]
        dsimp only
        rw [w64 (n := s + 1) (by omega), w64 (n := (k : Int) + 1) (by omega)]
        rfl
    · right
      refine ⟨_, condF (dF (by dsimp only; omega)) rfl, l, rfl, by omega, g3⟩
  obtain ⟨b, hb, l, rfl, h1, h2⟩ := key
  exact ⟨l, hb, h1, h2⟩
theorem FerryEnds_p : wl_FerryEnds = some (true, ()) := by
  unfold wl_FerryEnds
  refine bindS awake_p (condF rfl ?_)
  have key : loopM wl_FerryEnds_l1 ((sizes, 0, ()), ((), ())) = some (.inr ((), ((), ()))) := by
    refine loopM_run (step := wl_FerryEnds_l1) (fun i : Nat => ((sizes, (i : Int), ()), ((), ()))) (N := 7) (fun i hi => ?_) ?_
    · have hi2 : i < sizes.length := hi
      have hs := sizes_in hi2
      obtain ⟨n, hn⟩ : ∃ n : Nat, sizes[i] = (n : Int) := ⟨sizes[i].toNat, by omega⟩
      obtain ⟨l, hl, h1, h2⟩ := inner_p (n := n) (i := (i : Int)) (by omega)
      have hp : wl_plain sizes[i] = some (plainI n, ()) := by rw [hn]; exact plain_p n (by omega)
      have hA : ∀ x ∈ (([] : List DLetter) ++ (l.drop 4).take (l.length - 4)) ++ (l.drop 0).take 4, ok_DLetter x := by
        intro x hx
        rcases List.mem_append.1 hx with hx | hx
        · exact h2 x (List.mem_of_mem_drop (List.mem_of_mem_take hx))
        · exact h2 x (List.mem_of_mem_drop (List.mem_of_mem_take hx))
      unfold wl_FerryEnds_l1
      refine condT (dT (by show (i : Int) < 7; omega)) (bindS (getI_lt hi2) (bindS hp (bindS hl ?_)))
      refine bindS (FerryTakes_p l 7 (okLs h2 (by omega)) (okNum (by decide) (by decide))) (condF rfl ?_)
      refine iteT (by dsimp only; omega) (iteT (by dsimp only; omega) (iteT (by simp; omega) (iteT (by simp; omega) ?_)))
      refine bindS (FerryTakes_p _ (-1) (okLs hA (by simp; omega)) (okNum (by decide) (by decide))) (condF rfl ?_)
      dsimp only
      rw [w64 (by omega)]
      rfl
    · unfold wl_FerryEnds_l1
      exact condF rfl rfl
  refine bindS key ?_
  dsimp only
  refine bindS (plain_p 5 (by omega)) (bindS (asks_p _ _) (bindS (FerryTakes_p _ (-1) (okLs (l := [fam 5 4 131072 0 [], fam 5 4 131073 0 [], fam 6 4 131072 0 []]) (fun x hx => ?_) (by simp)) (okNum (by decide) (by decide))) rfl))
  simp only [List.mem_cons, List.not_mem_nil, or_false] at hx
  rcases hx with rfl | rfl | rfl
  all_goals exact fam_ok (by omega) (by omega) (by omega) (by omega) (by simp)
end Go.Proofs.Ytlaehnldaejipaa
