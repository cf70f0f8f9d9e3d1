/- FerryTakes, plainly. -/
import Derived.Test.YtlaehnldaejipaaFkg
namespace Go.Proofs.Ytlaehnldaejipaa
open Go.RowKit
set_option maxRecDepth 100000
set_option linter.unusedVariables false
set_option linter.unusedSimpArgs false
abbrev tkS (l : List DLetter) (drop : Int) (i : Nat) (f : Fer) : (List DLetter × Int × Unit × Unit × Int × Unit) × ((Int × Int × Int × Int × Bool × Bool × Nat × Unit) × (Bool × Int × Int × Int × Int × List UInt8 × Unit) × List UInt8 × Unit × Unit) := ((l, drop, (), (), (i : Int), ()), (ferT f, refT f, f.bs, (), ()))
theorem step_p {l : List DLetter} {drop : Int} {i : Nat} {f : Fer} (hi : i < l.length) (hl : l.length ≤ 60) (hx : l[i].few) (hf : f.inv) : ∃ f2 : Fer, f2.inv ∧ wl_FerryTakes_l1 (tkS l drop i f) = some (.inl (tkS l drop (i + 1) f2)) := by
  have key : ∀ f : Fer, f.inv → ∃ z, wk_OverLetter_2 (lentL l[i]) (lnEs l[i].entries) (l[i].base.config.voters ++ marks 12) (l[i].base.config.old ++ marks 12) (l[i].base.config.learners ++ marks 12) (l[i].base.config.want ++ marks 12) (l[i].bytes ++ marksB 12) = some z := fun f hf => OverLetter_2_p hx (by simp [marks_len]) (by simp [marks_len]) (by simp [marks_len]) (by simp [marks_len]) (by simp [marksB_len])
  unfold wl_FerryTakes_l1
  by_cases hd : (i : Int) = drop
  · have hT := Take2_p (hE := lnEs l[i].entries) (t0 := marks 12) (t1 := marks 12) (t2 := marks 12) (t3 := marks 12) (t4 := marksB 12) (x := l[i]) fer0_inv hx.2.2.1 (marksB_len 12)
    have hI := takeX_few (f := fer0) (x := l[i]) fer0_inv hx.2.2.1
    have hs := SameImage_3_p (t0 := []) (t1 := []) (t2 := []) (t3 := []) (t4 := []) hI
    simp only [List.append_nil] at hs
    obtain ⟨z, hz⟩ := key fer0 fer0_inv
    refine ⟨(takeX fer0 l[i]).2, takeX_inv fer0_inv, ?_⟩
    refine condT (dT (by dsimp only; omega)) (condT (dT hd) (bindS (fDrop_p _ _ _ _ _) (bindS (rDrop_p _ _ _ _ _ _) (bindS (getI_lt hi) (bindS (LentLetter_p hx) (bindS hT (bindS (getI_lt hi) (bindS (refTake_p (f := fer0) fer0_inv hx.2.2.1) ?_))))))))
    refine condF (dF (fun h => h rfl)) (condF (dF (fun h => h rfl)) (bindS hs (condF rfl (bindS (getI_lt hi) (bindS (KeptLetter_p hx) (condF rfl (bindS hz (bindS (OverImage_p hI) ?_))))))))
    dsimp only
    rw [w64 (by omega)]
    rfl
  · have hT := Take2_p (hE := lnEs l[i].entries) (t0 := marks 12) (t1 := marks 12) (t2 := marks 12) (t3 := marks 12) (t4 := marksB 12) (x := l[i]) hf hx.2.2.1 (marksB_len 12)
    have hI := takeX_few (f := f) (x := l[i]) hf hx.2.2.1
    have hs := SameImage_3_p (t0 := []) (t1 := []) (t2 := []) (t3 := []) (t4 := []) hI
    simp only [List.append_nil] at hs
    obtain ⟨z, hz⟩ := key f hf
    refine ⟨(takeX f l[i]).2, takeX_inv hf, ?_⟩
    refine condT (dT (by dsimp only; omega)) (condF (dF hd) (bindS (getI_lt hi) (bindS (LentLetter_p hx) (bindS hT (bindS (getI_lt hi) (bindS (refTake_p (f := f) hf hx.2.2.1) ?_))))))
    refine condF (dF (fun h => h rfl)) (condF (dF (fun h => h rfl)) (bindS hs (condF rfl (bindS (getI_lt hi) (bindS (KeptLetter_p hx) (condF rfl (bindS hz (bindS (OverImage_p hI) ?_))))))))
    dsimp only
    rw [w64 (by omega)]
    rfl
theorem SameImg4_p : wk_SameImage_4 img0 img0 = some (true, ()) := by
  unfold wk_SameImage_4 wk_SameBase_4
  have hi : wk_SameConfig_2 ⟨[], [], [], []⟩ ⟨[], [], [], []⟩ = some (true, ()) := bindS (SameInts_2_p (xs := []) (Nat.zero_le _)) (condT rfl (bindS (SameInts_2_p (xs := []) (Nat.zero_le _)) (condT rfl (bindS (SameInts_2_p (xs := []) (Nat.zero_le _)) (condT rfl (bindS (SameInts_2_p (xs := []) (Nat.zero_le _)) rfl))))))
  exact bindS (condT rfl (condT rfl (bindS hi rfl))) (condT rfl (bindS (SameBytes_2_p (xs := []) (Nat.zero_le _)) rfl))
theorem FerryTakes_p (x0 : List DLetter) (x1 : Int) (k0 : ok_LDLetter x0) (k1 : ok_Ii64 x1) : wl_FerryTakes x0 x1 = some (true, ()) := by
  unfold wl_FerryTakes
  refine bindS awake_p (condF rfl ?_)
  obtain ⟨g, hg, hg2⟩ := great_p (l := x0) k0.all k0.len
  refine bindS hg ?_
  cases g
  rotate_left
  · exact condT rfl rfl
  refine condF rfl ?_
  obtain ⟨hl, hx⟩ := hg2 rfl
  have key : ∃ b, loopM wl_FerryTakes_l1 (tkS x0 x1 0 fer0) = some b ∧ ∃ z, b = .inr z := by
    refine loopM_spec (fun r a => ∃ (i : Nat) (f : Fer), a = tkS x0 x1 i f ∧ i ≤ x0.length ∧ f.inv ∧ r = x0.length - i) _ ?_ (n := x0.length) ⟨0, fer0, rfl, Nat.zero_le _, fer0_inv, rfl⟩
    rintro r a ⟨i, f, rfl, g1, g2, rfl⟩
    by_cases hi : i < x0.length
    · left
      obtain ⟨f2, h1, h2⟩ := step_p (drop := x1) hi hl (hx _ (List.getElem_mem hi)) g2
      exact ⟨x0.length - (i + 1), _, by omega, h2, i + 1, f2, rfl, by omega, h1, rfl⟩
    · right
      unfold wl_FerryTakes_l1
      exact ⟨_, condF (dF (by dsimp only; omega)) rfl, _, rfl⟩
  obtain ⟨b, hb, z, rfl⟩ := key
  refine bindS (v := ((), (ferT fer0, [], ()))) rfl (bindS (v := ((), (refT fer0, (), ()))) rfl (bindS hb ?_))
  dsimp only
  have hs := SameImage_3_p (t0 := []) (t1 := []) (t2 := []) (t3 := []) (t4 := []) img0_few
  refine bindS rfl (bindS rfl (bindS (condT rfl rfl) (condT rfl (condT rfl (condT rfl (condT rfl (bindS SameImg4_p (condT rfl (bindS hs rfl)))))))))
end Go.Proofs.Ytlaehnldaejipaa
