/- FerryCrosses: the law itself, plainly. -/
import Derived.Test.YtlaehnldaejipaaFc
namespace Go.Proofs.Ytlaehnldaejipaa
open Go.RowKit
set_option maxRecDepth 100000
set_option linter.unusedVariables false
set_option linter.unusedSimpArgs false
section
variable {bs : List UInt8} {base : DBase} {steps : List Int}
/-- How far a ferry is. -/
def Far (m : DImage) (k : Nat) (f : Fer) : Prop := (f = onWay m k ∧ k ≤ m.bytes.length) ∨ (f = fer0 ∧ k = 0)
theorem Far.or {m : DImage} {k : Nat} {f : Fer} (h : Far m k f) : f = onWay m k ∨ (f = fer0 ∧ k = 0) := h.imp And.left id
theorem Far.le {m : DImage} {k : Nat} {f : Fer} (h : Far m k f) : k ≤ m.bytes.length := h.elim And.right fun h => by omega
theorem Far.len {m : DImage} {k : Nat} {f : Fer} (h : Far m k f) : f.bs.length ≤ m.bytes.length := by
  rcases h with ⟨rfl, h⟩ | ⟨rfl, h⟩
  · simp [onWay]; omega
  · simp [fer0]
theorem round1 (hb : bs.length ≤ 4000) (hc : base.config.few) (i k : Nat) (f : Fer) (hi : i < steps.length) (hl : steps.length ≤ 40) (hf : Far ⟨base, bs⟩ k f) :
    ∃ (k' : Nat) (f' : Fer), watershedlaw13_FerryCrosses_l1 ((bs, steps, (), (), (k : Int), (i : Int), ()), ((⟨base, bs⟩ : DImage), f.tup, (), ())) = some (.inl ((bs, steps, (), (), (k' : Int), ((i + 1 : Nat) : Int), ()), ((⟨base, bs⟩ : DImage), f'.tup, (), ()))) ∧ Far ⟨base, bs⟩ k' f' := by
  have hk := hf.le
  have hfl := hf.len
  simp only at hk hfl
  obtain ⟨p, hp, p0, p1⟩ := Pick_p steps[i] ((k : Int) + 1) (by omega) (by omega)
  obtain ⟨a, rfl⟩ : ∃ a : Nat, p = (a : Int) := ⟨p.toNat, by omega⟩
  have hak : a ≤ k := by omega
  have hfill := ask_fill (m := ⟨base, bs⟩) hc (by simp only; omega) (a := (a : Int)) (by omega) (by simp only; omega)
  have wi : IntKind.i64.wrap ((i : Int) + 1) = ((i + 1 : Nat) : Int) := by rw [w64 (by omega)]; rfl
  -- the piece as it is taken
  have own : ∃ (k' : Nat) (f' : Fer), takeM f (pieceL ⟨base, bs⟩ a) = ((if k' = 0 ∧ f' = fer0 then ((bs.length : Int), true, ⟨base, bs⟩, ()) else ((k' : Int), false, img0, ())), f') ∧ Far ⟨base, bs⟩ k' f' ∧ (¬ (k' = 0 ∧ f' = fer0) → k ≤ k') := by
    have ht := take_piece (m := ⟨base, bs⟩) (by simp only; omega) hak hk f hf.or
    by_cases hz : max k (min (a + 600) bs.length) < bs.length
    · rw [if_pos hz] at ht
      refine ⟨max k (min (a + 600) bs.length), onWay ⟨base, bs⟩ (max k (min (a + 600) bs.length)), ht.trans ?_, .inl ⟨rfl, by simp only; omega⟩, fun _ => by omega⟩
      rw [if_neg (by intro h; exact absurd h.1 (by omega))]
    · rw [if_neg hz] at ht
      refine ⟨0, fer0, ht.trans ?_, .inr ⟨rfl, rfl⟩, fun h => absurd ⟨rfl, rfl⟩ h⟩
      rw [if_pos ⟨rfl, rfl⟩]
  by_cases h9 : (steps[i].tmod 5 = 4) ∧ 0 < a
  · -- another crossing's
    have ht := take_other (m := ⟨base, bs⟩) (k := k) h9.2 f (hf.or.imp id And.left)
    have hq := Take_p (f := f) (x := { pieceL ⟨base, bs⟩ a with term_ := 9 }) (by omega) hc
    rw [ht] at hq
    refine ⟨k, f, ?_, hf⟩
    unfold watershedlaw13_FerryCrosses_l1
    refine condT (dT (by show (i : Int) < (steps.length : Int); omega)) ?_
    refine bindS (getI_lt hi) ?_
    refine bindS (v := ((a : Int), ())) (by rw [show IntKind.i64.wrap ((k : Int) + 1) = (k : Int) + 1 from w64 (by omega)]; exact hp) ?_
    refine bindS (asks_p _ _) ?_
    refine bindS hfill ?_
    refine condF (nF rfl) ?_
    refine bindS (getI_lt hi) ?_
    refine condT (dT h9.1) ?_
    refine condT (dT (by show (0 : Int) < (a : Int); omega)) ?_
    refine bindS hq ?_
    refine condF rfl ?_
    refine condF (dF (by decide)) ?_
    refine condF (dF (by show ¬ (bs.length : Int) < 0; omega)) ?_
    refine condF (dF (by decide)) ?_
    dsimp only
    rw [wi]
  · obtain ⟨k', f', ht, hf', hkk⟩ := own
    have hq := Take_p (f := f) (x := pieceL ⟨base, bs⟩ a) (by omega) hc
    rw [ht] at hq
    refine ⟨k', f', ?_, hf'⟩
    have hk' := hf'.le
    simp only at hk'
    unfold watershedlaw13_FerryCrosses_l1
    refine condT (dT (by show (i : Int) < (steps.length : Int); omega)) ?_
    refine bindS (getI_lt hi) ?_
    refine bindS (v := ((a : Int), ())) (by rw [show IntKind.i64.wrap ((k : Int) + 1) = (k : Int) + 1 from w64 (by omega)]; exact hp) ?_
    refine bindS (asks_p _ _) ?_
    refine bindS hfill ?_
    refine condF (nF rfl) ?_
    refine bindS (getI_lt hi) ?_
    by_cases hd : k' = 0 ∧ f' = fer0
    · rw [if_pos hd] at hq
      obtain ⟨rfl, rfl⟩ := hd
      have hs := imgSame (x := ⟨base, bs⟩) hc (by simp only; omega)
      by_cases h5 : steps[i].tmod 5 = 4
      · refine condT (dT h5) ?_
        refine condF (dF (by show ¬ (0 : Int) < (a : Int); omega)) ?_
        refine bindS hq ?_
        refine condT rfl ?_
        refine condF (dF (by simp)) ?_
        refine bindS hs ?_
        refine condF (nF rfl) ?_
        dsimp only
        rw [wi]
        rfl
      · refine condF (dF h5) ?_
        refine bindS hq ?_
        refine condT rfl ?_
        refine condF (dF (by simp)) ?_
        refine bindS hs ?_
        refine condF (nF rfl) ?_
        dsimp only
        rw [wi]
        rfl
    · rw [if_neg hd] at hq
      have hkk := hkk hd
      by_cases h5 : steps[i].tmod 5 = 4
      · refine condT (dT h5) ?_
        refine condF (dF (by show ¬ (0 : Int) < (a : Int); omega)) ?_
        refine bindS hq ?_
        refine condF rfl ?_
        refine condT (dT (by show (4 : Int) ≠ 9; decide)) ?_
        refine condF (dF (by show ¬ (k' : Int) < (k : Int); omega)) ?_
        refine condF (dF (by show ¬ (bs.length : Int) < (k' : Int); omega)) ?_
        refine condT (dT (by show (4 : Int) ≠ 9; decide)) ?_
        dsimp only
        rw [wi]
      · refine condF (dF h5) ?_
        refine bindS hq ?_
        refine condF rfl ?_
        refine condT (dT (by show (4 : Int) ≠ 9; decide)) ?_
        refine condF (dF (by show ¬ (k' : Int) < (k : Int); omega)) ?_
        refine condF (dF (by show ¬ (bs.length : Int) < (k' : Int); omega)) ?_
        refine condT (dT (by show (4 : Int) ≠ 9; decide)) ?_
        dsimp only
        rw [wi]
theorem round2 (hb : bs.length ≤ 4000) (hc : base.config.few) (i : Nat) (f : Fer) (hi : 600 * i ≤ bs.length) (hf : Far ⟨base, bs⟩ (600 * i) f) :
    (bs.length ≤ 600 * i + 600 → ∃ f', watershedlaw13_FerryCrosses_l2 ((bs, (), (), ((600 * i : Nat) : Int), (i : Int), ()), ((⟨base, bs⟩ : DImage), f.tup, (), ())) = some (.inr (.inl ((true, ()), ((⟨base, bs⟩ : DImage), Fer.tup f', (), (), ()))))) ∧
    (600 * i + 600 < bs.length → watershedlaw13_FerryCrosses_l2 ((bs, (), (), ((600 * i : Nat) : Int), (i : Int), ()), ((⟨base, bs⟩ : DImage), f.tup, (), ())) = some (.inl ((bs, (), (), ((600 * (i + 1) : Nat) : Int), ((i + 1 : Nat) : Int), ()), ((⟨base, bs⟩ : DImage), (onWay ⟨base, bs⟩ (600 * (i + 1))).tup, (), ())))) := by
  have hfl := hf.len
  simp only at hfl
  have hfill := ask_fill (m := ⟨base, bs⟩) hc (by simp only; omega) (a := ((600 * i : Nat) : Int)) (by omega) (by simp only; omega)
  have ht := take_piece (m := ⟨base, bs⟩) (by simp only; omega) (Nat.le_refl (600 * i)) hi f hf.or
  have hq := Take_p (f := f) (x := pieceL ⟨base, bs⟩ ((600 * i : Nat) : Int)) (by omega) hc
  rw [ht] at hq
  have wd : IntKind.i64.wrap (IntKind.i64.wrap ((bs.length : Int).tdiv 600) + 1) = (bs.length : Int) / 600 + 1 := by
    have : (bs.length : Int).tdiv 600 = (bs.length : Int) / 600 := Int.tdiv_eq_ediv_of_nonneg (by omega)
    rw [this, w64 (n := (bs.length : Int) / 600) (by omega), w64 (by omega)]
  have wi : IntKind.i64.wrap ((i : Int) + 1) = ((i + 1 : Nat) : Int) := by rw [w64 (by omega)]; rfl
  have wa : IntKind.i64.wrap (((600 * i : Nat) : Int) + 600) = ((600 * i : Nat) : Int) + 600 := w64 (by omega)
  refine ⟨fun hle => ?_, fun hlt => ?_⟩
  · rw [if_neg (by simp only; omega)] at hq
    refine ⟨fer0, ?_⟩
    unfold watershedlaw13_FerryCrosses_l2
    refine condT (dT (by show (i : Int) ≤ IntKind.i64.wrap (IntKind.i64.wrap ((bs.length : Int).tdiv 600) + 1); rw [wd]; omega)) ?_
    refine bindS (asks_p _ _) ?_
    refine bindS hfill ?_
    refine bindS hq ?_
    refine condF (nF rfl) ?_
    dsimp only
    rw [wa]
    refine condF (dF (by split <;> simp <;> omega)) ?_
    refine condT rfl ?_
    refine bindS (imgSame (x := ⟨base, bs⟩) hc (by simp only; omega)) ?_
    rfl
  · rw [if_pos (by simp only; omega)] at hq
    have e : max (600 * i) (min (600 * i + 600) bs.length) = 600 * (i + 1) := by omega
    simp only [e] at hq
    unfold watershedlaw13_FerryCrosses_l2
    refine condT (dT (by show (i : Int) ≤ IntKind.i64.wrap (IntKind.i64.wrap ((bs.length : Int).tdiv 600) + 1); rw [wd]; omega)) ?_
    refine bindS (asks_p _ _) ?_
    refine bindS hfill ?_
    refine bindS hq ?_
    refine condF (nF rfl) ?_
    dsimp only
    rw [wa]
    refine condF (dF (by split <;> simp <;> omega)) ?_
    refine condF rfl ?_
    rw [wi]
theorem FerryCrosses_p (x0 : List UInt8) (x1 : DBase) (x2 : List Int) (k0 : ok_LUInt8 x0) (k1 : ok_DBase x1) (k2 : ok_LIi64 x2) : watershedlaw13_FerryCrosses x0 x1 x2 = some (true, ()) := by
  unfold watershedlaw13_FerryCrosses
  refine bindS awake_p ?_
  refine condF (nF rfl) ?_
  by_cases h1 : (4000 : Int) < x0.length
  · exact condT (dT h1) rfl
  refine condF (dF h1) ?_
  by_cases h2 : (40 : Int) < x2.length
  · exact condT (dT h2) rfl
  refine condF (dF h2) ?_
  have hsm : x1.config.small := by
    obtain ⟨_, _, ⟨⟨c1, _⟩, ⟨c2, _⟩, ⟨c3, _⟩, ⟨c4, _⟩, _⟩, _⟩ := k1
    exact ⟨c1, c2, c3, c4⟩
  refine bindS (ConfigOf_p hsm) ?_
  by_cases h3 : (40 : Int) < 1 + (x1.config.voters.length : Int) + (x1.config.old.length : Int) + (x1.config.learners.length : Int) + (x1.config.want.length : Int)
  · exact condT (dT h3) rfl
  refine condF (dF h3) ?_
  have hc : x1.config.few := by unfold DConfig.few; omega
  refine bindS New_p ?_
  obtain ⟨b, hb, hq⟩ := loopM_spec (step := watershedlaw13_FerryCrosses_l1) (fun n a => ∃ (i k : Nat) (f : Fer), a = ((x0, x2, (), (), (k : Int), (i : Int), ()), ((⟨x1, x0⟩ : DImage), f.tup, (), ())) ∧ i ≤ x2.length ∧ n = x2.length - i ∧ Far ⟨x1, x0⟩ k f)
    (fun b => ∃ f : Fer, b = .inr ((x0, (), (), ()), ((⟨x1, x0⟩ : DImage), f.tup, (), (), ()))) (by
      rintro n a ⟨i, k, f, rfl, hi, rfl, hf⟩
      by_cases hlt : i < x2.length
      · obtain ⟨k', f', h4, h5⟩ := round1 (by omega) hc i k f hlt (by omega) hf
        exact .inl ⟨_, _, by omega, h4, i + 1, k', f', rfl, by omega, rfl, h5⟩
      · right
        refine ⟨_, ?_, f, rfl⟩
        unfold watershedlaw13_FerryCrosses_l1
        exact condF (dF (by show ¬ (i : Int) < (x2.length : Int); omega)) rfl) (n := x2.length) ⟨0, 0, fer0, rfl, Nat.zero_le _, rfl, .inr ⟨rfl, rfl⟩⟩
  obtain ⟨f, rfl⟩ := hq
  refine bindS hb ?_
  dsimp only
  refine bindS (Drop_p f) ?_
  obtain ⟨b, hb, hq⟩ := loopM_spec (step := watershedlaw13_FerryCrosses_l2) (fun n a => ∃ (i : Nat) (f : Fer), a = ((x0, (), (), ((600 * i : Nat) : Int), (i : Int), ()), ((⟨x1, x0⟩ : DImage), f.tup, (), ())) ∧ 600 * i ≤ x0.length ∧ n = x0.length + 1 - i ∧ Far ⟨x1, x0⟩ (600 * i) f)
    (fun b => ∃ f : Fer, b = .inl ((true, ()), ((⟨x1, x0⟩ : DImage), f.tup, (), (), ()))) (by
      rintro n a ⟨i, f, rfl, hi, rfl, hf⟩
      obtain ⟨g1, g2⟩ := round2 (by omega) hc i f hi hf
      by_cases hle : x0.length ≤ 600 * i + 600
      · obtain ⟨f', h4⟩ := g1 hle
        exact .inr ⟨_, h4, f', rfl⟩
      · exact .inl ⟨_, _, by omega, g2 (by omega), i + 1, _, rfl, by omega, rfl, .inl ⟨rfl, by simp only; omega⟩⟩) (n := x0.length + 1) ⟨0, fer0, rfl, by omega, by omega, .inr ⟨rfl, rfl⟩⟩
  obtain ⟨f, rfl⟩ := hq
  refine bindS hb ?_
  rfl
end
end Go.Proofs.Ytlaehnldaejipaa
