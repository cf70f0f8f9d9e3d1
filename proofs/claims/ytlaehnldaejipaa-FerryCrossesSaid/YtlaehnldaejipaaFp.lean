/- Ferries, plainly. -/
import Derived.Test.YtlaehnldaejipaaPk1
namespace Go.Proofs.Ytlaehnldaejipaa
open Go.RowKit
set_option maxRecDepth 100000
set_option linter.unusedVariables false
set_option linter.unusedSimpArgs false
theorem clone54_p {x : List Int} (h : x.length ≤ 1000000000) : clone54 x = some (x, ((), ())) := by unfold clone54; rw [if_pos (by omega)]
theorem clone34_p {x : List UInt8} (h : x.length ≤ 1000000000) : clone34 x = some (x, ((), ())) := by unfold clone34; rw [if_pos (by omega)]
/-- Configurations that a law lets by. -/
def DConfig.few (c : DConfig) : Prop := c.voters.length ≤ 1000000 ∧ c.old.length ≤ 1000000 ∧ c.learners.length ≤ 1000000 ∧ c.want.length ≤ 1000000
theorem DConfig.few.small {c : DConfig} (h : c.few) : c.small := by unfold DConfig.few at h; unfold DConfig.small; omega
theorem own_p {x : DBase} (h : x.config.few) : ferry_own x = some (x, ()) := by
  obtain ⟨h1, h2, h3, h4⟩ := h
  unfold ferry_own
  rw [clone54_p (by omega), clone54_p (by omega), clone54_p (by omega), clone54_p (by omega)]
  rfl
def let0 : DLetter := ⟨0, 0, 0, 0, 0, 0, 0, 0, false, [], ⟨0, 0, ⟨[], [], [], []⟩⟩, 0, 0, 0, []⟩
def img0 : DImage := ⟨⟨0, 0, ⟨[], [], [], []⟩⟩, []⟩
def askL (m : DImage) (at_ : Int) : DLetter := ⟨5, 0, 1, 2, 4, 0, 0, 0, false, [], m.base, 0, at_, 0, []⟩
theorem asks_p (m : DImage) (at_ : Int) : watershedlaw13_asks m at_ = some (askL m at_, ()) := rfl
def fillOk (x : DLetter) (m : DImage) : Prop := x.kind = 5 ∧ x.base.index = m.base.index ∧ x.base.term_ = m.base.term_ ∧ 0 ≤ x.at_ ∧ x.at_ ≤ m.bytes.length
instance (x : DLetter) (m : DImage) : Decidable (fillOk x m) := by unfold fillOk; infer_instance
def fillL (x : DLetter) (m : DImage) : DLetter := { x with entries := [], base := m.base, size := m.bytes.length, bytes := (m.bytes.drop x.at_.toNat).take 600 }
theorem Fill_p {x : DLetter} {m : DImage} (hc : m.base.config.few) (hb : m.bytes.length ≤ 1000000) : ferry_Fill x m = some (if fillOk x m then (fillL x m, true, ()) else (let0, false, ()), ()) := by
  unfold ferry_Fill
  rw [own_p hc]
  by_cases h1 : x.kind = 5
  · by_cases h2 : x.base.index = m.base.index
    · by_cases h3 : x.base.term_ = m.base.term_
      · by_cases h4 : x.at_ < 0
        · have hf : ¬ fillOk x m := by unfold fillOk; omega
          simp [h1, h2, h3, h4, hf, let0]
        · by_cases h5 : (m.bytes.length : Int) < x.at_
          · have hf : ¬ fillOk x m := by unfold fillOk; omega
            simp [h1, h2, h3, h4, h5, hf, let0]
          · have hf : fillOk x m := by unfold fillOk; omega
            have hw : IntKind.i64.wrap (x.at_ + 600) = x.at_ + 600 := w64 (by omega)
            simp only [h1, h2, h3, h4, h5, hf, hw, decide_true, decide_false, ne_eq, not_true_eq_false, cond_false, cond_true, if_true, Option.bind_some]
            have hlast : ∀ (y : Int), y = (if (m.bytes.length : Int) < x.at_ + 600 then (m.bytes.length : Int) else x.at_ + 600) → ((m.bytes.drop x.at_.toNat).take (y.toNat - x.at_.toNat)) = (m.bytes.drop x.at_.toNat).take 600 := by
              intro y hy
              rw [List.take_eq_take_iff]
              simp
              split at hy <;> omega
            rw [if_pos (by split <;> omega), hlast _ rfl, clone34_p (by simp; omega)]
            simp [fillL, h1]
      · have hf : ¬ fillOk x m := by unfold fillOk; omega
        simp [h1, h2, h3, hf, let0]
    · have hf : ¬ fillOk x m := by unfold fillOk; omega
      simp [h1, h2, hf, let0]
  · have hf : ¬ fillOk x m := by unfold fillOk; omega
    simp [h1, hf, let0]
structure Fer where
  term : Int
  index : Int
  base : Int
  size : Int
  has : Bool
  bs : List UInt8
  deriving DecidableEq
def fer0 : Fer := ⟨0, 0, 0, 0, false, []⟩
abbrev Fer.tup (f : Fer) : Int × Int × Int × Int × Bool × Bool × List UInt8 × Unit := (f.term, f.index, f.base, f.size, true, f.has, f.bs, ())
theorem New_p : ferry_New = some ((), (fer0.tup, (), ())) := rfl
theorem Drop_p (f : Fer) : ferry_Drop f.tup = some ((), (fer0.tup, (), (), ())) := rfl
theorem of_p (x : DLetter) : ferry_of x = some (⟨x.term_, x.base.index, x.base.term_, x.size⟩, ()) := rfl
def rightL (x : DLetter) : Prop := x.kind = 5 ∧ 0 ≤ x.size ∧ x.size ≤ 131072 ∧ 0 ≤ x.at_ ∧ x.at_ ≤ x.size ∧ (x.bytes.length : Int) ≤ x.size - x.at_
instance (x : DLetter) : Decidable (rightL x) := by unfold rightL; infer_instance
theorem right_p (x : DLetter) : ferry_right x = some (decide (rightL x), ()) := by
  unfold ferry_right rightL
  by_cases h1 : x.kind = 5 <;> by_cases h2 : 0 ≤ x.size <;> by_cases h3 : x.size ≤ 131072 <;> by_cases h4 : 0 ≤ x.at_ <;> by_cases h5 : x.at_ ≤ x.size <;> simp [h1, h2, h3, h4, h5]
  rw [w64 (by omega)]
theorem lay_p (t i b s : Int) (m h : Bool) (l bs : List UInt8) (h1 : l.length ≤ 1000000) (h2 : bs.length ≤ 1000000) : ferry_lay bs (t, i, b, s, m, h, l, ()) = some ((), ((t, i, b, s, m, h, l ++ bs, ()), (), (), ())) := by
  unfold ferry_lay
  rw [if_pos (by dsimp only; omega)]
def sameC (f : Fer) (x : DLetter) : Prop := f.has = true ∧ f.term = x.term_ ∧ f.index = x.base.index ∧ f.base = x.base.term_ ∧ f.size = x.size
instance (f : Fer) (x : DLetter) : Decidable (sameC f x) := by unfold sameC; infer_instance
def crossC (f : Fer) (x : DLetter) : Fer := if sameC f x then f else ⟨x.term_, x.base.index, x.base.term_, x.size, true, []⟩
/-- What a piece leaves. -/
def layL (f : Fer) (x : DLetter) : Fer := if x.at_ ≤ f.bs.length then { f with bs := f.bs ++ x.bytes.drop (f.bs.length - x.at_.toNat) } else f
def takeM (f : Fer) (x : DLetter) : (Int × Bool × DImage × Unit) × Fer :=
  if rightL x ∧ (sameC f x ∨ x.at_ = 0) then
    let g := layL (crossC f x) x
    if (g.bs.length : Int) < g.size then ((g.bs.length, false, img0, ()), g) else ((g.bs.length, true, ⟨x.base, g.bs⟩, ()), fer0)
  else ((0, false, img0, ()), f)
theorem cut_p (bs : List UInt8) (n : Nat) (at_ : Int) (h0 : 0 ≤ at_) (h : at_ ≤ n) (hn : n ≤ 1000000) (hb : bs.length ≤ 1000000) (y : Int) (hy : y = (if (bs.length : Int) < IntKind.i64.wrap ((n : Int) - at_) then (bs.length : Int) else IntKind.i64.wrap ((n : Int) - at_))) : (0 ≤ y ∧ y ≤ (bs.length : Int) ∧ (bs.length : Int) ≤ (bs.length : Int)) ∧ (bs.drop (y : Int).toNat).take (((bs.length : Int) : Int).toNat - (y : Int).toNat) = bs.drop (n - at_.toNat) := by
  rw [w64 (by omega)] at hy
  refine ⟨by split at hy <;> omega, ?_⟩
  rw [List.take_of_length_le (by simp)]
  split at hy
  · rw [List.drop_eq_nil_of_le (by omega), List.drop_eq_nil_of_le (by omega)]
  · congr 1; omega
/-- What a piece does behind the crossing. -/
def tailM (g : Fer) (x : DLetter) : (Int × Bool × DImage × Unit) × Fer :=
  let g := layL g x
  if (g.bs.length : Int) < g.size then ((g.bs.length, false, img0, ()), g) else ((g.bs.length, true, ⟨x.base, g.bs⟩, ()), fer0)
theorem tail_p (t i b s : Int) (m : Bool) (l : List UInt8) (x : DLetter) (hm : m = true) (hc : x.base.config.few) (hr : rightL x) (hl : l.length ≤ 1000000) (o : Unit × Unit × Unit) :
    (bif (decide ((x.at_ : Int) ≤ (l.length : Int))) then
      (let y4 : Int := (if ((x.bytes.length : Int) : Int) < (IntKind.i64.wrap ((l.length : Int) - x.at_)) then (x.bytes.length : Int) else (IntKind.i64.wrap ((l.length : Int) - x.at_)))
      (if 0 ≤ y4 ∧ y4 ≤ (x.bytes.length : Int) ∧ (x.bytes.length : Int) ≤ (x.bytes.length : Int) then
        (let y5 : List (UInt8) := ((x.bytes.drop (y4 : Int).toNat).take (((x.bytes.length : Int) : Int).toNat - (y4 : Int).toNat))
        (ferry_lay y5 (t, i, b, s, m, true, l, ())).bind fun r6 =>
        (bif (decide (((r6.2.1.2.2.2.2.2.2.1.length : Int) : Int) < r6.2.1.2.2.2.1)) then
          some (((r6.2.1.2.2.2.2.2.2.1.length : Int), false, (⟨(⟨0, 0, (⟨[], [], [], []⟩ : DConfig)⟩ : DBase), []⟩ : DImage), ()), ((r6.2.1.1, r6.2.1.2.1, r6.2.1.2.2.1, r6.2.1.2.2.2.1, r6.2.1.2.2.2.2.1, r6.2.1.2.2.2.2.2.1, r6.2.1.2.2.2.2.2.2.1, ()), o))
        else
          (ferry_own x.base).bind fun r7 =>
          (ferry_Drop (r6.2.1.1, r6.2.1.2.1, r6.2.1.2.2.1, r6.2.1.2.2.2.1, r6.2.1.2.2.2.2.1, r6.2.1.2.2.2.2.2.1, r6.2.1.2.2.2.2.2.2.1, ())).bind fun r8 =>
          some (((r6.2.1.2.2.2.2.2.2.1.length : Int), true, (⟨r7.1, r6.2.1.2.2.2.2.2.2.1⟩ : DImage), ()), ((r8.2.1.1, r8.2.1.2.1, r8.2.1.2.2.1, r8.2.1.2.2.2.1, r8.2.1.2.2.2.2.1, r8.2.1.2.2.2.2.2.1, r8.2.1.2.2.2.2.2.2.1, ()), o))))
      else none))
    else
      (bif (decide (((l.length : Int) : Int) < s)) then
        some (((l.length : Int), false, (⟨(⟨0, 0, (⟨[], [], [], []⟩ : DConfig)⟩ : DBase), []⟩ : DImage), ()), ((t, i, b, s, m, true, l, ()), o))
      else
        (ferry_own x.base).bind fun r9 =>
        (ferry_Drop (t, i, b, s, m, true, l, ())).bind fun r10 =>
        some (((l.length : Int), true, (⟨r9.1, l⟩ : DImage), ()), ((r10.2.1.1, r10.2.1.2.1, r10.2.1.2.2.1, r10.2.1.2.2.2.1, r10.2.1.2.2.2.2.1, r10.2.1.2.2.2.2.2.1, r10.2.1.2.2.2.2.2.2.1, ()), o))))
    = some ((tailM ⟨t, i, b, s, true, l⟩ x).1, ((tailM ⟨t, i, b, s, true, l⟩ x).2.tup, o)) := by
  subst hm
  obtain ⟨r1, r2, r3, r4, r5, r6⟩ := hr
  have hxl : x.bytes.length ≤ 1000000 := by omega
  rw [own_p hc]
  unfold tailM layL
  by_cases hat : x.at_ ≤ (l.length : Int)
  · obtain ⟨c1, c2⟩ := cut_p x.bytes l.length x.at_ r4 hat hl hxl _ rfl
    rw [decide_eq_true hat, cond_true]
    dsimp only
    rw [if_pos c1, c2, lay_p _ _ _ _ _ _ _ _ hl (by simp; omega), if_pos hat]
    simp only [Option.bind_some]
    by_cases hz : (((l ++ x.bytes.drop (l.length - x.at_.toNat)).length : Nat) : Int) < s
    · rw [decide_eq_true hz, if_pos hz]; rfl
    · rw [decide_eq_false hz, if_neg hz]; rfl
  · rw [decide_eq_false hat, cond_false]
    dsimp only
    rw [if_neg hat]
    by_cases hz : (l.length : Int) < s
    · rw [decide_eq_true hz, if_pos hz]; rfl
    · rw [decide_eq_false hz, if_neg hz]; rfl
theorem Take_p {f : Fer} {x : DLetter} (hf : f.bs.length ≤ 1000000) (hc : x.base.config.few) : ferry_Take x f.tup = some ((takeM f x).1, ((takeM f x).2.tup, (), (), ())) := by
  have hT : takeM f x = if rightL x ∧ (sameC f x ∨ x.at_ = 0) then tailM (crossC f x) x else ((0, false, img0, ()), f) := rfl
  obtain ⟨t, i, b, s, has, l⟩ := f
  unfold ferry_Take
  rw [right_p]
  simp only [Fer.tup, Bool.not_true, cond_false, Option.bind_some]
  by_cases hr : rightL x
  · rw [decide_eq_true hr]
    simp only [Bool.not_true, cond_false]
    cases has
    · have hns : ¬ sameC ⟨t, i, b, s, false, l⟩ x := by unfold sameC; simp
      have hg : crossC ⟨t, i, b, s, false, l⟩ x = ⟨x.term_, x.base.index, x.base.term_, x.size, true, []⟩ := by unfold crossC; rw [if_neg hns]
      by_cases h0 : x.at_ = 0
      · have hM := hT.trans (if_pos (⟨hr, .inr h0⟩ : rightL x ∧ (_ ∨ x.at_ = 0))); rw [hM, hg]
        have hd := Drop_p ⟨t, i, b, s, false, l⟩
        simp only [Fer.tup] at hd
        rw [hd, of_p]
        have hd0 : decide (x.at_ ≠ 0) = false := by simp [h0]
        simp only [Bool.not_false, cond_true, hd0, cond_false, Option.bind_some]
        exact tail_p x.term_ x.base.index x.base.term_ x.size true [] x rfl hc hr (by simp) ((), (), ())
      · have hM := hT.trans (if_neg (fun h => h.2.elim hns h0)); rw [hM]
        have hd0 : decide (x.at_ ≠ 0) = true := by simp [h0]
        simp only [Bool.not_false, cond_true, hd0]
        rfl
    · rw [of_p]
      simp only [Bool.not_true, cond_false, Option.bind_some]
      by_cases hs : sameC ⟨t, i, b, s, true, l⟩ x
      · have hg : crossC ⟨t, i, b, s, true, l⟩ x = ⟨t, i, b, s, true, l⟩ := by unfold crossC; rw [if_pos hs]
        have hM := hT.trans (if_pos (⟨hr, .inl hs⟩ : rightL x ∧ (_ ∨ x.at_ = 0))); rw [hM, hg]
        obtain ⟨_, s2, s3, s4, s5⟩ := hs
        simp only at s2 s3 s4 s5
        subst s2 s3 s4 s5
        simp only [decide_true, Bool.and_self, Bool.not_true, cond_false]
        exact tail_p x.term_ x.base.index x.base.term_ x.size true l x rfl hc hr hf ((), (), ())
      · have hg : crossC ⟨t, i, b, s, true, l⟩ x = ⟨x.term_, x.base.index, x.base.term_, x.size, true, []⟩ := by unfold crossC; rw [if_neg hs]
        have hne : (!(decide ((t : Int) = x.term_) && (decide ((i : Int) = x.base.index) && (decide ((b : Int) = x.base.term_) && (decide ((s : Int) = x.size) && true))))) = true := by
          rw [Bool.not_eq_true']
          refine Bool.eq_false_iff.2 fun hq => ?_
          simp only [Bool.and_eq_true, decide_eq_true_eq] at hq
          exact hs ⟨rfl, hq.1, hq.2.1, hq.2.2.1, hq.2.2.2.1⟩
        rw [hne, cond_true]
        by_cases h0 : x.at_ = 0
        · have hM := hT.trans (if_pos (⟨hr, .inr h0⟩ : rightL x ∧ (_ ∨ x.at_ = 0))); rw [hM, hg]
          have hd := Drop_p ⟨t, i, b, s, true, l⟩
          simp only [Fer.tup] at hd
          rw [hd]
          have hd0 : decide (x.at_ ≠ 0) = false := by simp [h0]
          simp only [hd0, cond_false, Option.bind_some]
          exact tail_p x.term_ x.base.index x.base.term_ x.size true [] x rfl hc hr (by simp) ((), (), ())
        · have hM := hT.trans (if_neg (fun h => h.2.elim hs h0)); rw [hM]
          have hd0 : decide (x.at_ ≠ 0) = true := by simp [h0]
          simp only [cond_true, hd0]
          rfl
  · have hM := hT.trans (if_neg (fun h => hr h.1)); rw [hM, decide_eq_false hr]
    rfl
end Go.Proofs.Ytlaehnldaejipaa
