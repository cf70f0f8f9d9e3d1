/- Take, of the ferry and of the document (written by plain13c.py). -/
import Derived.Test.YtlaehnldaejipaaFke
namespace Go.Proofs.Ytlaehnldaejipaa
open Go.RowKit
set_option maxRecDepth 100000
set_option linter.unusedVariables false
set_option linter.unusedSimpArgs false
/-- A ferry. -/
structure Fer where
  has : Bool
  t : Int
  i : Int
  b : Int
  s : Int
  bs : List UInt8
def fer0 : Fer := ⟨false, 0, 0, 0, 0, []⟩
def Fer.inv (f : Fer) : Prop := (f.has = false → f.bs = []) ∧ (f.has = true → 0 ≤ f.s ∧ f.s ≤ 131072 ∧ (f.bs.length : Int) ≤ f.s)
def rightX (x : DLetter) : Prop := x.kind = 5 ∧ 0 ≤ x.size ∧ x.size ≤ 131072 ∧ 0 ≤ x.at_ ∧ x.at_ ≤ x.size ∧ (x.bytes.length : Int) ≤ x.size - x.at_
instance (x : DLetter) : Decidable (rightX x) := by unfold rightX; infer_instance
def sameX (f : Fer) (x : DLetter) : Prop := f.t = x.term_ ∧ f.i = x.base.index ∧ f.b = x.base.term_ ∧ f.s = x.size
instance (f : Fer) (x : DLetter) : Decidable (sameX f x) := by unfold sameX; infer_instance
def bsX (f : Fer) (x : DLetter) : List UInt8 := if x.at_ ≤ f.bs.length then f.bs ++ x.bytes.drop (f.bs.length - x.at_.toNat) else f.bs
def tailX (f : Fer) (x : DLetter) : (Int × Bool × DImage) × Fer :=
  if ((bsX f x).length : Int) < f.s then ((((bsX f x).length : Int), false, img0), { f with bs := bsX f x }) else ((((bsX f x).length : Int), true, ⟨x.base, bsX f x⟩), fer0)
def anew (x : DLetter) : Fer := ⟨true, x.term_, x.base.index, x.base.term_, x.size, []⟩
def takeX (f : Fer) (x : DLetter) : (Int × Bool × DImage) × Fer :=
  if rightX x then
    if f.has = true ∧ sameX f x then tailX f x
    else if x.at_ = 0 then tailX (anew x) x else ((0, false, img0), f)
  else ((0, false, img0), f)
theorem bsX_len {f : Fer} {x : DLetter} (hr : rightX x) (hs : f.s = x.size) (hb : (f.bs.length : Int) ≤ f.s) : ((bsX f x).length : Int) ≤ f.s := by
  obtain ⟨h1, h2, h3, h4, h5, h6⟩ := hr
  unfold bsX
  split
  · simp; omega
  · exact hb
theorem anew_inv {x : DLetter} (hr : rightX x) : (anew x).inv := ⟨(fun h => by cases h), fun _ => ⟨hr.2.1, hr.2.2.1, hr.2.1⟩⟩
theorem fer0_inv : fer0.inv := ⟨fun _ => rfl, fun h => by cases h⟩
theorem tailX_inv {f : Fer} {x : DLetter} (hr : rightX x) (hs : f.s = x.size) (hf : f.inv) (hh : f.has = true) : (tailX f x).2.inv := by
  have hl := bsX_len hr hs (hf.2 hh).2.2
  unfold tailX
  split
  · exact ⟨fun h => by dsimp only at h; rw [hh] at h; exact absurd h (by decide), fun _ => ⟨(hf.2 hh).1, (hf.2 hh).2.1, hl⟩⟩
  · exact fer0_inv
theorem takeX_same {f : Fer} {x : DLetter} (hr : rightX x) (h : f.has = true ∧ sameX f x) : takeX f x = tailX f x := by unfold takeX; rw [if_pos hr, if_pos h]
theorem takeX_new {f : Fer} {x : DLetter} (hr : rightX x) (h : ¬ (f.has = true ∧ sameX f x)) (h0 : x.at_ = 0) : takeX f x = tailX (anew x) x := by unfold takeX; rw [if_pos hr, if_neg h, if_pos h0]
theorem takeX_late {f : Fer} {x : DLetter} (hr : rightX x) (h : ¬ (f.has = true ∧ sameX f x)) (h0 : ¬ x.at_ = 0) : takeX f x = ((0, false, img0), f) := by unfold takeX; rw [if_pos hr, if_neg h, if_neg h0]
theorem takeX_no {f : Fer} {x : DLetter} (hr : ¬ rightX x) : takeX f x = ((0, false, img0), f) := by unfold takeX; rw [if_neg hr]
theorem takeX_inv {f : Fer} {x : DLetter} (hf : f.inv) : (takeX f x).2.inv := by
  unfold takeX
  split
  · rename_i hr
    split
    · rename_i h; exact tailX_inv hr h.2.2.2.2 hf h.1
    · split
      · exact tailX_inv hr rfl (anew_inv hr) rfl
      · exact hf
  · exact hf
theorem tailX_few {f : Fer} {x : DLetter} (hr : rightX x) (hs : f.s = x.size) (hf : f.inv) (hh : f.has = true) (hc : x.base.config.few) : (tailX f x).1.2.2.few := by
  have hl := bsX_len hr hs (hf.2 hh).2.2
  have := (hf.2 hh).2.1
  unfold tailX
  split
  · exact img0_few
  · exact ⟨hc, by show (bsX f x).length ≤ 900000; omega⟩
theorem takeX_few {f : Fer} {x : DLetter} (hf : f.inv) (hc : x.base.config.few) : (takeX f x).1.2.2.few := by
  unfold takeX
  split
  · rename_i hr
    split
    · rename_i h; exact tailX_few hr h.2.2.2.2 hf h.1 hc
    · split
      · exact tailX_few hr rfl (anew_inv hr) rfl hc
      · exact img0_few
  · exact img0_few
abbrev ferT (f : Fer) : Int × Int × Int × Int × Bool × Bool × Nat × Unit := (f.t, f.i, f.b, f.s, true, f.has, f.bs.length, ())
abbrev refT (f : Fer) : Bool × Int × Int × Int × Int × List UInt8 × Unit := (f.has, f.t, f.i, f.b, f.s, f.bs, ())
abbrev imgT (m : DImage) : Int × Int × Nat × Nat × Nat × Nat × Nat × Unit := (m.base.index, m.base.term_, m.base.config.voters.length, m.base.config.old.length, m.base.config.learners.length, m.base.config.want.length, m.bytes.length, ())
theorem fDrop_p (t i b s : Int) (h : Bool) : ferry_Drop (t, i, b, s, true, h, (), ()) = some ((), (ferT fer0, [], ())) := rfl
theorem rDrop_p (h : Bool) (t i b s : Int) (l : List UInt8) : w13_Drop (h, t, i, b, s, l, ()) = some ((), (refT fer0, (), (), ())) := rfl
theorem drop_min {l : List UInt8} {k : Nat} {y : Int} (hy : y = if (l.length : Int) < k then (l.length : Int) else k) : l.drop y.toNat = l.drop k ∧ y.toNat ≤ l.length ∧ 0 ≤ y := by
  split at hy
  · subst hy
    refine ⟨?_, by simp, by omega⟩
    rw [List.drop_eq_nil_of_le (by simp), List.drop_eq_nil_of_le (by omega)]
  · subst hy
    exact ⟨by simp, by simp; omega, by omega⟩
noncomputable def tail2_m (x1 : (Int) × (Int) × (Int) × (Int) × (Int) × (Int) × (Int) × (Int) × (Bool) × (Nat × Nat × Nat × Unit) × (Int) × (Int) × (Nat × Nat × Nat) × (Nat × Nat × Nat) × (Nat × Nat × Nat) × (Nat × Nat × Nat) × (Int) × (Int) × (Int) × (Nat × Nat × Nat) × Unit) (h0 : (Int) × (Int) × (Int) × (Int) × (Bool) × (Bool) × (Nat) × Unit) (h1 : List (DEntryX)) (h2 : List (Int)) (h3 : List (Int)) (h4 : List (Int)) (h5 : List (Int)) (h6 : List (UInt8)) (h7 : List (UInt8)) (r10 : DCrossing × (List DEntryX × List Int × List Int × List Int × List Int × List UInt8 × Unit)) : Option (((Int) × (Bool) × ((Int) × (Int) × (Nat) × (Nat) × (Nat) × (Nat) × (Nat) × Unit) × Unit) × (((Int) × (Int) × (Int) × (Int) × (Bool) × (Bool) × (Nat) × Unit) × (List (DEntryX)) × (List (Int)) × (List (Int)) × (List (Int)) × (List (Int)) × (List (UInt8)) × (Unit) × (List (Int)) × (List (Int)) × (List (Int)) × (List (Int)) × (List (UInt8)) × (List (UInt8)) × Unit)) :=
  (bif (decide ((x1.2.2.2.2.2.2.2.2.2.2.2.2.2.2.2.2.2.1 : Int) ≤ ((h0.2.2.2.2.2.2.1 : Nat) : Int))) then
  let y19 : Int := (if (((x1.2.2.2.2.2.2.2.2.2.2.2.2.2.2.2.2.2.2.2.1.2.1 : Nat) : Int) : Int) < (IntKind.i64.wrap (((h0.2.2.2.2.2.2.1 : Nat) : Int) - x1.2.2.2.2.2.2.2.2.2.2.2.2.2.2.2.2.2.1)) then ((x1.2.2.2.2.2.2.2.2.2.2.2.2.2.2.2.2.2.2.2.1.2.1 : Nat) : Int) else (IntKind.i64.wrap (((h0.2.2.2.2.2.2.1 : Nat) : Int) - x1.2.2.2.2.2.2.2.2.2.2.2.2.2.2.2.2.2.1)))
  (if 0 ≤ ((y19 : Int) : Int) ∧ ((y19 : Int) : Int) ≤ ((x1.2.2.2.2.2.2.2.2.2.2.2.2.2.2.2.2.2.2.2.1.2.1 : Nat) : Int) ∧ ((x1.2.2.2.2.2.2.2.2.2.2.2.2.2.2.2.2.2.2.2.1.2.1 : Nat) : Int) ≤ ((x1.2.2.2.2.2.2.2.2.2.2.2.2.2.2.2.2.2.2.2.1.2.2 : Nat) : Int) ∧ ((x1.2.2.2.2.2.2.2.2.2.2.2.2.2.2.2.2.2.2.2.1.2.1 : Nat) : Int) ≤ 140737488355328 then
  (ferry_lay_2 ((x1.2.2.2.2.2.2.2.2.2.2.2.2.2.2.2.2.2.2.2.1.1 + (y19 : Int).toNat), (((x1.2.2.2.2.2.2.2.2.2.2.2.2.2.2.2.2.2.2.2.1.2.1 : Nat) : Int).toNat - (y19 : Int).toNat), (x1.2.2.2.2.2.2.2.2.2.2.2.2.2.2.2.2.2.2.2.1.2.2 - (y19 : Int).toNat)) (h0.1, h0.2.1, h0.2.2.1, h0.2.2.2.1, h0.2.2.2.2.1, h0.2.2.2.2.2.1, h0.2.2.2.2.2.2.1, ()) r10.2.2.2.2.2.2.1 h7).bind fun r20 =>
  (bif (decide ((((r20.2.1.2.2.2.2.2.2.1 : Nat) : Int) : Int) < r20.2.1.2.2.2.1)) then
  some ((((r20.2.1.2.2.2.2.2.2.1 : Nat) : Int), false, (0, 0, 0, 0, 0, 0, 0, ()), ()), ((r20.2.1.1, r20.2.1.2.1, r20.2.1.2.2.1, r20.2.1.2.2.2.1, r20.2.1.2.2.2.2.1, r20.2.1.2.2.2.2.2.1, r20.2.1.2.2.2.2.2.2.1, ()), r10.2.1, r10.2.2.1, r10.2.2.2.1, r10.2.2.2.2.1, r10.2.2.2.2.2.1, r20.2.2.1, (), [], [], [], [], [], r20.2.2.2.2.1, ()))
  else
  (ferry_own_3 (x1.2.2.2.2.2.2.2.2.2.2.1, x1.2.2.2.2.2.2.2.2.2.2.2.1, (x1.2.2.2.2.2.2.2.2.2.2.2.2.1.1, x1.2.2.2.2.2.2.2.2.2.2.2.2.1.2.1, x1.2.2.2.2.2.2.2.2.2.2.2.2.1.2.2), (x1.2.2.2.2.2.2.2.2.2.2.2.2.2.1.1, x1.2.2.2.2.2.2.2.2.2.2.2.2.2.1.2.1, x1.2.2.2.2.2.2.2.2.2.2.2.2.2.1.2.2), (x1.2.2.2.2.2.2.2.2.2.2.2.2.2.2.1.1, x1.2.2.2.2.2.2.2.2.2.2.2.2.2.2.1.2.1, x1.2.2.2.2.2.2.2.2.2.2.2.2.2.2.1.2.2), (x1.2.2.2.2.2.2.2.2.2.2.2.2.2.2.2.1.1, x1.2.2.2.2.2.2.2.2.2.2.2.2.2.2.2.1.2.1, x1.2.2.2.2.2.2.2.2.2.2.2.2.2.2.2.1.2.2), ()) r10.2.2.1 r10.2.2.2.1 r10.2.2.2.2.1 r10.2.2.2.2.2.1).bind fun r21 =>
  (ferry_Drop (r20.2.1.1, r20.2.1.2.1, r20.2.1.2.2.1, r20.2.1.2.2.2.1, r20.2.1.2.2.2.2.1, r20.2.1.2.2.2.2.2.1, (), ())).bind fun r22 =>
  some ((((r20.2.1.2.2.2.2.2.2.1 : Nat) : Int), true, (r21.1.1, r21.1.2.1, r21.1.2.2.1, r21.1.2.2.2.1, r21.1.2.2.2.2.1, r21.1.2.2.2.2.2.1, r20.2.1.2.2.2.2.2.2.1, ()), ()), ((r22.2.1.1, r22.2.1.2.1, r22.2.1.2.2.1, r22.2.1.2.2.2.1, r22.2.1.2.2.2.2.1, r22.2.1.2.2.2.2.2.1, r22.2.1.2.2.2.2.2.2.1, ()), r10.2.1, r21.2.1, r21.2.2.1, r21.2.2.2.1, r21.2.2.2.2.1, r20.2.2.1, (), r21.2.2.2.2.2.1, r21.2.2.2.2.2.2.1, r21.2.2.2.2.2.2.2.1, r21.2.2.2.2.2.2.2.2.1, r20.2.2.2.2.1, r22.2.2.1, ())))
  else none)
  else
  (bif (decide ((((h0.2.2.2.2.2.2.1 : Nat) : Int) : Int) < h0.2.2.2.1)) then
  some ((((h0.2.2.2.2.2.2.1 : Nat) : Int), false, (0, 0, 0, 0, 0, 0, 0, ()), ()), ((h0.1, h0.2.1, h0.2.2.1, h0.2.2.2.1, h0.2.2.2.2.1, h0.2.2.2.2.2.1, h0.2.2.2.2.2.2.1, ()), r10.2.1, r10.2.2.1, r10.2.2.2.1, r10.2.2.2.2.1, r10.2.2.2.2.2.1, r10.2.2.2.2.2.2.1, (), [], [], [], [], [], h7, ()))
  else
  (ferry_own_3 (x1.2.2.2.2.2.2.2.2.2.2.1, x1.2.2.2.2.2.2.2.2.2.2.2.1, (x1.2.2.2.2.2.2.2.2.2.2.2.2.1.1, x1.2.2.2.2.2.2.2.2.2.2.2.2.1.2.1, x1.2.2.2.2.2.2.2.2.2.2.2.2.1.2.2), (x1.2.2.2.2.2.2.2.2.2.2.2.2.2.1.1, x1.2.2.2.2.2.2.2.2.2.2.2.2.2.1.2.1, x1.2.2.2.2.2.2.2.2.2.2.2.2.2.1.2.2), (x1.2.2.2.2.2.2.2.2.2.2.2.2.2.2.1.1, x1.2.2.2.2.2.2.2.2.2.2.2.2.2.2.1.2.1, x1.2.2.2.2.2.2.2.2.2.2.2.2.2.2.1.2.2), (x1.2.2.2.2.2.2.2.2.2.2.2.2.2.2.2.1.1, x1.2.2.2.2.2.2.2.2.2.2.2.2.2.2.2.1.2.1, x1.2.2.2.2.2.2.2.2.2.2.2.2.2.2.2.1.2.2), ()) r10.2.2.1 r10.2.2.2.1 r10.2.2.2.2.1 r10.2.2.2.2.2.1).bind fun r23 =>
  (ferry_Drop (h0.1, h0.2.1, h0.2.2.1, h0.2.2.2.1, h0.2.2.2.2.1, h0.2.2.2.2.2.1, (), ())).bind fun r24 =>
  some ((((h0.2.2.2.2.2.2.1 : Nat) : Int), true, (r23.1.1, r23.1.2.1, r23.1.2.2.1, r23.1.2.2.2.1, r23.1.2.2.2.2.1, r23.1.2.2.2.2.2.1, h0.2.2.2.2.2.2.1, ()), ()), ((r24.2.1.1, r24.2.1.2.1, r24.2.1.2.2.1, r24.2.1.2.2.2.1, r24.2.1.2.2.2.2.1, r24.2.1.2.2.2.2.2.1, r24.2.1.2.2.2.2.2.2.1, ()), r10.2.1, r23.2.1, r23.2.2.1, r23.2.2.2.1, r23.2.2.2.2.1, r10.2.2.2.2.2.2.1, (), r23.2.2.2.2.2.1, r23.2.2.2.2.2.2.1, r23.2.2.2.2.2.2.2.1, r23.2.2.2.2.2.2.2.2.1, h7, r24.2.2.1, ()))))
theorem right2_p {x : DLetter} {h0 : List DEntryX} {h1 : List Int} {h2 : List Int} {h3 : List Int} {h4 : List Int} {h5 : List UInt8} : ferry_right_2 (lentL x) h0 h1 h2 h3 h4 h5 = some (decide (rightX x), (h0, h1, h2, h3, h4, h5, ())) := by
  unfold ferry_right_2 rightX
  by_cases h1 : x.kind = 5
  · refine condT (dT h1) ?_
    by_cases h2 : 0 ≤ x.size
    · refine condT (dT h2) ?_
      by_cases h3 : x.size ≤ 131072
      · refine condT (dT h3) ?_
        by_cases h4 : 0 ≤ x.at_
        · refine condT (dT h4) ?_
          by_cases h5 : x.at_ ≤ x.size
          · refine condT (dT h5) ?_
            dsimp only
            rw [w64 (n := x.size - x.at_) (by omega)]
            simp [h1, h2, h3, h4, h5]
          · exact condF (dF h5) (by simp [h5])
        · exact condF (dF h4) (by simp [h4])
      · exact condF (dF h3) (by simp [h3])
    · exact condF (dF h2) (by simp [h2])
  · exact condF (dF h1) (by simp [h1])
theorem lay2_p {l t4 bs : List UInt8} {a b c d : Int} {hm hh : Bool} {y : Int} {cp : Nat} (hy : y.toNat ≤ l.length) (hb : bs.length + l.length ≤ 1000000) : ferry_lay_2 ((0 + y.toNat), (((l.length : Nat) : Int).toNat - y.toNat), (cp - y.toNat)) (a, b, c, d, hm, hh, bs.length, ()) (l ++ t4) bs = some ((), ((a, b, c, d, hm, hh, (bs ++ l.drop y.toNat).length, ()), l ++ t4, (), bs ++ l.drop y.toNat, ())) := by
  unfold ferry_lay_2
  have h1 : ((l ++ t4).drop (0 + y.toNat)).take (((l.length : Nat) : Int).toNat - y.toNat) = l.drop y.toNat := by
    rw [Nat.zero_add, List.drop_append_of_le_length hy, List.take_append_of_le_length (by simp), List.take_of_length_le (by simp)]
  refine iteT (by dsimp only; simp; omega) ?_
  dsimp only
  rw [h1]
  refine iteT ⟨by simp; omega, by simp; omega, by simp⟩ ?_
  simp
theorem tail2_p {f : Fer} {x : DLetter} {c : DCrossing} {hE : List DEntryX} {t0 t1 t2 t3 : List Int} {t4 : List UInt8} (hr : rightX x) (hs : f.s = x.size) (hf : f.inv) (hh : f.has = true) (hc : x.base.config.few) (ht : t4.length = 12) : tail2_m (lentL x) (ferT f) hE (x.base.config.voters ++ t0) (x.base.config.old ++ t1) (x.base.config.learners ++ t2) (x.base.config.want ++ t3) (x.bytes ++ t4) f.bs (c, (hE, (x.base.config.voters ++ t0), (x.base.config.old ++ t1), (x.base.config.learners ++ t2), (x.base.config.want ++ t3), (x.bytes ++ t4), ())) = some (((tailX f x).1.1, (tailX f x).1.2.1, imgT (tailX f x).1.2.2, ()), (ferT (tailX f x).2, hE, (x.base.config.voters ++ t0), (x.base.config.old ++ t1), (x.base.config.learners ++ t2), (x.base.config.want ++ t3), (x.bytes ++ t4), (), (tailX f x).1.2.2.base.config.voters, (tailX f x).1.2.2.base.config.old, (tailX f x).1.2.2.base.config.learners, (tailX f x).1.2.2.base.config.want, (tailX f x).1.2.2.bytes, (tailX f x).2.bs, ())) := by
  obtain ⟨h1, h2, h3, h4, h5, h6⟩ := id hr
  obtain ⟨g1, g2, g3⟩ := hf.2 hh
  obtain ⟨a, ha⟩ : ∃ a : Nat, x.at_ = (a : Int) := ⟨x.at_.toNat, by omega⟩
  obtain ⟨has, t, i, b, s, bs⟩ := f
  simp only at hs hh g1 g2 g3
  subst hh
  unfold tail2_m
  by_cases hk : x.at_ ≤ bs.length
  · have hb : bsX ⟨true, t, i, b, s, bs⟩ x = bs ++ x.bytes.drop (bs.length - a) := by
      unfold bsX
      rw [if_pos hk, ha, Int.toNat_natCast]
    obtain ⟨y, hyd⟩ : ∃ y : Int, y = if (x.bytes.length : Int) < ((bs.length - a : Nat) : Int) then (x.bytes.length : Int) else ((bs.length - a : Nat) : Int) := ⟨_, rfl⟩
    obtain ⟨d1, d2, d3⟩ := drop_min hyd
    rw [← d1] at hb
    refine condT (dT hk) ?_
    dsimp only
    rw [w64 (n := (bs.length : Int) - x.at_) (by omega), show (bs.length : Int) - x.at_ = ((bs.length - a : Nat) : Int) from by omega, ← hyd]
    refine iteT ⟨by omega, by omega, by omega, by omega⟩ ?_
    refine bindS (lay2_p d2 (by omega)) ?_
    dsimp only
    unfold tailX
    rw [hb]
    by_cases hl : ((bs ++ x.bytes.drop y.toNat).length : Int) < s
    · rw [if_pos hl]
      exact condT (dT hl) rfl
    · rw [if_neg hl]
      exact condF (dF hl) (bindS (own_3_p hc) rfl)
  · have hb : bsX ⟨true, t, i, b, s, bs⟩ x = bs := if_neg hk
    refine condF (dF hk) ?_
    dsimp only
    unfold tailX
    rw [hb]
    by_cases hl : (bs.length : Int) < s
    · rw [if_pos hl]
      exact condT (dT hl) rfl
    · rw [if_neg hl]
      exact condF (dF hl) (bindS (own_3_p hc) rfl)
theorem Take2_p {f : Fer} {x : DLetter} {hE : List DEntryX} {t0 t1 t2 t3 : List Int} {t4 : List UInt8} (hf : f.inv) (hc : x.base.config.few) (ht : t4.length = 12) : ferry_Take_2 (lentL x) (ferT f) hE (x.base.config.voters ++ t0) (x.base.config.old ++ t1) (x.base.config.learners ++ t2) (x.base.config.want ++ t3) (x.bytes ++ t4) f.bs = some (((takeX f x).1.1, (takeX f x).1.2.1, imgT (takeX f x).1.2.2, ()), (ferT (takeX f x).2, hE, (x.base.config.voters ++ t0), (x.base.config.old ++ t1), (x.base.config.learners ++ t2), (x.base.config.want ++ t3), (x.bytes ++ t4), (), (takeX f x).1.2.2.base.config.voters, (takeX f x).1.2.2.base.config.old, (takeX f x).1.2.2.base.config.learners, (takeX f x).1.2.2.base.config.want, (takeX f x).1.2.2.bytes, (takeX f x).2.bs, ())) := by
  unfold ferry_Take_2
  refine condF (nF rfl) (bindS right2_p ?_)
  by_cases hr : rightX x
  · refine condF (nF (dT hr)) ?_
    obtain ⟨has, t, i, b, s, bs⟩ := f
    cases has
    · refine condT rfl ?_
      by_cases h0 : x.at_ = 0
      · rw [takeX_new hr (fun h => by cases h.1) h0]
        exact condF (dF (by show ¬ x.at_ ≠ 0; omega)) (tail2_p (f := anew x) (c := ⟨x.term_, x.base.index, x.base.term_, x.size⟩) hr rfl (anew_inv hr) rfl hc ht)
      · rw [takeX_late hr (fun h => by cases h.1) h0]
        exact condT (dT h0) rfl
    · refine condF rfl (bindS (v := (⟨x.term_, x.base.index, x.base.term_, x.size⟩, (hE, (x.base.config.voters ++ t0), (x.base.config.old ++ t1), (x.base.config.learners ++ t2), (x.base.config.want ++ t3), (x.bytes ++ t4), ()))) rfl ?_)
      by_cases hs : sameX ⟨true, t, i, b, s, bs⟩ x
      · rw [takeX_same hr ⟨rfl, hs⟩]
        refine condF ?_ (tail2_p (f := ⟨true, t, i, b, s, bs⟩) (c := ⟨x.term_, x.base.index, x.base.term_, x.size⟩) hr hs.2.2.2 hf rfl hc ht)
        obtain ⟨s1, s2, s3, s4⟩ := hs
        dsimp only at s1 s2 s3 s4
        simp [s1, s2, s3, s4]
      · refine condT ?_ ?_
        · unfold sameX at hs
          dsimp only at hs
          simp only [Bool.and_true, Bool.not_eq_true', Bool.and_eq_false_iff, decide_eq_false_iff_not]
          omega
        · by_cases h0 : x.at_ = 0
          · rw [takeX_new hr (fun h => hs h.2) h0]
            exact condF (dF (by show ¬ x.at_ ≠ 0; omega)) (tail2_p (f := anew x) (c := ⟨x.term_, x.base.index, x.base.term_, x.size⟩) hr rfl (anew_inv hr) rfl hc ht)
          · rw [takeX_late hr (fun h => hs h.2) h0]
            exact condT (dT h0) rfl
  · rw [takeX_no hr]
    exact condT (nT (dF hr)) rfl
noncomputable def tail1_m (x1 : (Int) × (Int) × (Int) × (Int) × (Int) × (Int) × (Int) × (Int) × (Bool) × (Unit) × (Int) × (Int) × (Nat) × (Nat) × (Nat) × (Nat) × (Int) × (Int) × (Int) × (Nat) × Unit) (h0 : (Int) × (Int) × (Int) × (Int) × (Bool) × (Bool) × (Nat) × Unit) (h1 : List (Int)) (h2 : List (Int)) (h3 : List (Int)) (h4 : List (Int)) (h5 : List (UInt8)) (h6 : List (UInt8)) (r10 : DCrossing × (List Int × List Int × List Int × List Int × List UInt8 × Unit)) : Option (((Int) × (Bool) × ((Int) × (Int) × (Nat) × (Nat) × (Nat) × (Nat) × (Nat) × Unit) × Unit) × (((Int) × (Int) × (Int) × (Int) × (Bool) × (Bool) × (Nat) × Unit) × (List (Int)) × (List (Int)) × (List (Int)) × (List (Int)) × (List (UInt8)) × (Unit) × (List (Int)) × (List (Int)) × (List (Int)) × (List (Int)) × (List (UInt8)) × (List (UInt8)) × Unit)) :=
  (bif (decide ((x1.2.2.2.2.2.2.2.2.2.2.2.2.2.2.2.2.2.1 : Int) ≤ ((h0.2.2.2.2.2.2.1 : Nat) : Int))) then
  let y19 : Int := (if (((x1.2.2.2.2.2.2.2.2.2.2.2.2.2.2.2.2.2.2.2.1 : Nat) : Int) : Int) < (IntKind.i64.wrap (((h0.2.2.2.2.2.2.1 : Nat) : Int) - x1.2.2.2.2.2.2.2.2.2.2.2.2.2.2.2.2.2.1)) then ((x1.2.2.2.2.2.2.2.2.2.2.2.2.2.2.2.2.2.2.2.1 : Nat) : Int) else (IntKind.i64.wrap (((h0.2.2.2.2.2.2.1 : Nat) : Int) - x1.2.2.2.2.2.2.2.2.2.2.2.2.2.2.2.2.2.1)))
  (if 0 ≤ ((y19 : Int) : Int) ∧ ((y19 : Int) : Int) ≤ ((x1.2.2.2.2.2.2.2.2.2.2.2.2.2.2.2.2.2.2.2.1 : Nat) : Int) ∧ ((x1.2.2.2.2.2.2.2.2.2.2.2.2.2.2.2.2.2.2.2.1 : Nat) : Int) ≤ ((x1.2.2.2.2.2.2.2.2.2.2.2.2.2.2.2.2.2.2.2.1 : Nat) : Int) ∧ ((x1.2.2.2.2.2.2.2.2.2.2.2.2.2.2.2.2.2.2.2.1 : Nat) : Int) ≤ 140737488355328 then
  (ferry_lay ((0 + (y19 : Int).toNat), (((x1.2.2.2.2.2.2.2.2.2.2.2.2.2.2.2.2.2.2.2.1 : Nat) : Int).toNat - (y19 : Int).toNat)) (h0.1, h0.2.1, h0.2.2.1, h0.2.2.2.1, h0.2.2.2.2.1, h0.2.2.2.2.2.1, h0.2.2.2.2.2.2.1, ()) r10.2.2.2.2.2.1 h6).bind fun r20 =>
  (bif (decide ((((r20.2.1.2.2.2.2.2.2.1 : Nat) : Int) : Int) < r20.2.1.2.2.2.1)) then
  some ((((r20.2.1.2.2.2.2.2.2.1 : Nat) : Int), false, (0, 0, 0, 0, 0, 0, 0, ()), ()), ((r20.2.1.1, r20.2.1.2.1, r20.2.1.2.2.1, r20.2.1.2.2.2.1, r20.2.1.2.2.2.2.1, r20.2.1.2.2.2.2.2.1, r20.2.1.2.2.2.2.2.2.1, ()), r10.2.1, r10.2.2.1, r10.2.2.2.1, r10.2.2.2.2.1, r20.2.2.1, (), [], [], [], [], [], r20.2.2.2.2.1, ()))
  else
  (ferry_own_2 (x1.2.2.2.2.2.2.2.2.2.2.1, x1.2.2.2.2.2.2.2.2.2.2.2.1, x1.2.2.2.2.2.2.2.2.2.2.2.2.1, x1.2.2.2.2.2.2.2.2.2.2.2.2.2.1, x1.2.2.2.2.2.2.2.2.2.2.2.2.2.2.1, x1.2.2.2.2.2.2.2.2.2.2.2.2.2.2.2.1, ()) r10.2.1 r10.2.2.1 r10.2.2.2.1 r10.2.2.2.2.1).bind fun r21 =>
  (ferry_Drop (r20.2.1.1, r20.2.1.2.1, r20.2.1.2.2.1, r20.2.1.2.2.2.1, r20.2.1.2.2.2.2.1, r20.2.1.2.2.2.2.2.1, (), ())).bind fun r22 =>
  some ((((r20.2.1.2.2.2.2.2.2.1 : Nat) : Int), true, (r21.1.1, r21.1.2.1, r21.1.2.2.1, r21.1.2.2.2.1, r21.1.2.2.2.2.1, r21.1.2.2.2.2.2.1, r20.2.1.2.2.2.2.2.2.1, ()), ()), ((r22.2.1.1, r22.2.1.2.1, r22.2.1.2.2.1, r22.2.1.2.2.2.1, r22.2.1.2.2.2.2.1, r22.2.1.2.2.2.2.2.1, r22.2.1.2.2.2.2.2.2.1, ()), r21.2.1, r21.2.2.1, r21.2.2.2.1, r21.2.2.2.2.1, r20.2.2.1, (), r21.2.2.2.2.2.1, r21.2.2.2.2.2.2.1, r21.2.2.2.2.2.2.2.1, r21.2.2.2.2.2.2.2.2.1, r20.2.2.2.2.1, r22.2.2.1, ())))
  else none)
  else
  (bif (decide ((((h0.2.2.2.2.2.2.1 : Nat) : Int) : Int) < h0.2.2.2.1)) then
  some ((((h0.2.2.2.2.2.2.1 : Nat) : Int), false, (0, 0, 0, 0, 0, 0, 0, ()), ()), ((h0.1, h0.2.1, h0.2.2.1, h0.2.2.2.1, h0.2.2.2.2.1, h0.2.2.2.2.2.1, h0.2.2.2.2.2.2.1, ()), r10.2.1, r10.2.2.1, r10.2.2.2.1, r10.2.2.2.2.1, r10.2.2.2.2.2.1, (), [], [], [], [], [], h6, ()))
  else
  (ferry_own_2 (x1.2.2.2.2.2.2.2.2.2.2.1, x1.2.2.2.2.2.2.2.2.2.2.2.1, x1.2.2.2.2.2.2.2.2.2.2.2.2.1, x1.2.2.2.2.2.2.2.2.2.2.2.2.2.1, x1.2.2.2.2.2.2.2.2.2.2.2.2.2.2.1, x1.2.2.2.2.2.2.2.2.2.2.2.2.2.2.2.1, ()) r10.2.1 r10.2.2.1 r10.2.2.2.1 r10.2.2.2.2.1).bind fun r23 =>
  (ferry_Drop (h0.1, h0.2.1, h0.2.2.1, h0.2.2.2.1, h0.2.2.2.2.1, h0.2.2.2.2.2.1, (), ())).bind fun r24 =>
  some ((((h0.2.2.2.2.2.2.1 : Nat) : Int), true, (r23.1.1, r23.1.2.1, r23.1.2.2.1, r23.1.2.2.2.1, r23.1.2.2.2.2.1, r23.1.2.2.2.2.2.1, h0.2.2.2.2.2.2.1, ()), ()), ((r24.2.1.1, r24.2.1.2.1, r24.2.1.2.2.1, r24.2.1.2.2.2.1, r24.2.1.2.2.2.2.1, r24.2.1.2.2.2.2.2.1, r24.2.1.2.2.2.2.2.2.1, ()), r23.2.1, r23.2.2.1, r23.2.2.2.1, r23.2.2.2.2.1, r10.2.2.2.2.2.1, (), r23.2.2.2.2.2.1, r23.2.2.2.2.2.2.1, r23.2.2.2.2.2.2.2.1, r23.2.2.2.2.2.2.2.2.1, h6, r24.2.2.1, ()))))
theorem cloneEz54_p {xs t : List Int} (h : xs.length ≤ 1000000) : cloneEz54 xs.length (xs ++ t) = some (xs.length, (xs ++ t, xs, ())) := by
  unfold cloneEz54
  have : (xs ++ t).take xs.length = xs := by simp
  refine iteT (by rw [this]; exact ⟨by simp, by omega, by omega⟩) ?_
  rw [this]
theorem own_2_p {b : DBase} {t0 t1 t2 t3 : List Int} (h : b.config.few) : ferry_own_2 (b.index, b.term_, b.config.voters.length, b.config.old.length, b.config.learners.length, b.config.want.length, ()) (b.config.voters ++ t0) (b.config.old ++ t1) (b.config.learners ++ t2) (b.config.want ++ t3) = some ((b.index, b.term_, b.config.voters.length, b.config.old.length, b.config.learners.length, b.config.want.length, ()), (b.config.voters ++ t0, b.config.old ++ t1, b.config.learners ++ t2, b.config.want ++ t3, b.config.voters, b.config.old, b.config.learners, b.config.want, ())) :=
  bindS (cloneEz54_p h.1) (bindS (cloneEz54_p h.2.1) (bindS (cloneEz54_p h.2.2.1) (bindS (cloneEz54_p h.2.2.2) rfl)))
theorem right1_p {x : DLetter} {h0 : List Int} {h1 : List Int} {h2 : List Int} {h3 : List Int} {h4 : List UInt8} : ferry_right (ownL x) h0 h1 h2 h3 h4 = some (decide (rightX x), (h0, h1, h2, h3, h4, ())) := by
  unfold ferry_right rightX
  by_cases h1 : x.kind = 5
  · refine condT (dT h1) ?_
    by_cases h2 : 0 ≤ x.size
    · refine condT (dT h2) ?_
      by_cases h3 : x.size ≤ 131072
      · refine condT (dT h3) ?_
        by_cases h4 : 0 ≤ x.at_
        · refine condT (dT h4) ?_
          by_cases h5 : x.at_ ≤ x.size
          · refine condT (dT h5) ?_
            dsimp only
            rw [w64 (n := x.size - x.at_) (by omega)]
            simp [h1, h2, h3, h4, h5]
          · exact condF (dF h5) (by simp [h5])
        · exact condF (dF h4) (by simp [h4])
      · exact condF (dF h3) (by simp [h3])
    · exact condF (dF h2) (by simp [h2])
  · exact condF (dF h1) (by simp [h1])
theorem lay1_p {l t4 bs : List UInt8} {a b c d : Int} {hm hh : Bool} {y : Int} (hy : y.toNat ≤ l.length) (hb : bs.length + l.length ≤ 1000000) : ferry_lay ((0 + y.toNat), (((l.length : Nat) : Int).toNat - y.toNat)) (a, b, c, d, hm, hh, bs.length, ()) (l ++ t4) bs = some ((), ((a, b, c, d, hm, hh, (bs ++ l.drop y.toNat).length, ()), l ++ t4, (), bs ++ l.drop y.toNat, ())) := by
  unfold ferry_lay
  have h1 : ((l ++ t4).drop (0 + y.toNat)).take (((l.length : Nat) : Int).toNat - y.toNat) = l.drop y.toNat := by
    rw [Nat.zero_add, List.drop_append_of_le_length hy, List.take_append_of_le_length (by simp), List.take_of_length_le (by simp)]
  refine iteT (by dsimp only; simp; omega) ?_
  dsimp only
  rw [h1]
  refine iteT ⟨by simp; omega, by simp; omega, by simp⟩ ?_
  simp
theorem tail1_p {f : Fer} {x : DLetter} {c : DCrossing} {t0 t1 t2 t3 : List Int} {t4 : List UInt8} (hr : rightX x) (hs : f.s = x.size) (hf : f.inv) (hh : f.has = true) (hc : x.base.config.few) : tail1_m (ownL x) (ferT f) (x.base.config.voters ++ t0) (x.base.config.old ++ t1) (x.base.config.learners ++ t2) (x.base.config.want ++ t3) (x.bytes ++ t4) f.bs (c, ((x.base.config.voters ++ t0), (x.base.config.old ++ t1), (x.base.config.learners ++ t2), (x.base.config.want ++ t3), (x.bytes ++ t4), ())) = some (((tailX f x).1.1, (tailX f x).1.2.1, imgT (tailX f x).1.2.2, ()), (ferT (tailX f x).2, (x.base.config.voters ++ t0), (x.base.config.old ++ t1), (x.base.config.learners ++ t2), (x.base.config.want ++ t3), (x.bytes ++ t4), (), (tailX f x).1.2.2.base.config.voters, (tailX f x).1.2.2.base.config.old, (tailX f x).1.2.2.base.config.learners, (tailX f x).1.2.2.base.config.want, (tailX f x).1.2.2.bytes, (tailX f x).2.bs, ())) := by
  obtain ⟨h1, h2, h3, h4, h5, h6⟩ := id hr
  obtain ⟨g1, g2, g3⟩ := hf.2 hh
  obtain ⟨a, ha⟩ : ∃ a : Nat, x.at_ = (a : Int) := ⟨x.at_.toNat, by omega⟩
  obtain ⟨has, t, i, b, s, bs⟩ := f
  simp only at hs hh g1 g2 g3
  subst hh
  unfold tail1_m
  by_cases hk : x.at_ ≤ bs.length
  · have hb : bsX ⟨true, t, i, b, s, bs⟩ x = bs ++ x.bytes.drop (bs.length - a) := by
      unfold bsX
      rw [if_pos hk, ha, Int.toNat_natCast]
    obtain ⟨y, hyd⟩ : ∃ y : Int, y = if (x.bytes.length : Int) < ((bs.length - a : Nat) : Int) then (x.bytes.length : Int) else ((bs.length - a : Nat) : Int) := ⟨_, rfl⟩
    obtain ⟨d1, d2, d3⟩ := drop_min hyd
    rw [← d1] at hb
    refine condT (dT hk) ?_
    dsimp only
    rw [w64 (n := (bs.length : Int) - x.at_) (by omega), show (bs.length : Int) - x.at_ = ((bs.length - a : Nat) : Int) from by omega, ← hyd]
    refine iteT ⟨by omega, by omega, by omega, by omega⟩ ?_
    refine bindS (lay1_p d2 (by omega)) ?_
    dsimp only
    unfold tailX
    rw [hb]
    by_cases hl : ((bs ++ x.bytes.drop y.toNat).length : Int) < s
    · rw [if_pos hl]
      exact condT (dT hl) rfl
    · rw [if_neg hl]
      exact condF (dF hl) (bindS (own_2_p hc) rfl)
  · have hb : bsX ⟨true, t, i, b, s, bs⟩ x = bs := if_neg hk
    refine condF (dF hk) ?_
    dsimp only
    unfold tailX
    rw [hb]
    by_cases hl : (bs.length : Int) < s
    · rw [if_pos hl]
      exact condT (dT hl) rfl
    · rw [if_neg hl]
      exact condF (dF hl) (bindS (own_2_p hc) rfl)
theorem Take1_p {f : Fer} {x : DLetter} {t0 t1 t2 t3 : List Int} {t4 : List UInt8} (hf : f.inv) (hc : x.base.config.few) : ferry_Take (ownL x) (ferT f) (x.base.config.voters ++ t0) (x.base.config.old ++ t1) (x.base.config.learners ++ t2) (x.base.config.want ++ t3) (x.bytes ++ t4) f.bs = some (((takeX f x).1.1, (takeX f x).1.2.1, imgT (takeX f x).1.2.2, ()), (ferT (takeX f x).2, (x.base.config.voters ++ t0), (x.base.config.old ++ t1), (x.base.config.learners ++ t2), (x.base.config.want ++ t3), (x.bytes ++ t4), (), (takeX f x).1.2.2.base.config.voters, (takeX f x).1.2.2.base.config.old, (takeX f x).1.2.2.base.config.learners, (takeX f x).1.2.2.base.config.want, (takeX f x).1.2.2.bytes, (takeX f x).2.bs, ())) := by
  unfold ferry_Take
  refine condF (nF rfl) (bindS right1_p ?_)
  by_cases hr : rightX x
  · refine condF (nF (dT hr)) ?_
    obtain ⟨has, t, i, b, s, bs⟩ := f
    cases has
    · refine condT rfl ?_
      by_cases h0 : x.at_ = 0
      · rw [takeX_new hr (fun h => by cases h.1) h0]
        exact condF (dF (by show ¬ x.at_ ≠ 0; omega)) (tail1_p (f := anew x) (c := ⟨x.term_, x.base.index, x.base.term_, x.size⟩) hr rfl (anew_inv hr) rfl hc)
      · rw [takeX_late hr (fun h => by cases h.1) h0]
        exact condT (dT h0) rfl
    · refine condF rfl (bindS (v := (⟨x.term_, x.base.index, x.base.term_, x.size⟩, ((x.base.config.voters ++ t0), (x.base.config.old ++ t1), (x.base.config.learners ++ t2), (x.base.config.want ++ t3), (x.bytes ++ t4), ()))) rfl ?_)
      by_cases hs : sameX ⟨true, t, i, b, s, bs⟩ x
      · rw [takeX_same hr ⟨rfl, hs⟩]
        refine condF ?_ (tail1_p (f := ⟨true, t, i, b, s, bs⟩) (c := ⟨x.term_, x.base.index, x.base.term_, x.size⟩) hr hs.2.2.2 hf rfl hc)
        obtain ⟨s1, s2, s3, s4⟩ := hs
        dsimp only at s1 s2 s3 s4
        simp [s1, s2, s3, s4]
      · refine condT ?_ ?_
        · unfold sameX at hs
          dsimp only at hs
          simp only [Bool.and_true, Bool.not_eq_true', Bool.and_eq_false_iff, decide_eq_false_iff_not]
          omega
        · by_cases h0 : x.at_ = 0
          · rw [takeX_new hr (fun h => hs h.2) h0]
            exact condF (dF (by show ¬ x.at_ ≠ 0; omega)) (tail1_p (f := anew x) (c := ⟨x.term_, x.base.index, x.base.term_, x.size⟩) hr rfl (anew_inv hr) rfl hc)
          · rw [takeX_late hr (fun h => hs h.2) h0]
            exact condT (dT h0) rfl
  · rw [takeX_no hr]
    exact condT (nT (dF hr)) rfl
noncomputable def tailR_m (x1 : DLetter) (h0 : (Bool) × (Int) × (Int) × (Int) × (Int) × (List (UInt8)) × Unit) : Option (((Int) × (Bool) × (DImage) × Unit) × (((Bool) × (Int) × (Int) × (Int) × (Int) × (List (UInt8)) × Unit) × (Unit) × (Unit) × Unit)) :=
  (loopM w13_Take_l1 (((), (), (), 0, ()), ((h0.1, h0.2.1, h0.2.2.1, h0.2.2.2.1, h0.2.2.2.2.1, h0.2.2.2.2.2.1, ()), x1, (0, 0, [], [], [], [], [], ()), (), (), (), (), (), (), ()))).bind fun b16 =>
  (bif (decide (((b16.2.1.2.2.2.2.2.1.length : Int) : Int) < b16.2.1.2.2.2.2.1)) then
  some (((b16.2.1.2.2.2.2.2.1.length : Int), false, (⟨(⟨0, 0, (⟨[], [], [], []⟩ : DConfig)⟩ : DBase), []⟩ : DImage), ()), ((b16.2.1.1, b16.2.1.2.1, b16.2.1.2.2.1, b16.2.1.2.2.2.1, b16.2.1.2.2.2.2.1, b16.2.1.2.2.2.2.2.1, ()), (), (), ()))
  else
  (wk_CopyBase b16.2.2.1.base).bind fun r17 =>
  (w13_Drop (b16.2.1.1, b16.2.1.2.1, b16.2.1.2.2.1, b16.2.1.2.2.2.1, b16.2.1.2.2.2.2.1, b16.2.1.2.2.2.2.2.1, ())).bind fun r18 =>
  some ((b16.2.2.1.size, true, (⟨r17.1, b16.2.1.2.2.2.2.2.1⟩ : DImage), ()), ((r18.2.1.1, r18.2.1.2.1, r18.2.1.2.2.1, r18.2.1.2.2.2.1, r18.2.1.2.2.2.2.1, r18.2.1.2.2.2.2.2.1, ()), (), (), ())))
theorem rloop_p {x : DLetter} {t i b s : Int} {bs : List UInt8} (hr : rightX x) (hs : s = x.size) (hl : (bs.length : Int) ≤ s) : loopM w13_Take_l1 (((), (), (), 0, ()), ((true, t, i, b, s, bs, ()), x, (0, 0, [], [], [], [], [], ()), (), (), (), (), (), (), ())) = some (((), (), (), ()), ((true, t, i, b, s, bsX ⟨true, t, i, b, s, bs⟩ x, ()), x, (0, 0, [], [], [], [], [], ()), (), (), (), (), (), (), (), (), (), (), (), (), ())) := by
  obtain ⟨h1, h2, h3, h4, h5, h6⟩ := id hr
  obtain ⟨a, ha⟩ : ∃ a : Nat, x.at_ = (a : Int) := ⟨x.at_.toNat, by omega⟩
  by_cases hk : x.at_ ≤ bs.length
  · have hb : bsX ⟨true, t, i, b, s, bs⟩ x = bs ++ (x.bytes.take x.bytes.length).drop (bs.length - a) := by
      unfold bsX
      rw [if_pos hk, ha, Int.toNat_natCast, List.take_length]
    rw [hb]
    refine (congrArg _ ?_).trans (loopM_run (step := w13_Take_l1) (fun k : Nat => (((), (), (), (k : Int), ()), ((true, t, i, b, s, bs ++ (x.bytes.take k).drop (bs.length - a), ()), x, (0, 0, [], [], [], [], [], ()), (), (), (), (), (), (), ()))) (N := x.bytes.length) (b := (((), (), (), ()), ((true, t, i, b, s, bs ++ (x.bytes.take x.bytes.length).drop (bs.length - a), ()), x, (0, 0, [], [], [], [], [], ()), (), (), (), (), (), (), (), (), (), (), (), (), ()))) (fun k hk2 => ?_) ?_)
    · simp
    · have hlen : (bs ++ (x.bytes.take k).drop (bs.length - a)).length = bs.length + (k - (bs.length - a)) := by simp; omega
      unfold w13_Take_l1
      refine condT (dT (by dsimp only; omega)) (condT (dT (by dsimp only; omega)) ?_)
      dsimp only
      rw [w64 (n := x.at_ + (k : Int)) (by omega), w64 (n := (k : Int) + 1) (by omega)]
      by_cases hd : bs.length - a ≤ k
      · have hn : (bs ++ (x.bytes.take k).drop (bs.length - a)) ++ [x.bytes[k]] = bs ++ (x.bytes.take (k + 1)).drop (bs.length - a) := by
          rw [List.take_succ_eq_append_getElem hk2, List.drop_append_of_le_length (by simp; omega), List.append_assoc]
        refine condT (dT (by omega)) (bindS (getI_lt hk2) (bindS (b8_u _) (iteT (by rw [hlen]; simp; omega) ?_)))
        rw [hn]
        rfl
      · refine condF (dF (by omega)) ?_
        have e1 : (x.bytes.take k).drop (bs.length - a) = [] := List.drop_eq_nil_of_le (by simp; omega)
        have e2 : (x.bytes.take (k + 1)).drop (bs.length - a) = [] := List.drop_eq_nil_of_le (by simp; omega)
        rw [e1, e2]
        rfl
    · unfold w13_Take_l1
      exact condF (dF (by dsimp only; omega)) rfl
  · have hb : bsX ⟨true, t, i, b, s, bs⟩ x = bs := if_neg hk
    rw [hb]
    refine loopM_end ?_
    unfold w13_Take_l1
    by_cases h0 : 0 < x.bytes.length
    · exact condT (dT (by dsimp only; omega)) (condF (dF hk) rfl)
    · exact condF (dF (by dsimp only; omega)) rfl
theorem tailR_p {f : Fer} {x : DLetter} (hr : rightX x) (hs : f.s = x.size) (hf : f.inv) (hh : f.has = true) (hc : x.base.config.few) : tailR_m x (refT f) = some (((tailX f x).1.1, (tailX f x).1.2.1, (tailX f x).1.2.2, ()), (refT (tailX f x).2, (), (), ())) := by
  obtain ⟨g1, g2, g3⟩ := hf.2 hh
  have hl := bsX_len hr hs g3
  obtain ⟨has, t, i, b, s, bs⟩ := f
  simp only at hs hh g1 g2 g3
  subst hh
  unfold tailR_m
  refine bindS (rloop_p hr hs g3) ?_
  unfold tailX
  by_cases hn : ((bsX ⟨true, t, i, b, s, bs⟩ x).length : Int) < s
  · rw [if_pos hn]
    exact condT (dT hn) rfl
  · rw [if_neg hn]
    refine condF (dF hn) (bindS (CopyBase_p hc) (bindS (rDrop_p _ _ _ _ _ _) ?_))
    rw [show (((bsX ⟨true, t, i, b, s, bs⟩ x).length : Nat) : Int) = x.size from by simp only at hl; omega]
theorem refTake_no {f : Fer} {x : DLetter} (hr : ¬ rightX x) : w13_Take x (refT f) = some ((0, false, img0, ()), (refT f, (), (), ())) := by
  unfold w13_Take
  by_cases h1 : x.kind = 5
  · refine condF (dF (by omega)) ?_
    by_cases h2 : x.size < 0
    · exact condT (dT h2) rfl
    · refine condF (dF h2) ?_
      by_cases h3 : 131072 < x.size
      · exact condT (dT h3) rfl
      · refine condF (dF h3) ?_
        by_cases h4 : x.at_ < 0
        · exact condT (dT h4) rfl
        · refine condF (dF h4) ?_
          by_cases h5 : x.size < x.at_
          · exact condT (dT h5) rfl
          · refine condF (dF h5) ?_
            rw [w64 (n := x.size - x.at_) (by omega)]
            by_cases h6 : x.size - x.at_ < x.bytes.length
            · exact condT (dT h6) rfl
            · exact absurd ⟨h1, by omega, by omega, by omega, by omega, by omega⟩ hr
  · exact condT (dT h1) rfl
theorem refTake_p {f : Fer} {x : DLetter} (hf : f.inv) (hc : x.base.config.few) : w13_Take x (refT f) = some (((takeX f x).1.1, (takeX f x).1.2.1, (takeX f x).1.2.2, ()), (refT (takeX f x).2, (), (), ())) := by
  by_cases hr : rightX x
  · obtain ⟨h1, h2, h3, h4, h5, h6⟩ := id hr
    unfold w13_Take takeX
    rw [if_pos hr]
    refine condF (dF (by omega)) (condF (dF (by omega)) (condF (dF (by omega)) (condF (dF (by omega)) (condF (dF (by omega)) (condF (dF (by rw [w64 (n := x.size - x.at_) (by omega)]; omega)) ?_)))))
    have hn : x.at_ = 0 → tailR_m x (refT (anew x)) = some (((tailX (anew x) x).1.1, (tailX (anew x) x).1.2.1, (tailX (anew x) x).1.2.2, ()), (refT (tailX (anew x) x).2, (), (), ())) := fun _ => tailR_p hr rfl (anew_inv hr) rfl hc
    obtain ⟨has, t, i, b, s, bs⟩ := f
    have fin : ∀ {z}, ¬ (has = true ∧ sameX ⟨has, t, i, b, s, bs⟩ x) → (x.at_ = 0 → z = tailR_m x (refT (anew x))) → (bif decide (x.at_ ≠ 0) then some ((0, false, img0, ()), (refT ⟨has, t, i, b, s, bs⟩, (), (), ())) else z) = some ((fun r : (Int × Bool × DImage) × Fer => ((r.1.1, r.1.2.1, r.1.2.2, ()), (refT r.2, (), (), ()))) (if has = true ∧ sameX ⟨has, t, i, b, s, bs⟩ x then tailX ⟨has, t, i, b, s, bs⟩ x else if x.at_ = 0 then tailX (anew x) x else ((0, false, img0), ⟨has, t, i, b, s, bs⟩))) := by
      intro z hs hz
      rw [if_neg hs]
      by_cases h0 : x.at_ = 0
      · rw [if_pos h0]
        exact condF (dF (by omega)) ((hz h0).trans (hn h0))
      · rw [if_neg h0]
        exact condT (dT h0) rfl
    cases has
    · exact condT rfl (fin (fun h => by cases h.1) (fun _ => rfl))
    · refine condF rfl ?_
      by_cases e1 : t = x.term_
      · refine condF (dF (by dsimp only; omega)) ?_
        by_cases e2 : i = x.base.index
        · refine condF (dF (by dsimp only; omega)) ?_
          by_cases e3 : b = x.base.term_
          · refine condF (dF (by dsimp only; omega)) ?_
            by_cases e4 : s = x.size
            · refine condF (dF (by dsimp only; omega)) ?_
              rw [if_pos ⟨rfl, e1, e2, e3, e4⟩]
              exact tailR_p (f := ⟨true, t, i, b, s, bs⟩) hr e4 hf rfl hc
            · exact condT (dT e4) (fin (fun h => e4 h.2.2.2.2) (fun _ => rfl))
          · exact condT (dT e3) (fin (fun h => e3 h.2.2.2.1) (fun _ => rfl))
        · exact condT (dT e2) (fin (fun h => e2 h.2.2.1) (fun _ => rfl))
      · exact condT (dT e1) (fin (fun h => e1 h.2.1) (fun _ => rfl))
  · rw [refTake_no hr, takeX_no hr]
end Go.Proofs.Ytlaehnldaejipaa
