/- Rows that are lent, and kept (written by plain15.py). -/
import Derived.Test.YtlmmpfbdgiokmaaGreatRar
import Derived.Test.YtlmmpfbdgiokmaaGreatAv
namespace Go.Proofs.YtlmmpfbdgiokmaaGreat
open Go.RowKit
set_option maxRecDepth 100000
set_option linter.unusedVariables false
set_option linter.unusedSimpArgs false
def ZxN : Zae := ⟨[], []⟩
theorem ZBL (n : Int) : ∃ u, b8 (IntKind.u8.wrap n) = some u := Zoo n
theorem ZxO (x : Int) : ∃ t, ZaJ 1 x = some (t, ()) := by
 obtain ⟨u2, h2⟩ := ZBL 1
 obtain ⟨u3, h3⟩ := ZBL ((1 : Int).fdiv (2 ^ min (8 : Int).toNat (IntKind.i64.bits)))
 obtain ⟨u4, h4⟩ := ZBL ((1 : Int).fdiv (2 ^ min (16 : Int).toNat (IntKind.i64.bits)))
 obtain ⟨u6, h6⟩ := ZBL x
 obtain ⟨u7, h7⟩ := ZBL (x.fdiv (2 ^ min (8 : Int).toNat (IntKind.i64.bits)))
 obtain ⟨u8, h8⟩ := ZBL (x.fdiv (2 ^ min (16 : Int).toNat (IntKind.i64.bits)))
 unfold ZaJ Zdi
 exact ⟨_, Zab (Zab rfl (Zab h2 (Zab h3 (Zab h4 (Zab rfl (Zab h6 (Zab h7 (Zab h8 rfl)))))))) rfl⟩
noncomputable def mkT (j : Nat) : Zae := (ZxO (j : Int)).choose
theorem ZAl (j : Nat) : ZaJ 1 (j : Int) = some (mkT j, ()) := (ZxO (j : Int)).choose_spec
noncomputable def Zko (j : Nat) : List Zae := (List.range j).map mkT
theorem ZoN (j : Nat) : (Zko j).length = j := by simp [Zko]
theorem Zv2 (j : Nat) : Zko (j + 1) = Zko j ++ [mkT j] := by simp [Zko, List.range_succ]
theorem ZxP {j n : Nat} (h : j < n) : (Zko n)[j]? = some (mkT j) := by simp [Zko, h]
theorem ZAm {l : List Zae} (hn : l.length <= 1200) : Zbf l = some ((l, Zko 12), ()) := by
 have hw : IntKind.i64.wrap ((l.length : Int) + 12) = ((l.length + 12 : Nat) : Int) := by rw [w64 (by omega)]; rfl
 have hloop : ZaP Za8 ((l, (0, l.length, l.length + 12), 0, ()), (l ++ List.replicate 12 ZxN, ())) = some ((l, (0, l.length + 12, l.length + 12), ()), (l ++ Zko 12, ())) := by
  refine Zc4 (step := Za8) (fun j : Nat => ((l, (0, l.length + j, l.length + 12), (j : Int), ()), (l ++ (Zko j ++ List.replicate (12 - j) ZxN), ()))) (N := 12) (fun j hj => ?_) ?_
  ·have hml := ZoN j
   unfold Za8
   refine Zak (dT (by dsimp only; omega)) (Zab (ZAl j) ?_)
   dsimp only
   simp only [List.length_singleton, Nat.zero_add]
   refine ZeK (by simp only [List.length_append, List.length_replicate, hml]; omega) ?_
   refine ZeK (by omega) ?_
   rw [w64 (by omega)]
   have e1 : (l ++ (Zko j ++ List.replicate (12 - j) ZxN)).take (l.length + j) = l ++ Zko j := by
    rw [<- List.append_assoc]
    exact List.take_left' (by rw [List.length_append, hml])
   have e2 : (l ++ (Zko j ++ List.replicate (12 - j) ZxN)).drop (l.length + j + 1) = List.replicate (12 - (j + 1)) ZxN := by
    rw [<- List.append_assoc, List.drop_append, List.drop_of_length_le (by rw [List.length_append, hml]; omega), List.nil_append, List.drop_replicate, List.length_append, hml]
    congr 1
    omega
   rw [e1, e2, Zv2]
   simp only [List.append_assoc, Nat.add_assoc]
   rfl
  ·unfold Za8
   exact Zaj (dF (by dsimp only; omega)) rfl
 have hL : Zc9 l = some ((0, l.length, l.length + 12), (l ++ Zko 12, ())) := by
  unfold Zc9
  simp only [hw, Int.toNat_natCast, Int.toNat_zero, Nat.zero_add, List.take_zero, List.nil_append, Nat.add_zero, Nat.sub_zero, List.length_replicate, List.drop_replicate, Nat.add_sub_cancel_left]
  refine ZeK (by omega) ?_
  refine ZeK (by omega) ?_
  refine ZeK (by omega) ?_
  refine Zab hloop ?_
  dsimp only
  refine ZeK (by omega) ?_
  simp
 unfold Zbf
 refine Zab hL ?_
 dsimp only
 refine ZeK ⟨rfl, by rw [List.length_append]; omega, by rw [List.length_append, ZoN]; omega⟩ ?_
 rw [List.take_left, List.drop_left]
theorem ZAn {l : List Zae} (hn : l.length <= 1200) : Zb9 (l, Zko 12) l = some (true, ()) := by
 have hw : IntKind.i64.wrap ((l.length : Int) + 12) = ((l.length + 12 : Nat) : Int) := by rw [w64 (by omega)]; rfl
 have hml := ZoN 12
 have hloop : ZaP Za9 ((l, l ++ Zko 12, 0, ()), ()) = some (.inr ((), ())) := by
  refine Zc4 (step := Za9) (fun j : Nat => ((l, l ++ Zko 12, (j : Int), ()), ())) (N := l.length + 12) (fun j hj => ?_) ?_
  ·unfold Za9
   refine Zak (dT (by dsimp only; rw [List.length_append]; omega)) ?_
   by_cases hjl : j < l.length
   ·refine Zak (dT (by dsimp only; omega)) ?_
    refine Zab (v := l[j]) (by dsimp only; rw [Zqm, List.getElem?_append_left hjl, List.getElem?_eq_getElem hjl]) ?_
    refine Zab (Zay hjl) ?_
    refine Zaj (by simp) ?_
    refine Zaj (dF (by dsimp only; omega)) ?_
    dsimp only
    rw [w64 (by omega)]
    rfl
   ·refine Zaj (dF (by dsimp only; omega)) ?_
    refine Zak (dT (by dsimp only; omega)) ?_
    refine Zab (v := mkT (j - l.length)) (by dsimp only; rw [Zqm, List.getElem?_append_right (by omega)]; exact ZxP (by omega)) ?_
    refine Zab (v := (mkT (j - l.length), ())) (by
     dsimp only
     rw [w64 (by omega), show (j : Int) - (l.length : Int) = ((j - l.length : Nat) : Int) from by omega]
     exact ZAl _) ?_
    refine Zaj (by simp) ?_
    dsimp only
    rw [w64 (by omega)]
    rfl
  ·unfold Za9
   exact Zaj (dF (by dsimp only; rw [List.length_append]; omega)) rfl
 unfold Zb9
 refine Zaj (dF (by simp)) ?_
 simp only [hw, Int.toNat_natCast, Int.toNat_zero, List.drop_zero, Nat.sub_zero]
 refine ZeK (by rw [List.length_append, hml]; omega) ?_
 rw [List.take_of_length_le (by rw [List.length_append, hml]; omega)]
 exact Zab hloop rfl
end Go.Proofs.YtlmmpfbdgiokmaaGreat
