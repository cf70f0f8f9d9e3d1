/- Frames: the program's functions, plainly. -/
import Derived.Test.YteempnebenjkmaaGreatDoorFrp
import Derived.Test.YteempnebenjkmaaGreatDoorPl
import Derived.Test.YteempnebenjkmaaGreatDoorG1
namespace Go.Proofs.YteempnebenjkmaaGreatDoor
open Go.RowKit
set_option maxRecDepth 100000
set_option linter.unusedVariables false
set_option linter.unusedSimpArgs false
abbrev fr (f : ZbW) : Fr := (f.kind, f.data)
theorem ZCE {n : Int} (h : 0 <= n /\ n < 256) : b8 n = some (UInt8.ofNat n.toNat) := by
 unfold b8 g8
 dsimp only
 rw [if_pos h]
 rfl
theorem ZCu (n : Int) : b8 (IntKind.u8.wrap n) = some (UInt8.ofNat (n % 256).toNat) := by
 rw [IntKind.wrap_u8]
 exact ZCE (by omega)
theorem ZpH (n : Nat) : UInt8.ofNat (n % 256) = UInt8.ofNat n := by
 apply UInt8.toNat_inj.1
 rw [UInt8.toNat_ofNat', UInt8.toNat_ofNat']
 omega
theorem ZAE (n : Nat) : b8 (IntKind.u8.wrap (n : Int)) = some (UInt8.ofNat n) := by
 rw [ZCu, show ((n : Int) % 256).toNat = n % 256 from by omega, ZpH]
theorem Zzh (n k : Nat) : b8 (IntKind.u8.wrap ((n : Int).fdiv (2 ^ k))) = some (UInt8.ofNat (n / 2 ^ k)) := by
 have hk : (n : Int).fdiv (2 ^ k) = ((n / 2 ^ k : Nat) : Int) := by
  rw [Int.fdiv_eq_ediv_of_nonneg _ (Int.pow_nonneg (by omega))]
  rw [show ((2 : Int) ^ k) = ((2 ^ k : Nat) : Int) from by simp]
  exact (Int.natCast_ediv _ _).symm
 rw [hk, ZAE]
theorem ZxO {n : Nat} (hn : n < 4294967296) : Zfz (n : Int) = some (4, (le4 n, ())) := by
 unfold Zfz
 exact Zak (ZAE n) (Zak (Zzh n 8) (Zak (Zzh n 16) (Zak (Zzh n 24) rfl)))
theorem ZAF {n : Nat} (hn : n < 4294967296) : ZdZ (n : Int) = some (le4 n, ((), ())) := by
 unfold ZdZ
 exact Zak (ZxO hn) (ZfT ⟨by simp, by show 4 <= (le4 n).length; rw [ZsY]; exact Nat.le_refl _⟩ rfl)
theorem ZAG {f : ZbW} (h : Zw9 (fr f)) : ZdY f = some (hd (fr f), ((), ())) := by
 obtain ⟨h1, h2, h3⟩ := h
 dsimp only at h1 h2 h3
 have hw : IntKind.u32.wrap (f.data.length : Int) = (f.data.length : Int) := by
  exact IntWalk.u32_in _ (by omega)
 have hb : b8 (IntKind.u8.wrap f.kind) = some (UInt8.ofNat f.kind.toNat) := by
  rw [ZCu, show (f.kind % 256).toNat = f.kind.toNat % 256 from by omega, ZpH]
 have hh : Zhk f = some (5, (hd (fr f), ())) := by
  unfold Zhk
  rw [hw]
  refine Zak (ZxO (by omega)) (Zak hb (ZfT (by simp) (ZfT ?_ rfl)))
  simp [le4]
 unfold ZdY
 exact Zak hh (ZfT ⟨by simp, by show 5 <= (hd (fr f)).length; rw [ZuX]; exact Nat.le_refl _⟩ rfl)
theorem Zxa {α : Type} (rows : List (List α)) (i : Nat) : (rows.take i).flatten.length <= rows.flatten.length := by
 conv => rhs; rw [<- List.take_append_drop i rows, List.flatten_append, List.length_append]
 omega
theorem Zj5 {α : Type} (rows : List (List α)) (i : Nat) (h : i < rows.length) : (rows.take (i + 1)).flatten = (rows.take i).flatten ++ rows[i] := by
 rw [List.take_succ_eq_append_getElem h, List.flatten_append, List.flatten_singleton]
theorem Zvs (rows : List (List UInt8)) (hr : rows.length <= 1000) (hf : rows.flatten.length <= 100000000) (h0 : rows.flatten ≠ []) : Zb4 rows = some (rows.flatten, ((), ())) := by
 have hle := fun i => Zxa rows i
 have hsn : ∀ i (h : i < rows.length), (rows.take i).flatten.length + rows[i].length <= 100000000 := fun i h => by
  have := hle (i + 1)
  rw [Zj5 rows i h, List.length_append] at this
  omega
 have l1 : Zbm ZbJ ((rows, 0, rows, (rows.length : Int), 0, ()), ()) = some ((rows, (rows.flatten.length : Int), ()), ()) := by
  have := Zi3 (step := ZbJ) (fun i : Nat => ((rows, (((rows.take i).flatten.length : Nat) : Int), rows, (rows.length : Int), (i : Int), ()), ())) (N := rows.length) (b := ((rows, (rows.flatten.length : Int), ()), ())) (fun i hi => ?_) ?_
  ·simpa using this
  ·unfold ZbJ
   have h1 := hsn i hi
   refine ZaH (dT (by dsimp only; omega)) (Zak (Zdz hi) (ZaM (dF ?_) ?_))
   ·dsimp only; rw [w64 (by omega)]; omega
   ·dsimp only
    rw [w64 (by omega), w64 (by omega), Zj5 rows i hi, List.length_append]
    rfl
  ·unfold ZbJ
   refine ZaM (dF (by dsimp only; omega)) ?_
   dsimp only
   rw [List.take_length]
 have l2 : Zbm ZbK ((0, rows, (rows.length : Int), 0, ()), ([], ())) = some ((rows.flatten.length, ()), ((), rows.flatten, ())) := by
  have := Zi3 (step := ZbK) (fun i : Nat => (((rows.take i).flatten.length, rows, (rows.length : Int), (i : Int), ()), ((rows.take i).flatten, ()))) (N := rows.length) (b := ((rows.flatten.length, ()), ((), rows.flatten, ()))) (fun i hi => ?_) ?_
  ·simpa using this
  ·unfold ZbK
   have h1 := hsn i hi
   refine ZaH (dT (by dsimp only; omega)) (Zak (Zdz hi) (ZfT (by dsimp only; omega) ?_))
   dsimp only
   rw [w64 (by omega), Zj5 rows i hi, List.length_append, List.take_length]
   rfl
  ·unfold ZbK
   refine ZaM (dF (by dsimp only; omega)) ?_
   dsimp only
   rw [List.take_length]
 have hc : Zek rows = some (rows.flatten.length, (rows.flatten, ())) := by
  unfold Zek
  refine Zak l1 (Zak (v := (0, ([], ()))) (by unfold ZnN; exact ZfT (by dsimp only; omega) rfl) (Zak l2 rfl))
 unfold Zb4
 refine Zak hc (ZfT ⟨?_, by dsimp only; omega⟩ ?_)
 ·dsimp only
  intro h
  exact h0 (List.eq_nil_of_length_eq_zero h)
 ·dsimp only
  rw [List.take_length]
theorem Zxb {f : ZbW} (h : Zw9 (fr f)) : ZkA (fr f) = none := by
 obtain ⟨h1, h2, h3⟩ := h
 unfold ZkA
 rw [if_neg (by omega), if_neg (by omega)]
theorem ZBZ (l : List ZbW) (hl : l.length <= 10000000) (hc : (codes (l.map fr)).length <= 10000000) : Zdv l = some ((match Zfy (l.map fr) with | some e => ([], e, ()) | none => (codes (l.map fr), 0, ())), ((), ())) := by
 have key : ∃ z, Zbm Ze0 (([], l, (l.length : Int), 0, ()), ((), ())) = some z /\ ((∃ e, Zfy (l.map fr) = some e /\ z = .inl (((), e, ()), ((), ()))) \/ (Zfy (l.map fr) = none /\ z = .inr ((codes (l.map fr), ()), ((), (), ())))) := by
  refine Zep (fun n a => ∃ i : Nat, a = ((codes ((l.map fr).take i), l, (l.length : Int), (i : Int), ()), ((), ())) /\ i <= l.length /\ Zfy ((l.map fr).take i) = none /\ n = l.length - i) _ ?_ (n := l.length) ⟨0, by simp [codes], Nat.zero_le _, rfl, rfl⟩
  rintro n a ⟨i, rfl, h1, h2, rfl⟩
  unfold Ze0
  by_cases hi : i < l.length
  ·have him : i < (l.map fr).length := by rw [List.length_map]; exact hi
   have hgi : (l.map fr)[i] = fr l[i] := by simp
   by_cases e1 : l[i].kind < 0
   ·right
    have he : ZkA (l.map fr)[i] = some 2 := by rw [hgi]; unfold ZkA; rw [if_pos (.inl e1)]
    exact ⟨_, ZaH (dT (by dsimp only; omega)) (Zak (Zdz hi) (ZaH (dT e1) rfl)), .inl ⟨2, Zg3 him h2 he, rfl⟩⟩
   by_cases e2 : 255 < l[i].kind
   ·right
    have he : ZkA (l.map fr)[i] = some 2 := by rw [hgi]; unfold ZkA; rw [if_pos (.inr e2)]
    exact ⟨_, ZaH (dT (by dsimp only; omega)) (Zak (Zdz hi) (ZaM (dF e1) (ZaH (dT e2) rfl))), .inl ⟨2, Zg3 him h2 he, rfl⟩⟩
   by_cases e3 : 262144 < l[i].data.length
   ·right
    have he : ZkA (l.map fr)[i] = some 3 := by rw [hgi]; unfold ZkA; rw [if_neg (by dsimp only; omega), if_pos e3]
    exact ⟨_, ZaH (dT (by dsimp only; omega)) (Zak (Zdz hi) (ZaM (dF e1) (ZaM (dF e2) (ZaH (dT (by omega)) rfl)))), .inl ⟨3, Zg3 him h2 he, rfl⟩⟩
   ·left
    have ok : Zw9 (fr l[i]) := ⟨by dsimp only; omega, by dsimp only; omega, by dsimp only; omega⟩
    have hle := Zo9 (l.map fr) i him
    rw [hgi] at hle
    have hcl := ZeE (fr l[i])
    have hs : ZyT [hd (fr l[i]), l[i].data] = some ((ZnL (fr l[i]) : Int), ()) := by
     unfold ZyT
     rw [if_pos trivial]
     have : ([hd (fr l[i]), l[i].data] : List (List UInt8)).flatten = hd (fr l[i]) ++ (fr l[i]).2 := by simp
     rw [this]
     rfl
    have hcat : Zb4 [codes ((l.map fr).take i), hd (fr l[i]), le4 (ZnL (fr l[i])), l[i].data] = some (codes ((l.map fr).take (i + 1)), ((), ())) := by
     have hfl : ([codes ((l.map fr).take i), hd (fr l[i]), le4 (ZnL (fr l[i])), l[i].data] : List (List UInt8)).flatten = codes ((l.map fr).take (i + 1)) := by
      rw [List.take_succ_eq_append_getElem him, ZjC, hgi]
      simp [code]
     have hfl2 := ZiP (l.map fr) (i + 1)
     rw [Zvs _ (by simp) (by rw [hfl]; omega) (by
      rw [hfl]
      intro h
      have := congrArg List.length h
      rw [List.take_succ_eq_append_getElem him, ZjC, hgi, List.length_append, hcl] at this
      simp at this), hfl]
    refine ⟨l.length - (i + 1), _, by omega, ZaH (dT (by dsimp only; omega)) (Zak (Zdz hi) (ZaM (dF e1) (ZaM (dF e2) (ZaM (dF (by omega)) (Zak (ZAG ok) (Zak hs (Zak (ZAF (ZrS _)) (Zak hcat rfl)))))))), i + 1, ?_, by omega, ?_, rfl⟩
    ·dsimp only
     rw [w64 (by omega)]
     rfl
    ·rw [ZlO him h2, hgi, Zxb ok]
  ·right
   obtain rfl : i = l.length := by omega
   have ht : (l.map fr).take l.length = l.map fr := by rw [List.take_of_length_le (by simp)]
   rw [ht] at h2
   refine ⟨_, ZaM (dF (by dsimp only; omega)) rfl, .inr ⟨h2, ?_⟩⟩
   dsimp only
   rw [ht]
 obtain ⟨z, hz, ⟨e, h1, rfl⟩ | ⟨h1, rfl⟩⟩ := key
 ·rw [h1]; unfold Zdv; exact Zak hz rfl
 ·rw [h1]; unfold Zdv; exact Zak hz rfl
end Go.Proofs.YteempnebenjkmaaGreatDoor
