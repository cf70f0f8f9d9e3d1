/- Frames: the program's functions, plainly. -/
import Derived.Test.YteempnebenjkmaaGreatDoorFrp
import Derived.Test.YteempnebenjkmaaGreatDoorPl
import Derived.Test.YteempnebenjkmaaGreatDoorG1
namespace Go.Proofs.YteempnebenjkmaaGreatDoor
open Go.RowKit
set_option maxRecDepth 100000
set_option linter.unusedVariables false
set_option linter.unusedSimpArgs false
abbrev fr (f : ZbH) : Fr := (f.kind, f.data)
theorem ZDJ {n : Int} (h : 0 <= n /\ n < 256) : b8 n = some (UInt8.ofNat n.toNat) := by
 unfold b8 g8
 dsimp only
 rw [if_pos h]
 rfl
theorem ZDK (n : Int) : b8 (IntKind.u8.wrap n) = some (UInt8.ofNat (n % 256).toNat) := by
 rw [IntKind.wrap_u8]
 exact ZDJ (by omega)
theorem Zp9 (n : Nat) : UInt8.ofNat (n % 256) = UInt8.ofNat n := by
 apply UInt8.toNat_inj.1
 rw [UInt8.toNat_ofNat', UInt8.toNat_ofNat']
 omega
theorem ZBU (n : Nat) : b8 (IntKind.u8.wrap (n : Int)) = some (UInt8.ofNat n) := by
 rw [ZDK, show ((n : Int) % 256).toNat = n % 256 from by omega, Zp9]
theorem Zz8 (n k : Nat) : b8 (IntKind.u8.wrap ((n : Int).fdiv (2 ^ k))) = some (UInt8.ofNat (n / 2 ^ k)) := by
 have hk : (n : Int).fdiv (2 ^ k) = ((n / 2 ^ k : Nat) : Int) := by
  rw [Int.fdiv_eq_ediv_of_nonneg _ (Int.pow_nonneg (by omega))]
  rw [show ((2 : Int) ^ k) = ((2 ^ k : Nat) : Int) from by simp]
  exact (Int.natCast_ediv _ _).symm
 rw [hk, ZBU]
theorem ZyI {n : Nat} (hn : n < 4294967296) : ZfP (n : Int) = some (4, (le4 n, ())) := by
 unfold ZfP
 exact Zaf (ZBU n) (Zaf (Zz8 n 8) (Zaf (Zz8 n 16) (Zaf (Zz8 n 24) rfl)))
theorem ZBV {n : Nat} (hn : n < 4294967296) : Zd8 (n : Int) = some (le4 n, ((), ())) := by
 unfold Zd8
 exact Zaf (ZyI hn) (Zdz ⟨by simp, by show 4 <= (le4 n).length; rw [Ztn]; exact Nat.le_refl _⟩ rfl)
theorem ZBW {f : ZbH} (h : Zsr (fr f)) : Zd7 f = some (hd (fr f), ((), ())) := by
 obtain ⟨h1, h2, h3⟩ := h
 dsimp only at h1 h2 h3
 have hw : IntKind.u32.wrap (f.data.length : Int) = (f.data.length : Int) := by
  exact IntWalk.u32_in _ (by omega)
 have hb : b8 (IntKind.u8.wrap f.kind) = some (UInt8.ofNat f.kind.toNat) := by
  rw [ZDK, show (f.kind % 256).toNat = f.kind.toNat % 256 from by omega, Zp9]
 have hh : Zht f = some (5, (hd (fr f), ())) := by
  unfold Zht
  rw [hw]
  refine Zaf (ZyI (by omega)) (Zaf hb (Zdz (by simp) (Zdz ?_ rfl)))
  simp [le4]
 unfold Zd7
 exact Zaf hh (Zdz ⟨by simp, by show 5 <= (hd (fr f)).length; rw [Zl1]; exact Nat.le_refl _⟩ rfl)
theorem ZxY {α : Type} (rows : List (List α)) (i : Nat) : (rows.take i).flatten.length <= rows.flatten.length := by
 conv => rhs; rw [<- List.take_append_drop i rows, List.flatten_append, List.length_append]
 omega
theorem Zka {α : Type} (rows : List (List α)) (i : Nat) (h : i < rows.length) : (rows.take (i + 1)).flatten = (rows.take i).flatten ++ rows[i] := by
 rw [List.take_succ_eq_append_getElem h, List.flatten_append, List.flatten_singleton]
theorem Zwb (rows : List (List UInt8)) (hr : rows.length <= 1000) (hf : rows.flatten.length <= 100000000) (h0 : rows.flatten ≠ []) : ZbY rows = some (rows.flatten, ((), ())) := by
 have hle := fun i => ZxY rows i
 have hsn : ∀ i (h : i < rows.length), (rows.take i).flatten.length + rows[i].length <= 100000000 := fun i h => by
  have := hle (i + 1)
  rw [Zka rows i h, List.length_append] at this
  omega
 have l1 : Za2 ZbC ((rows, 0, rows, (rows.length : Int), 0, ()), ()) = some ((rows, (rows.flatten.length : Int), ()), ()) := by
  have := ZfZ (step := ZbC) (fun i : Nat => ((rows, (((rows.take i).flatten.length : Nat) : Int), rows, (rows.length : Int), (i : Int), ()), ())) (N := rows.length) (b := ((rows, (rows.flatten.length : Int), ()), ())) (fun i hi => ?_) ?_
  ·simpa using this
  ·unfold ZbC
   have h1 := hsn i hi
   refine Zam (dT (by (try dsimp only); omega)) (Zaf (Zbg hi) (Zaq (dF ?_) ?_))
   ·dsimp only; rw [w64 (by omega)]; omega
   ·dsimp only
    rw [w64 (by omega), w64 (by omega), Zka rows i hi, List.length_append]
    rfl
  ·unfold ZbC
   refine Zaq (dF (by (try dsimp only); omega)) ?_
   dsimp only
   rw [List.take_length]
 have l2 : Za2 ZbD ((0, rows, (rows.length : Int), 0, ()), ([], ())) = some ((rows.flatten.length, ()), ((), rows.flatten, ())) := by
  have := ZfZ (step := ZbD) (fun i : Nat => (((rows.take i).flatten.length, rows, (rows.length : Int), (i : Int), ()), ((rows.take i).flatten, ()))) (N := rows.length) (b := ((rows.flatten.length, ()), ((), rows.flatten, ()))) (fun i hi => ?_) ?_
  ·simpa using this
  ·unfold ZbD
   have h1 := hsn i hi
   refine Zam (dT (by (try dsimp only); omega)) (Zaf (Zbg hi) (Zdz (by (try dsimp only); omega) ?_))
   dsimp only
   rw [w64 (by omega), Zka rows i hi, List.length_append, List.take_length]
   rfl
  ·unfold ZbD
   refine Zaq (dF (by (try dsimp only); omega)) ?_
   dsimp only
   rw [List.take_length]
 have hc : Zes rows = some (rows.flatten.length, (rows.flatten, ())) := by
  unfold Zes
  refine Zaf l1 (Zaf (v := (0, ([], ()))) (by unfold Zn9; exact Zdz (by (try dsimp only); omega) rfl) (Zaf l2 rfl))
 unfold ZbY
 refine Zaf hc (Zdz ⟨?_, by (try dsimp only); omega⟩ ?_)
 ·dsimp only
  intro h
  exact h0 (List.eq_nil_of_length_eq_zero h)
 ·dsimp only
  rw [List.take_length]
theorem ZxZ {f : ZbH} (h : Zsr (fr f)) : ZkL (fr f) = none := by
 obtain ⟨h1, h2, h3⟩ := h
 unfold ZkL
 rw [if_neg (by omega), if_neg (by omega)]
theorem ZDe (l : List ZbH) (hl : l.length <= 10000000) (hc : (codes (l.map fr)).length <= 10000000) : Zdt l = some ((match ZfN (l.map fr) with | some e => ([], e, ()) | none => (codes (l.map fr), 0, ())), ((), ())) := by
 have key : ∃ z, Za2 Zfc (([], l, (l.length : Int), 0, ()), ((), ())) = some z /\ ((∃ e, ZfN (l.map fr) = some e /\ z = .inl (((), e, ()), ((), ()))) \/ (ZfN (l.map fr) = none /\ z = .inr ((codes (l.map fr), ()), ((), (), ())))) := by
  refine Zcj (fun n a => ∃ i : Nat, a = ((codes ((l.map fr).take i), l, (l.length : Int), (i : Int), ()), ((), ())) /\ i <= l.length /\ ZfN ((l.map fr).take i) = none /\ n = l.length - i) _ ?_ (n := l.length) ⟨0, by simp [codes], Nat.zero_le _, rfl, rfl⟩
  rintro n a ⟨i, rfl, h1, h2, rfl⟩
  unfold Zfc
  by_cases hi : i < l.length
  ·have him : i < (l.map fr).length := by rw [List.length_map]; exact hi
   have hgi : (l.map fr)[i] = fr l[i] := by simp
   by_cases e1 : l[i].kind < 0
   ·right
    have he : ZkL (l.map fr)[i] = some 2 := by rw [hgi]; unfold ZkL; rw [if_pos (.inl e1)]
    exact ⟨_, Zam (dT (by (try dsimp only); omega)) (Zaf (Zbg hi) (Zam (dT e1) rfl)), .inl ⟨2, ZgU him h2 he, rfl⟩⟩
   by_cases e2 : 255 < l[i].kind
   ·right
    have he : ZkL (l.map fr)[i] = some 2 := by rw [hgi]; unfold ZkL; rw [if_pos (.inr e2)]
    exact ⟨_, Zam (dT (by (try dsimp only); omega)) (Zaf (Zbg hi) (Zaq (dF e1) (Zam (dT e2) rfl))), .inl ⟨2, ZgU him h2 he, rfl⟩⟩
   by_cases e3 : 262144 < l[i].data.length
   ·right
    have he : ZkL (l.map fr)[i] = some 3 := by rw [hgi]; unfold ZkL; rw [if_neg (by (try dsimp only); omega), if_pos e3]
    exact ⟨_, Zam (dT (by (try dsimp only); omega)) (Zaf (Zbg hi) (Zaq (dF e1) (Zaq (dF e2) (Zam (dT (by omega)) rfl)))), .inl ⟨3, ZgU him h2 he, rfl⟩⟩
   ·left
    have ok : Zsr (fr l[i]) := ⟨by (try dsimp only); omega, by (try dsimp only); omega, by (try dsimp only); omega⟩
    have hle := ZpG (l.map fr) i him
    rw [hgi] at hle
    have hcl := Zbz (fr l[i])
    have hs : ZzH [hd (fr l[i]), l[i].data] = some ((ZiT (fr l[i]) : Int), ()) := by
     unfold ZzH
     rw [if_pos trivial]
     have : ([hd (fr l[i]), l[i].data] : List (List UInt8)).flatten = hd (fr l[i]) ++ (fr l[i]).2 := by simp
     rw [this]
     rfl
    have hcat : ZbY [codes ((l.map fr).take i), hd (fr l[i]), le4 (ZiT (fr l[i])), l[i].data] = some (codes ((l.map fr).take (i + 1)), ((), ())) := by
     have hfl : ([codes ((l.map fr).take i), hd (fr l[i]), le4 (ZiT (fr l[i])), l[i].data] : List (List UInt8)).flatten = codes ((l.map fr).take (i + 1)) := by
      rw [List.take_succ_eq_append_getElem him, ZjP, hgi]
      simp [code]
     have hfl2 := ZiU (l.map fr) (i + 1)
     rw [Zwb _ (by simp) (by rw [hfl]; omega) (by
      rw [hfl]
      intro h
      have := congrArg List.length h
      rw [List.take_succ_eq_append_getElem him, ZjP, hgi, List.length_append, hcl] at this
      simp at this), hfl]
    refine ⟨l.length - (i + 1), _, by omega, Zam (dT (by (try dsimp only); omega)) (Zaf (Zbg hi) (Zaq (dF e1) (Zaq (dF e2) (Zaq (dF (by omega)) (Zaf (ZBW ok) (Zaf hs (Zaf (ZBV (Zn7 _)) (Zaf hcat rfl)))))))), i + 1, ?_, by omega, ?_, rfl⟩
    ·dsimp only
     rw [w64 (by omega)]
     rfl
    ·rw [Zl2 him h2, hgi, ZxZ ok]
  ·right
   obtain rfl : i = l.length := by omega
   have ht : (l.map fr).take l.length = l.map fr := by rw [List.take_of_length_le (by simp)]
   rw [ht] at h2
   refine ⟨_, Zaq (dF (by (try dsimp only); omega)) rfl, .inr ⟨h2, ?_⟩⟩
   dsimp only
   rw [ht]
 obtain ⟨z, hz, ⟨e, h1, rfl⟩ | ⟨h1, rfl⟩⟩ := key
 ·rw [h1]; unfold Zdt; exact Zaf hz rfl
 ·rw [h1]; unfold Zdt; exact Zaf hz rfl
end Go.Proofs.YteempnebenjkmaaGreatDoor
