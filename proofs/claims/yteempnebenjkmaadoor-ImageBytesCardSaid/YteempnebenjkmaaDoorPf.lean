/- Frames: the program's functions, plainly. -/
import Derived.Test.YteempnebenjkmaaDoorFrp
import Derived.Test.YteempnebenjkmaaDoorPl
import Derived.Test.YteempnebenjkmaaDoorG1
namespace Go.Proofs.YteempnebenjkmaaDoor
open Go.RowKit
set_option maxRecDepth 100000
set_option linter.unusedVariables false
set_option linter.unusedSimpArgs false
abbrev fr (f : Zb4) : Fr := (f.kind, f.data)
theorem ZB2 {n : Int} (h : 0 <= n /\ n < 256) : b8 n = some (UInt8.ofNat n.toNat) := by
 unfold b8 g8
 dsimp only
 rw [if_pos h]
 rfl
theorem ZBU (n : Int) : b8 (IntKind.u8.wrap n) = some (UInt8.ofNat (n % 256).toNat) := by
 rw [IntKind.wrap_u8]
 exact ZB2 (by omega)
theorem ZpM (n : Nat) : UInt8.ofNat (n % 256) = UInt8.ofNat n := by
 apply UInt8.toNat_inj.1
 rw [UInt8.toNat_ofNat', UInt8.toNat_ofNat']
 omega
theorem ZzW (n : Nat) : b8 (IntKind.u8.wrap (n : Int)) = some (UInt8.ofNat n) := by
 rw [ZBU, show ((n : Int) % 256).toNat = n % 256 from by omega, ZpM]
theorem Zyl (n k : Nat) : b8 (IntKind.u8.wrap ((n : Int).fdiv (2 ^ k))) = some (UInt8.ofNat (n / 2 ^ k)) := by
 have hk : (n : Int).fdiv (2 ^ k) = ((n / 2 ^ k : Nat) : Int) := by
  rw [Int.fdiv_eq_ediv_of_nonneg _ (Int.pow_nonneg (by omega))]
  rw [show ((2 : Int) ^ k) = ((2 ^ k : Nat) : Int) from by simp]
  exact (Int.natCast_ediv _ _).symm
 rw [hk, ZzW]
theorem Zxa {n : Nat} (hn : n < 4294967296) : Zf5 (n : Int) = some (4, (le4 n, ())) := by
 unfold Zf5
 exact Zag (ZzW n) (Zag (Zyl n 8) (Zag (Zyl n 16) (Zag (Zyl n 24) rfl)))
theorem ZzX {n : Nat} (hn : n < 4294967296) : Zea (n : Int) = some (le4 n, ((), ())) := by
 unfold Zea
 exact Zag (Zxa hn) (Zfi ⟨by simp, by show 4 <= (le4 n).length; rw [ZsI]; exact Nat.le_refl _⟩ rfl)
theorem ZzY {f : Zb4} (h : Zwe (fr f)) : Zd9 f = some (hd (fr f), ((), ())) := by
 obtain ⟨h1, h2, h3⟩ := h
 dsimp only at h1 h2 h3
 have hw : IntKind.u32.wrap (f.data.length : Int) = (f.data.length : Int) := by
  exact IntWalk.u32_in _ (by omega)
 have hb : b8 (IntKind.u8.wrap f.kind) = some (UInt8.ofNat f.kind.toNat) := by
  rw [ZBU, show (f.kind % 256).toNat = f.kind.toNat % 256 from by omega, ZpM]
 have hh : ZhJ f = some (5, (hd (fr f), ())) := by
  unfold ZhJ
  rw [hw]
  refine Zag (Zxa (by omega)) (Zag hb (Zfi (by simp) (Zfi ?_ rfl)))
  simp [le4]
 unfold Zd9
 exact Zag hh (Zfi ⟨by simp, by show 5 <= (hd (fr f)).length; rw [Zuk]; exact Nat.le_refl _⟩ rfl)
theorem Zwf {α : Type} (rows : List (List α)) (i : Nat) : (rows.take i).flatten.length <= rows.flatten.length := by
 conv => rhs; rw [<- List.take_append_drop i rows, List.flatten_append, List.length_append]
 omega
theorem Zko {α : Type} (rows : List (List α)) (i : Nat) (h : i < rows.length) : (rows.take (i + 1)).flatten = (rows.take i).flatten ++ rows[i] := by
 rw [List.take_succ_eq_append_getElem h, List.flatten_append, List.flatten_singleton]
theorem ZuE (rows : List (List UInt8)) (hr : rows.length <= 1000) (hf : rows.flatten.length <= 100000000) (h0 : rows.flatten ≠ []) : Zce rows = some (rows.flatten, ((), ())) := by
 have hle := fun i => Zwf rows i
 have hsn : ∀ i (h : i < rows.length), (rows.take i).flatten.length + rows[i].length <= 100000000 := fun i h => by
  have := hle (i + 1)
  rw [Zko rows i h, List.length_append] at this
  omega
 have l1 : Zbl ZbO ((rows, 0, rows, (rows.length : Int), 0, ()), ()) = some ((rows, (rows.flatten.length : Int), ()), ()) := by
  have := Zhw (step := ZbO) (fun i : Nat => ((rows, (((rows.take i).flatten.length : Nat) : Int), rows, (rows.length : Int), (i : Int), ()), ())) (N := rows.length) (b := ((rows, (rows.flatten.length : Int), ()), ())) (fun i hi => ?_) ?_
  ·simpa using this
  ·unfold ZbO
   have h1 := hsn i hi
   refine Zap (dT (by dsimp only; omega)) (Zag (ZcE hi) (ZaC (dF ?_) ?_))
   ·dsimp only; rw [w64 (by omega)]; omega
   ·dsimp only
    rw [w64 (by omega), w64 (by omega), Zko rows i hi, List.length_append]
    rfl
  ·unfold ZbO
   refine ZaC (dF (by dsimp only; omega)) ?_
   dsimp only
   rw [List.take_length]
 have l2 : Zbl ZbP ((0, rows, (rows.length : Int), 0, ()), ([], ())) = some ((rows.flatten.length, ()), ((), rows.flatten, ())) := by
  have := Zhw (step := ZbP) (fun i : Nat => (((rows.take i).flatten.length, rows, (rows.length : Int), (i : Int), ()), ((rows.take i).flatten, ()))) (N := rows.length) (b := ((rows.flatten.length, ()), ((), rows.flatten, ()))) (fun i hi => ?_) ?_
  ·simpa using this
  ·unfold ZbP
   have h1 := hsn i hi
   refine Zap (dT (by dsimp only; omega)) (Zag (ZcE hi) (Zfi (by dsimp only; omega) ?_))
   dsimp only
   rw [w64 (by omega), Zko rows i hi, List.length_append, List.take_length]
   rfl
  ·unfold ZbP
   refine ZaC (dF (by dsimp only; omega)) ?_
   dsimp only
   rw [List.take_length]
 have hc : Zet rows = some (rows.flatten.length, (rows.flatten, ())) := by
  unfold Zet
  refine Zag l1 (Zag (v := (0, ([], ()))) (by unfold Zn7; exact Zfi (by dsimp only; omega) rfl) (Zag l2 rfl))
 unfold Zce
 refine Zag hc (Zfi ⟨?_, by dsimp only; omega⟩ ?_)
 ·dsimp only
  intro h
  exact h0 (List.eq_nil_of_length_eq_zero h)
 ·dsimp only
  rw [List.take_length]
theorem Zwg {f : Zb4} (h : Zwe (fr f)) : Zk3 (fr f) = none := by
 obtain ⟨h1, h2, h3⟩ := h
 unfold Zk3
 rw [if_neg (by omega), if_neg (by omega)]
theorem ZBq (l : List Zb4) (hl : l.length <= 10000000) (hc : (codes (l.map fr)).length <= 10000000) : Zeb l = some ((match Zf4 (l.map fr) with | some e => ([], e, ()) | none => (codes (l.map fr), 0, ())), ((), ())) := by
 have key : ∃ z, Zbl Zfr (([], l, (l.length : Int), 0, ()), ((), ())) = some z /\ ((∃ e, Zf4 (l.map fr) = some e /\ z = .inl (((), e, ()), ((), ()))) \/ (Zf4 (l.map fr) = none /\ z = .inr ((codes (l.map fr), ()), ((), (), ())))) := by
  refine ZdV (fun n a => ∃ i : Nat, a = ((codes ((l.map fr).take i), l, (l.length : Int), (i : Int), ()), ((), ())) /\ i <= l.length /\ Zf4 ((l.map fr).take i) = none /\ n = l.length - i) _ ?_ (n := l.length) ⟨0, by simp [codes], Nat.zero_le _, rfl, rfl⟩
  rintro n a ⟨i, rfl, h1, h2, rfl⟩
  unfold Zfr
  by_cases hi : i < l.length
  ·have him : i < (l.map fr).length := by rw [List.length_map]; exact hi
   have hgi : (l.map fr)[i] = fr l[i] := by simp
   by_cases e1 : l[i].kind < 0
   ·right
    have he : Zk3 (l.map fr)[i] = some 2 := by rw [hgi]; unfold Zk3; rw [if_pos (.inl e1)]
    exact ⟨_, Zap (dT (by dsimp only; omega)) (Zag (ZcE hi) (Zap (dT e1) rfl)), .inl ⟨2, Zho him h2 he, rfl⟩⟩
   by_cases e2 : 255 < l[i].kind
   ·right
    have he : Zk3 (l.map fr)[i] = some 2 := by rw [hgi]; unfold Zk3; rw [if_pos (.inr e2)]
    exact ⟨_, Zap (dT (by dsimp only; omega)) (Zag (ZcE hi) (ZaC (dF e1) (Zap (dT e2) rfl))), .inl ⟨2, Zho him h2 he, rfl⟩⟩
   by_cases e3 : 262144 < l[i].data.length
   ·right
    have he : Zk3 (l.map fr)[i] = some 3 := by rw [hgi]; unfold Zk3; rw [if_neg (by dsimp only; omega), if_pos e3]
    exact ⟨_, Zap (dT (by dsimp only; omega)) (Zag (ZcE hi) (ZaC (dF e1) (ZaC (dF e2) (Zap (dT (by omega)) rfl)))), .inl ⟨3, Zho him h2 he, rfl⟩⟩
   ·left
    have ok : Zwe (fr l[i]) := ⟨by dsimp only; omega, by dsimp only; omega, by dsimp only; omega⟩
    have hle := Zpk (l.map fr) i him
    rw [hgi] at hle
    have hcl := ZeU (fr l[i])
    have hs : Zx9 [hd (fr l[i]), l[i].data] = some ((Zn5 (fr l[i]) : Int), ()) := by
     unfold Zx9
     rw [if_pos trivial]
     have : ([hd (fr l[i]), l[i].data] : List (List UInt8)).flatten = hd (fr l[i]) ++ (fr l[i]).2 := by simp
     rw [this]
     rfl
    have hcat : Zce [codes ((l.map fr).take i), hd (fr l[i]), le4 (Zn5 (fr l[i])), l[i].data] = some (codes ((l.map fr).take (i + 1)), ((), ())) := by
     have hfl : ([codes ((l.map fr).take i), hd (fr l[i]), le4 (Zn5 (fr l[i])), l[i].data] : List (List UInt8)).flatten = codes ((l.map fr).take (i + 1)) := by
      rw [List.take_succ_eq_append_getElem him, ZjY, hgi]
      simp [code]
     have hfl2 := Zja (l.map fr) (i + 1)
     rw [ZuE _ (by simp) (by rw [hfl]; omega) (by
      rw [hfl]
      intro h
      have := congrArg List.length h
      rw [List.take_succ_eq_append_getElem him, ZjY, hgi, List.length_append, hcl] at this
      simp at this), hfl]
    refine ⟨l.length - (i + 1), _, by omega, Zap (dT (by dsimp only; omega)) (Zag (ZcE hi) (ZaC (dF e1) (ZaC (dF e2) (ZaC (dF (by omega)) (Zag (ZzY ok) (Zag hs (Zag (ZzX (ZrI _)) (Zag hcat rfl)))))))), i + 1, ?_, by omega, ?_, rfl⟩
    ·dsimp only
     rw [w64 (by omega)]
     rfl
    ·rw [Zl8 him h2, hgi, Zwg ok]
  ·right
   obtain rfl : i = l.length := by omega
   have ht : (l.map fr).take l.length = l.map fr := by rw [List.take_of_length_le (by simp)]
   rw [ht] at h2
   refine ⟨_, ZaC (dF (by dsimp only; omega)) rfl, .inr ⟨h2, ?_⟩⟩
   dsimp only
   rw [ht]
 obtain ⟨z, hz, ⟨e, h1, rfl⟩ | ⟨h1, rfl⟩⟩ := key
 ·rw [h1]; unfold Zeb; exact Zag hz rfl
 ·rw [h1]; unfold Zeb; exact Zag hz rfl
end Go.Proofs.YteempnebenjkmaaDoor
