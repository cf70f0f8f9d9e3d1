/- Frames, plainly: as bytes, out of bytes. No program in sight. -/
import Derived.Test.YteempnebenjkmaaGreatDoorCrc
namespace Go.Proofs.YteempnebenjkmaaGreatDoor
def le4 (n : Nat) : List UInt8 := [UInt8.ofNat n, UInt8.ofNat (n / 256), UInt8.ofNat (n / 65536), UInt8.ofNat (n / 16777216)]
abbrev Fr := Int × List UInt8
def hd (f : Fr) : List UInt8 := le4 f.2.length ++ [UInt8.ofNat f.1.toNat]
def ZiT (f : Fr) : Nat := (Crc.more 0#32 (hd f ++ f.2)).toNat
def code (f : Fr) : List UInt8 := hd f ++ (le4 (ZiT f) ++ f.2)
def codes (l : List Fr) : List UInt8 := (l.map code).flatten
def ZkL (f : Fr) : Option Int := if f.1 < 0 \/ 255 < f.1 then some 2 else if 262144 < f.2.length then some 3 else none
def ZfN (l : List Fr) : Option Int := l.findSome? ZkL
theorem Ztn (n : Nat) : (le4 n).length = 4 := rfl
theorem Zl1 (f : Fr) : (hd f).length = 5 := rfl
theorem Zbz (f : Fr) : (code f).length = 9 + f.2.length := by simp [code, hd, le4]; omega
theorem ZjP (l : List Fr) (f : Fr) : codes (l ++ [f]) = codes l ++ code f := by simp [codes]
theorem ZpF (l m : List Fr) : codes (l ++ m) = codes l ++ codes m := by simp [codes]
theorem Znk (f : Fr) (l : List Fr) : codes (f :: l) = code f ++ codes l := rfl
theorem Zn7 (f : Fr) : ZiT f < 4294967296 := (Crc.more 0#32 (hd f ++ f.2)).isLt
theorem Zl2 {l : List Fr} {k : Nat} (hk : k < l.length) (h : ZfN (l.take k) = none) : ZfN (l.take (k + 1)) = ZkL l[k] := by
 unfold ZfN at *
 rw [List.take_succ_eq_append_getElem hk, List.findSome?_append, h]
 simp
theorem ZgU {l : List Fr} {k : Nat} (hk : k < l.length) (h : ZfN (l.take k) = none) {e : Int} (he : ZkL l[k] = some e) : ZfN l = some e := by
 have h2 := Zl2 hk h
 rw [he] at h2
 conv => lhs; rw [<- List.take_append_drop (k + 1) l]
 unfold ZfN at *
 rw [List.findSome?_append, h2]
 rfl
theorem ZiU (l : List Fr) (k : Nat) : (codes (l.take k)).length <= (codes l).length := by
 have h : codes l = codes (l.take k) ++ codes (l.drop k) := by rw [<- ZpF, List.take_append_drop]
 rw [h, List.length_append]
 omega
theorem ZpG (l : List Fr) (k : Nat) (h : k < l.length) : (codes (l.take k)).length + (code l[k]).length <= (codes l).length := by
 have := ZiU l (k + 1)
 rw [List.take_succ_eq_append_getElem h, ZjP, List.length_append] at this
 exact this
def Zvz (l : List UInt8) : Nat -> Nat
 | 0 => 0
 | k + 1 => Zvz l k + (l.getD k 0).toNat * 256 ^ k
theorem ZvA (l : List UInt8) (k : Nat) : Zvz l k < 256 ^ k := by
 induction k with
 | zero => simp [Zvz]
 | succ k ih =>
  have h := (l.getD k 0).toNat_lt
  have h2 : (l.getD k 0).toNat * 256 ^ k <= 255 * 256 ^ k := Nat.mul_le_mul_right _ (by omega)
  rw [Zvz, Nat.pow_succ]
  omega
def num (l : List UInt8) (at_ : Nat) : Nat := Zvz (l.drop at_) 4
theorem ZyC (l : List UInt8) (at_ : Nat) : num l at_ < 4294967296 := ZvA _ 4
def Za3 (b : List UInt8) : Option Fr :=
 if b.length < 9 then none
 else if 262144 < num b 0 \/ b.length - 9 < num b 0 then none
 else if num b 5 = (Crc.more 0#32 (b.take 5 ++ (b.drop 9).take (num b 0))).toNat then some (((b.getD 4 0).toNat : Int), (b.drop 9).take (num b 0)) else none
def Zn8 : Nat -> List UInt8 -> List Fr × Nat
 | 0, _ => ([], 0)
 | k + 1, b => match Za3 b with
  | none => ([], 0)
  | some f => (f :: (Zn8 k (b.drop (9 + f.2.length))).1, 9 + f.2.length + (Zn8 k (b.drop (9 + f.2.length))).2)
def ZaB (b : List UInt8) : List Fr × Nat := Zn8 (b.length + 1) b
theorem ZfO {b : List UInt8} {f : Fr} (h : Za3 b = some f) : 9 + f.2.length <= b.length := by
 unfold Za3 at h
 split at h
 ·cases h
 ·split at h
  ·cases h
  ·split at h
   ·injection h with h
    subst h
    simp only [List.length_take, List.length_drop]
    omega
   ·cases h
end Go.Proofs.YteempnebenjkmaaGreatDoor
