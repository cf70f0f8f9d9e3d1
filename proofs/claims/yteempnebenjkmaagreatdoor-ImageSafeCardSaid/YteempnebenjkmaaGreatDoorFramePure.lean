/- Frames, plainly: as bytes, out of bytes. No program in sight. -/
import Derived.Test.YteempnebenjkmaaGreatDoorCrc
namespace Go.Proofs.YteempnebenjkmaaGreatDoor
def le4 (n : Nat) : List UInt8 := [UInt8.ofNat n, UInt8.ofNat (n / 256), UInt8.ofNat (n / 65536), UInt8.ofNat (n / 16777216)]
abbrev Fr := Int × List UInt8
def hd (f : Fr) : List UInt8 := le4 f.2.length ++ [UInt8.ofNat f.1.toNat]
def ZnL (f : Fr) : Nat := (Crc.more 0#32 (hd f ++ f.2)).toNat
def code (f : Fr) : List UInt8 := hd f ++ (le4 (ZnL f) ++ f.2)
def codes (l : List Fr) : List UInt8 := (l.map code).flatten
def ZkA (f : Fr) : Option Int := if f.1 < 0 \/ 255 < f.1 then some 2 else if 262144 < f.2.length then some 3 else none
def Zfy (l : List Fr) : Option Int := l.findSome? ZkA
theorem ZsY (n : Nat) : (le4 n).length = 4 := rfl
theorem ZuX (f : Fr) : (hd f).length = 5 := rfl
theorem ZeE (f : Fr) : (code f).length = 9 + f.2.length := by simp [code, hd, le4]; omega
theorem ZjC (l : List Fr) (f : Fr) : codes (l ++ [f]) = codes l ++ code f := by simp [codes]
theorem Zo8 (l m : List Fr) : codes (l ++ m) = codes l ++ codes m := by simp [codes]
theorem ZsZ (f : Fr) (l : List Fr) : codes (f :: l) = code f ++ codes l := rfl
theorem ZrS (f : Fr) : ZnL f < 4294967296 := (Crc.more 0#32 (hd f ++ f.2)).isLt
theorem ZlO {l : List Fr} {k : Nat} (hk : k < l.length) (h : Zfy (l.take k) = none) : Zfy (l.take (k + 1)) = ZkA l[k] := by
 unfold Zfy at *
 rw [List.take_succ_eq_append_getElem hk, List.findSome?_append, h]
 simp
theorem Zg3 {l : List Fr} {k : Nat} (hk : k < l.length) (h : Zfy (l.take k) = none) {e : Int} (he : ZkA l[k] = some e) : Zfy l = some e := by
 have h2 := ZlO hk h
 rw [he] at h2
 conv => lhs; rw [<- List.take_append_drop (k + 1) l]
 unfold Zfy at *
 rw [List.findSome?_append, h2]
 rfl
theorem ZiP (l : List Fr) (k : Nat) : (codes (l.take k)).length <= (codes l).length := by
 have h : codes l = codes (l.take k) ++ codes (l.drop k) := by rw [<- Zo8, List.take_append_drop]
 rw [h, List.length_append]
 omega
theorem Zo9 (l : List Fr) (k : Nat) (h : k < l.length) : (codes (l.take k)).length + (code l[k]).length <= (codes l).length := by
 have := ZiP l (k + 1)
 rw [List.take_succ_eq_append_getElem h, ZjC, List.length_append] at this
 exact this
def ZvM (l : List UInt8) : Nat -> Nat
 | 0 => 0
 | k + 1 => ZvM l k + (l.getD k 0).toNat * 256 ^ k
theorem ZuY (l : List UInt8) (k : Nat) : ZvM l k < 256 ^ k := by
 induction k with
 | zero => simp [ZvM]
 | succ k ih =>
  have h := (l.getD k 0).toNat_lt
  have h2 : (l.getD k 0).toNat * 256 ^ k <= 255 * 256 ^ k := Nat.mul_le_mul_right _ (by omega)
  rw [ZvM, Nat.pow_succ]
  omega
def num (l : List UInt8) (at_ : Nat) : Nat := ZvM (l.drop at_) 4
theorem ZAr (l : List UInt8) (at_ : Nat) : num l at_ < 4294967296 := ZuY _ 4
def Zcm (b : List UInt8) : Option Fr :=
 if b.length < 9 then none
 else if 262144 < num b 0 \/ b.length - 9 < num b 0 then none
 else if num b 5 = (Crc.more 0#32 (b.take 5 ++ (b.drop 9).take (num b 0))).toNat then some (((b.getD 4 0).toNat : Int), (b.drop 9).take (num b 0)) else none
def ZnM : Nat -> List UInt8 -> List Fr × Nat
 | 0, _ => ([], 0)
 | k + 1, b => match Zcm b with
  | none => ([], 0)
  | some f => (f :: (ZnM k (b.drop (9 + f.2.length))).1, 9 + f.2.length + (ZnM k (b.drop (9 + f.2.length))).2)
def Zdu (b : List UInt8) : List Fr × Nat := ZnM (b.length + 1) b
theorem ZjD {b : List UInt8} {f : Fr} (h : Zcm b = some f) : 9 + f.2.length <= b.length := by
 unfold Zcm at h
 split at h
 ·cases h
 ·split at h
  ·cases h
  ·split at h
   ·injection h with h
    subst h
    simp only [List.length_take, List.length_drop]
    omega
   ·cases h
end Go.Proofs.YteempnebenjkmaaGreatDoor
