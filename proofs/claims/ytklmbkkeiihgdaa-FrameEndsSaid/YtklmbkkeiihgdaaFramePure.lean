/- Frames, plainly: as bytes, out of bytes. No program in sight. -/
import Derived.Test.YtklmbkkeiihgdaaCrc
namespace Go.Proofs.Ytklmbkkeiihgdaa
def le4 (n : Nat) : List UInt8 := [UInt8.ofNat n, UInt8.ofNat (n / 256), UInt8.ofNat (n / 65536), UInt8.ofNat (n / 16777216)]
/-- A frame: its kind, its bytes. -/
abbrev Fr := Int × List UInt8
def hd (f : Fr) : List UInt8 := le4 f.2.length ++ [UInt8.ofNat f.1.toNat]
def crcOf (f : Fr) : Nat := (Crc.more 0#32 (hd f ++ f.2)).toNat
def code (f : Fr) : List UInt8 := hd f ++ (le4 (crcOf f) ++ f.2)
def codes (l : List Fr) : List UInt8 := (l.map code).flatten
def frErr (f : Fr) : Option Int := if f.1 < 0 ∨ 255 < f.1 then some 2 else if 262144 < f.2.length then some 3 else none
def putErr (l : List Fr) : Option Int := l.findSome? frErr
theorem le4_length (n : Nat) : (le4 n).length = 4 := rfl
theorem hd_length (f : Fr) : (hd f).length = 5 := rfl
theorem code_length (f : Fr) : (code f).length = 9 + f.2.length := by simp [code, hd, le4]; omega
theorem codes_snoc (l : List Fr) (f : Fr) : codes (l ++ [f]) = codes l ++ code f := by simp [codes]
theorem codes_append (l m : List Fr) : codes (l ++ m) = codes l ++ codes m := by simp [codes]
theorem codes_cons (f : Fr) (l : List Fr) : codes (f :: l) = code f ++ codes l := rfl
theorem crcOf_lt (f : Fr) : crcOf f < 4294967296 := (Crc.more 0#32 (hd f ++ f.2)).isLt
theorem putErr_take {l : List Fr} {k : Nat} (hk : k < l.length) (h : putErr (l.take k) = none) : putErr (l.take (k + 1)) = frErr l[k] := by
  unfold putErr at *
  rw [List.take_succ_eq_append_getElem hk, List.findSome?_append, h]
  simp
theorem putErr_first {l : List Fr} {k : Nat} (hk : k < l.length) (h : putErr (l.take k) = none) {e : Int} (he : frErr l[k] = some e) : putErr l = some e := by
  have h2 := putErr_take hk h
  rw [he] at h2
  conv => lhs; rw [← List.take_append_drop (k + 1) l]
  unfold putErr at *
  rw [List.findSome?_append, h2]
  rfl
theorem codes_take_le (l : List Fr) (k : Nat) : (codes (l.take k)).length ≤ (codes l).length := by
  have h : codes l = codes (l.take k) ++ codes (l.drop k) := by rw [← codes_append, List.take_append_drop]
  rw [h, List.length_append]
  omega
theorem codes_get_le (l : List Fr) (k : Nat) (h : k < l.length) : (codes (l.take k)).length + (code l[k]).length ≤ (codes l).length := by
  have := codes_take_le l (k + 1)
  rw [List.take_succ_eq_append_getElem h, codes_snoc, List.length_append] at this
  exact this
/-- A number of bytes, the lowest first. -/
def numN (l : List UInt8) : Nat → Nat
  | 0 => 0
  | k + 1 => numN l k + (l.getD k 0).toNat * 256 ^ k
theorem numN_lt (l : List UInt8) (k : Nat) : numN l k < 256 ^ k := by
  induction k with
  | zero => simp [numN]
  | succ k ih =>
    have h := (l.getD k 0).toNat_lt
    have h2 : (l.getD k 0).toNat * 256 ^ k ≤ 255 * 256 ^ k := Nat.mul_le_mul_right _ (by omega)
    rw [numN, Nat.pow_succ]
    omega
def num (l : List UInt8) (at_ : Nat) : Nat := numN (l.drop at_) 4
theorem num_lt (l : List UInt8) (at_ : Nat) : num l at_ < 4294967296 := numN_lt _ 4
/-- The frame that bytes begin with. -/
def nextFr (b : List UInt8) : Option Fr :=
  if b.length < 9 then none
  else if 262144 < num b 0 ∨ b.length - 9 < num b 0 then none
  else if num b 5 = (Crc.more 0#32 (b.take 5 ++ (b.drop 9).take (num b 0))).toNat then some (((b.getD 4 0).toNat : Int), (b.drop 9).take (num b 0)) else none
/-- All frames that bytes begin with, and how many bytes they are. -/
def getFr : Nat → List UInt8 → List Fr × Nat
  | 0, _ => ([], 0)
  | k + 1, b => match nextFr b with
    | none => ([], 0)
    | some f => (f :: (getFr k (b.drop (9 + f.2.length))).1, 9 + f.2.length + (getFr k (b.drop (9 + f.2.length))).2)
def getAll (b : List UInt8) : List Fr × Nat := getFr (b.length + 1) b
theorem nextFr_len {b : List UInt8} {f : Fr} (h : nextFr b = some f) : 9 + f.2.length ≤ b.length := by
  unfold nextFr at h
  split at h
  · cases h
  · split at h
    · cases h
    · split at h
      · injection h with h
        subst h
        simp only [List.length_take, List.length_drop]
        omega
      · cases h
end Go.Proofs.Ytklmbkkeiihgdaa
