/- Numbers as bytes, and out of bytes, plainly. -/
import Derived.Test.YteempnebenjkmaaGreatDoorPl
import Derived.Test.YteempnebenjkmaaGreatDoorTb
import Derived.Laws.BitsAllLaws
namespace Go.Proofs.YteempnebenjkmaaGreatDoor
open Go.RowKit
set_option maxRecDepth 100000
set_option linter.unusedVariables false
set_option linter.unusedSimpArgs false
theorem ZDE {n : Int} (h : 0 <= n /\ n < 256) : b8 n = some (UInt8.ofNat n.toNat) := by
 unfold b8 g8
 dsimp only
 rw [if_pos h]
 rfl
def ZkE (n : Nat) : List UInt8 := if h : n < 128 then [UInt8.ofNat n] else UInt8.ofNat (n % 128 + 128) :: ZkE (n / 128)
termination_by n
decreasing_by omega
theorem Zj6 {n : Nat} (h : n < 128) : ZkE n = [UInt8.ofNat n] := by rw [ZkE, dif_pos h]
theorem Zmp {n : Nat} (h : ¬ n < 128) : ZkE n = UInt8.ofNat (n % 128 + 128) :: ZkE (n / 128) := by rw [ZkE, dif_neg h]
theorem ZxH (k : Nat) : ∀ n, n < 128 ^ (k + 1) -> (ZkE n).length <= k + 1 := by
 induction k with
 | zero => intro n h; rw [Zj6 (by simpa using h)]; simp
 | succ k ih =>
  intro n h
  by_cases h1 : n < 128
  ·rw [Zj6 h1]; simp
  ·rw [Zmp h1, List.length_cons]
   have := ih (n / 128) (by rw [Nat.pow_succ] at h; omega)
   omega
theorem Zhc {n : Nat} (h : n <= 4611686018427387903) : (ZkE n).length <= 9 := ZxH 8 n (by omega)
theorem Zsh (n : Nat) : 1 <= (ZkE n).length := by
 by_cases h : n < 128
 ·rw [Zj6 h]; simp
 ·rw [Zmp h]; simp
theorem ZBL (m : Nat) (h : m < 128) : m ||| 128 = m + 128 := by
 have := Nat.two_pow_add_eq_or_of_lt (i := 7) (b := m) (by omega) 1
 rw [Nat.or_comm]
 simpa [Nat.add_comm] using this.symm
theorem ZhH (w n : Nat) : BitVec.ofInt w (n : Int) = BitVec.ofNat w n := by
 apply BitVec.eq_of_toNat_eq
 simp
theorem ZzS (n : Nat) : b8 (IntKind.u8.wrap ((BitVec.ofInt (IntKind.u8.bits) (IntKind.u8.wrap (n : Int)) ||| BitVec.ofInt (IntKind.u8.bits) 128).toNat)) = some (UInt8.ofNat (n % 128 + 128)) := by
 have hb : IntKind.u8.bits = 8 := rfl
 have hw : IntKind.u8.wrap (n : Int) = ((n % 256 : Nat) : Int) := by rw [IntKind.wrap_u8]; omega
 have h8 : (BitVec.ofNat 8 (n % 256) ||| BitVec.ofNat 8 128).toNat = n % 128 + 128 := by
  rw [BitVec.toNat_or, BitVec.toNat_ofNat, BitVec.toNat_ofNat]
  have hs : n % 256 % 2 ^ 8 = n % 128 \/ n % 256 % 2 ^ 8 = n % 128 + 128 := by omega
  rw [show 128 % 2 ^ 8 = 128 from rfl]
  rcases hs with hs | hs
  ·rw [hs, ZBL _ (by omega)]
  ·rw [hs, <- ZBL _ (show n % 128 < 128 by omega), Nat.or_assoc, Nat.or_self]
 rw [hb, hw, ZhH, show (128 : Int) = ((128 : Nat) : Int) from rfl, ZhH, h8, IntKind.wrap_u8, ZDE (by omega)]
 congr 2
 omega
theorem ZzT (n : Nat) : b8 (IntKind.u8.wrap (n : Int)) = some (UInt8.ofNat n) := by
 rw [IntKind.wrap_u8, ZDE (by omega)]
 congr 1
 apply UInt8.toNat_inj.1
 rw [UInt8.toNat_ofNat', UInt8.toNat_ofNat']
 omega
theorem ZDX (n : Nat) : (n : Int).fdiv (2 ^ min (7 : Int).toNat (IntKind.i64.bits)) = ((n / 128 : Nat) : Int) := by
 rw [show (2 : Int) ^ min (7 : Int).toNat (IntKind.i64.bits) = 128 from rfl, Int.fdiv_eq_ediv_of_nonneg _ (by omega)]
 rfl
theorem ZvY (b : UInt8) (acc i : Nat) (hi : i <= 8) (ha : acc < 2 ^ (7 * i)) (s : Int) (hs : s.toNat = 7 * i) :
 (IntKind.i64.wrap ((BitVec.ofInt (IntKind.i64.bits) (acc : Int) ||| BitVec.ofInt (IntKind.i64.bits) (IntKind.i64.wrap ((IntKind.i64.wrap (IntKind.u8.wrap ((BitVec.ofInt (IntKind.u8.bits) (b.toNat : Int) &&& BitVec.ofInt (IntKind.u8.bits) 127).toNat))) * 2 ^ min s.toNat (IntKind.i64.bits)))).toNat)) = ((acc + b.toNat % 128 * 2 ^ (7 * i) : Nat) : Int) := by
 have hb : IntKind.i64.bits = 64 := rfl
 have hb8 : IntKind.u8.bits = 8 := rfl
 have hbl := b.toNat_lt
 have h8 : (BitVec.ofNat 8 b.toNat &&& BitVec.ofNat 8 127).toNat = b.toNat % 128 := by
  rw [BitVec.toNat_and, BitVec.toNat_ofNat, BitVec.toNat_ofNat, Nat.mod_eq_of_lt hbl, show 127 % 2 ^ 8 = 2 ^ 7 - 1 from rfl, Nat.and_two_pow_sub_one_eq_mod]
 have hp : (2 : Nat) ^ (7 * i) <= 2 ^ 56 := Nat.pow_le_pow_right (by omega) (by omega)
 have hm : b.toNat % 128 * 2 ^ (7 * i) <= 127 * 2 ^ 56 := Nat.mul_le_mul (by omega) hp
 have hmul : ((b.toNat % 128 : Nat) : Int) * 2 ^ (7 * i) = ((b.toNat % 128 * 2 ^ (7 * i) : Nat) : Int) := by simp
 rw [hb, hb8, ZhH 8, show (127 : Int) = ((127 : Nat) : Int) from rfl, ZhH 8, h8, IntWalk.u8_in _ (by omega), w64 (n := ((b.toNat % 128 : Nat) : Int)) (by omega), hs, Nat.min_eq_left (by omega), hmul]
 generalize hq : b.toNat % 128 * 2 ^ (7 * i) = q at hm
 rw [w64 (n := (q : Int)) (by omega), ZhH, ZhH, BitVec.toNat_or, BitVec.toNat_ofNat, BitVec.toNat_ofNat, Nat.mod_eq_of_lt (show acc < 2 ^ 64 by omega), Nat.mod_eq_of_lt (show q < 2 ^ 64 by omega)]
 have hor : acc ||| q = acc + q := by
  rw [<- hq, Nat.mul_comm, Nat.or_comm, Nat.add_comm]
  exact (Nat.two_pow_add_eq_or_of_lt ha _).symm
 rw [hor, w64 (by omega)]
def top : Nat := 4611686018427387903
def ZkR : Nat -> Nat -> Nat -> List UInt8 -> Option (Nat × List UInt8)
 | 0, _, _, _ => none
 | k + 1, i, acc, l => match l with
  | [] => none
  | b :: l => if b.toNat < 128 then (if (0 < i /\ b.toNat = 0) \/ top < acc + b.toNat % 128 * 2 ^ (7 * i) then none else some (acc + b.toNat % 128 * 2 ^ (7 * i), l)) else ZkR k (i + 1) (acc + b.toNat % 128 * 2 ^ (7 * i)) l
def ZBM (most : Nat) (l : List UInt8) : Option (Nat × List UInt8) := (ZkR 9 0 0 l).bind fun p => if most < p.1 then none else some p
theorem ZoC : ∀ (k i acc : Nat) (l : List UInt8) {n : Nat} {r : List UInt8}, ZkR k i acc l = some (n, r) -> n <= top /\ r.length + 1 <= l.length /\ ∃ m, r = l.drop m /\ m <= l.length
 | 0, _, _, _, _, _, h => by cases h
 | k + 1, i, acc, [], _, _, h => by cases h
 | k + 1, i, acc, b :: l, n, r, h => by
  unfold ZkR at h
  dsimp only at h
  split at h
  ·split at h
   ·cases h
   ·rename_i h2
    injection h with h
    injection h with h3 h4
    subst h3 h4
    exact ⟨by omega, by simp, 1, rfl, by simp⟩
  ·obtain ⟨g1, g2, m, g3, g4⟩ := ZoC k _ _ l h
   exact ⟨g1, by rw [List.length_cons]; omega, m + 1, g3, by rw [List.length_cons]; omega⟩
end Go.Proofs.YteempnebenjkmaaGreatDoor
