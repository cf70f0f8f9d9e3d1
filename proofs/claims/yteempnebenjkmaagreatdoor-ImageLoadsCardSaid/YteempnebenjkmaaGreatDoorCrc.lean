/- Plain mathematics of CRC-32 over BitVec 32: one bit shifted, a byte fed, lists of bytes fed; linearity. No program in sight. -/
namespace Go.Proofs.YteempnebenjkmaaGreatDoor
namespace Crc
def poly : BitVec 32 := 3988292384#32
def step (x : BitVec 32) : BitVec 32 := (x >>> 1) ^^^ (if x.getLsbD 0 then poly else 0#32)
def steps : Nat -> BitVec 32 -> BitVec 32
 | 0, x => x
 | n + 1, x => steps n (step x)
def byte (b : UInt8) : BitVec 32 := BitVec.ofNat 32 b.toNat
def feed (r : BitVec 32) (b : UInt8) : BitVec 32 := steps 8 (r ^^^ byte b)
def feeds (r : BitVec 32) (l : List UInt8) : BitVec 32 := l.foldl feed r
def more (s : BitVec 32) (l : List UInt8) : BitVec 32 := ~~~ (feeds (~~~ s) l)
theorem Zxw (x y : BitVec 32) : step (x ^^^ y) = step x ^^^ step y := by
 unfold step
 rw [BitVec.getLsbD_xor]
 apply BitVec.eq_of_getLsbD_eq
 intro i hi
 cases hx : x.getLsbD 0 <;> cases hy : y.getLsbD 0 <;> simp [Bool.xor_comm, Bool.xor_left_comm]
theorem steps_succ' (n : Nat) (x : BitVec 32) : steps (n + 1) x = step (steps n x) := by
 induction n generalizing x with
 | zero => rfl
 | succ n ih => rw [steps, ih, steps]
theorem steps_add (m n : Nat) (x : BitVec 32) : steps (m + n) x = steps n (steps m x) := by
 induction m generalizing x with
 | zero => simp [steps]
 | succ m ih => rw [Nat.succ_add, steps, ih, steps]
theorem ZpE (n : Nat) (x y : BitVec 32) : steps n (x ^^^ y) = steps n x ^^^ steps n y := by
 induction n generalizing x y with
 | zero => rfl
 | succ n ih => rw [steps, Zxw, ih]; rfl
theorem Zvs (x : BitVec 32) (h : x.getLsbD 0 = false) : step x = x >>> 1 := by
 unfold step; rw [h]; simp
theorem ZlX (n : Nat) (x : BitVec 32) (h : ∀ i, i < n -> x.getLsbD i = false) : steps n x = x >>> n := by
 induction n generalizing x with
 | zero => simp [steps]
 | succ n ih =>
  rw [steps, Zvs x (h 0 (by omega)), ih]
  ·rw [<- BitVec.shiftRight_add, Nat.add_comm]
  ·intro i hi
   rw [BitVec.getLsbD_ushiftRight]
   exact h _ (by omega)
theorem part (n : Nat) (x : BitVec 32) : x = ((x >>> n) <<< n) ^^^ (x &&& BitVec.ofNat 32 (2 ^ n - 1)) := by
 apply BitVec.eq_of_getLsbD_eq
 intro i hi
 simp only [BitVec.getLsbD_xor, BitVec.getLsbD_shiftLeft, BitVec.getLsbD_ushiftRight, BitVec.getLsbD_and, BitVec.getLsbD_ofNat, hi, decide_true, Bool.true_and, Nat.testBit_two_pow_sub_one]
 by_cases h : i < n
 ·simp [h]
 ·simp [h, show n + (i - n) = i from by omega]
theorem Ztj (n : Nat) (x : BitVec 32) : steps n x = (x >>> n) ^^^ steps n (x &&& BitVec.ofNat 32 (2 ^ n - 1)) := by
 conv => lhs; rw [part n x]
 rw [ZpE, ZlX n ((x >>> n) <<< n)]
 ·congr 1
  apply BitVec.eq_of_getLsbD_eq
  intro i hi
  simp only [BitVec.getLsbD_ushiftRight, BitVec.getLsbD_shiftLeft]
  by_cases h : n + i < 32
  ·simp [h]
  ·simp [h, BitVec.getLsbD_of_ge x (n + i) (by omega)]
 ·intro i hi
  simp [BitVec.getLsbD_shiftLeft, hi]
theorem nibble (x : BitVec 32) : steps 4 x = (x >>> 4) ^^^ steps 4 (x &&& 15#32) := Ztj 4 x
theorem feeds_snoc (r : BitVec 32) (a : List UInt8) (b : UInt8) : feeds r (a ++ [b]) = feed (feeds r a) b := by simp [feeds, List.foldl_append]
def bit (r d : BitVec 32) : BitVec 32 := (r >>> 1) ^^^ (if (r &&& 1#32) ^^^ d = 1#32 then poly else 0#32)
def bitAt (b : UInt8) (i : Nat) : BitVec 32 := if b.toNat.testBit i then 1#32 else 0#32
theorem and_one (r : BitVec 32) : r &&& 1#32 = if r.getLsbD 0 then 1#32 else 0#32 := by
 apply BitVec.eq_of_getLsbD_eq
 intro i hi
 rw [BitVec.getLsbD_and]
 cases i with
 | zero => cases h : r.getLsbD 0 <;> simp
 | succ i => cases h : r.getLsbD 0 <;> simp
theorem Zn6 (d : BitVec 32) (hd : d = 0#32 \/ d = 1#32) : d >>> 1 = 0#32 := by rcases hd with rfl | rfl <;> decide
theorem ZBC (r d : BitVec 32) (hd : d = 0#32 \/ d = 1#32) : bit r d = step (r ^^^ d) := by
 unfold bit step
 rw [BitVec.ushiftRight_xor_distrib, Zn6 d hd, BitVec.xor_zero, and_one, BitVec.getLsbD_xor]
 rcases hd with rfl | rfl <;> cases h : r.getLsbD 0 <;> simp
def bits (r : BitVec 32) (b : UInt8) : Nat -> BitVec 32
 | 0 => r
 | i + 1 => bit (bits r b i) (bitAt b i)
def low (b : UInt8) (i : Nat) : BitVec 32 := BitVec.ofNat 32 (b.toNat % 2 ^ i)
theorem Zxx (b : UInt8) (i : Nat) (hi : i < 8) : low b (i + 1) = low b i ^^^ (bitAt b i <<< i) := by
 apply BitVec.eq_of_getLsbD_eq
 intro j hj
 unfold low bitAt
 simp only [BitVec.getLsbD_xor, BitVec.getLsbD_ofNat, BitVec.getLsbD_shiftLeft, hj, decide_true, Bool.true_and, Nat.testBit_mod_two_pow]
 by_cases h1 : j < i
 ·have : j < i + 1 := by omega
  simp [h1, this]
 ·by_cases h2 : j = i
  ·subst h2
   cases h : b.toNat.testBit j <;> simp
  ·have h3 : ¬ j < i + 1 := by omega
   have h4 : 1 <= j - i := by omega
   cases h : b.toNat.testBit i
   ·simp [h1, h3]
   ·simp only [h1, h3, decide_false, Bool.false_and, if_true, Bool.false_xor]
    rw [show j - i = (j - i - 1) + 1 from by omega]
    simp
theorem ZzE (r : BitVec 32) (b : UInt8) (i : Nat) (hi : i <= 8) : bits r b i = steps i (r ^^^ low b i) := by
 induction i with
 | zero => simp [bits, steps, low, Nat.mod_one]
 | succ i ih =>
  have hd : bitAt b i = 0#32 \/ bitAt b i = 1#32 := by unfold bitAt; split <;> simp
  rw [bits, ih (by omega), ZBC _ _ hd, Zxx b i (by omega), steps_succ', <- BitVec.xor_assoc, ZpE i (r ^^^ low b i)]
  congr 2
  rw [ZlX i]
  ·rcases hd with h | h <;> rw [h]
   ·simp
   ·apply BitVec.eq_of_getLsbD_eq
    intro j hj
    simp only [BitVec.getLsbD_ushiftRight, BitVec.getLsbD_shiftLeft]
    by_cases h8 : i + j < 32
    ·simp [h8]
    ·have hj0 : j ≠ 0 := by omega
     rw [show j = (j - 1) + 1 from by omega]
     simp
  ·intro j hj
   simp [BitVec.getLsbD_shiftLeft, hj]
theorem Zvt (b : UInt8) : low b 8 = byte b := by
 unfold low byte
 rw [Nat.mod_eq_of_lt b.toNat_lt]
theorem bits_feed (r : BitVec 32) (b : UInt8) : bits r b 8 = feed r b := by rw [ZzE r b 8 (by omega), Zvt]; rfl
end Crc
end Go.Proofs.YteempnebenjkmaaGreatDoor
