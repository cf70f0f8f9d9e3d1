/- The walks of the reference for sums: a bit, a byte, parts, the table. -/
import Derived.Test.YtklmbkkeiihgdaaProg
import Derived.Test.YtklmbkkeiihgdaaBits32
import Derived.Test.YtklmbkkeiihgdaaBa
namespace Go.Proofs.Ytklmbkkeiihgdaa
open Go.RowKit
set_option maxRecDepth 100000
set_option maxHeartbeats 400000 in
theorem bit_any (r d : BitVec 32) (w : World) :
    Calls Try.prog 86 #[.int .u32 (r.toNat : Int), .int .u32 (d.toNat : Int)] w fun e w' => e = .returned (.int .u32 ((Crc.bit r d).toNat : Int)) ∧ w = w' := by
  have h1 := B32.and_1 r
  have h2 := B32.xor_ (r &&& 1#32) d
  have h3 := Lib.hid (B32.shr_1 r)
  have h4 := Lib.hid (B32.xor_poly (r >>> 1))
  have hu : Crc.bit r d = (r >>> 1) ^^^ (if (r &&& 1#32) ^^^ d = 1#32 then Crc.poly else 0#32) := rfl
  rw [h1.symm] at h2
  by_cases ht : (r &&& 1#32) ^^^ d = 1#32
  · rw [if_pos ht] at hu
    have HU := Lib.hid hu
    have hb : (Go.bits .xor .u32 (Go.bits .and .u32 (r.toNat : Int) 1) (d.toNat : Int) == 1) = true := by rw [h2, ht]; decide
    clear h1 h2 hu ht
    go_enter Try.func86, Try.ntmps86
    go_wp2
    go_ret
    exact ⟨ret_int (by rw [h3.out, h4.out, HU.out]), rfl⟩
  · rw [if_neg ht, BitVec.xor_zero] at hu
    have HU := Lib.hid hu
    have hb : (Go.bits .xor .u32 (Go.bits .and .u32 (r.toNat : Int) 1) (d.toNat : Int) == 1) = false := by
      rw [h2]
      simp only [beq_eq_false_iff_ne, ne_eq]
      intro h
      apply ht
      apply BitVec.eq_of_toNat_eq
      have : (1#32).toNat = 1 := rfl
      omega
    clear h1 h2 hu ht
    go_enter Try.func86, Try.ntmps86
    go_wp2
    go_ret
    exact ⟨ret_int (by rw [h3.out, HU.out]), rfl⟩
theorem feed_word (b : UInt8) (k : Nat) : Go.bits .and .u32 ((b.toNat : Int) / 2 ^ k % 4294967296) 1 = ((Crc.bitAt b k).toNat : Int) := by
  have hb := b.toNat_lt
  have h1 : (b.toNat : Int) / 2 ^ k % 4294967296 = ((b.toNat / 2 ^ k : Nat) : Int) := by
    have h2 : b.toNat / 2 ^ k ≤ b.toNat := Nat.div_le_self _ _
    have h3 : ((b.toNat : Int) / 2 ^ k) = ((b.toNat / 2 ^ k : Nat) : Int) := by simp
    rw [h3]
    generalize b.toNat / 2 ^ k = q at *
    omega
  rw [h1]
  have h2 : b.toNat / 2 ^ k ≤ b.toNat := Nat.div_le_self _ _
  rw [show (1 : Int) = ((1 : Nat) : Int) from rfl, u32_and_nat _ 1 (by omega) (by omega)]
  unfold Crc.bitAt
  rw [Nat.testBit_eq_decide_div_mod_eq, Nat.and_one_is_mod]
  by_cases h : b.toNat / 2 ^ k % 2 = 1
  · simp [h]
  · simp [h]; omega
set_option maxHeartbeats 400000 in
theorem rfeed_any (r : BitVec 32) (b : UInt8) (w : World) :
    Calls Try.prog 60 #[.int .u32 (r.toNat : Int), .int .u8 (b.toNat : Int)] w fun e w' => e = .returned (.int .u32 ((Crc.feed r b).toNat : Int)) ∧ w = w' := by
  go_enter Try.func60, Try.ntmps60
  go_wp2
  go_loop [0, 5] (fun x i => ∃ k : Nat, k ≤ 8 ∧ i = .int .i64 k ∧ x = .int .u32 ((Crc.bits r b k).toNat : Int)) (fun _ i => 8 - (intOf i).toNat)
  case atStart => exact ⟨0, by omega, rfl, rfl⟩
  case round =>
    obtain ⟨k, hk, rfl, rfl⟩ := hrel
    by_cases hlt : k < 8
    · have hf := feed_word b k
      have HF := Lib.hid hf
      clear hf
      go_wp2_with fail
      rw [HF.out]
      refine (bit_any _ _ _).mono ?_
      rintro e w1 ⟨rfl, rfl⟩
      go_wp2
      go_round
      case rel => exact ⟨k + 1, by omega, by go_num, rfl⟩
      case measure => simp [intOf]; omega
    · have : k = 8 := by omega
      subst this
      have hb := Lib.hid (Crc.bits_feed r b)
      go_wp2
      go_ret
      exact ⟨ret_int (by rw [hb.out]), rfl⟩
end Go.Proofs.Ytklmbkkeiihgdaa
