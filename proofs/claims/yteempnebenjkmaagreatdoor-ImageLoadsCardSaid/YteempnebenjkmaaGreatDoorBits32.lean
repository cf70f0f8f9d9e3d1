/- The walk's words on 32-bit numbers, said of BitVec 32. -/
import Derived.WalkKit
import Derived.WalkSpells
import Derived.WalkLawsBesides
import Derived.Laws.BitsAllLaws
import Derived.Test.YteempnebenjkmaaGreatDoorCrc
namespace Go.Proofs.YteempnebenjkmaaGreatDoor
open Go.RowKit
set_option maxRecDepth 100000
namespace B32
theorem lt (x : BitVec 32) : x.toNat < 4294967296 := x.isLt
theorem xor_ (x y : BitVec 32) : Go.bits .xor .u32 (x.toNat : Int) (y.toNat : Int) = ((x ^^^ y).toNat : Int) := by
 rw [u32_xor_nat _ _ (lt x) (lt y), BitVec.toNat_xor]
theorem ZDD (x y : BitVec 32) : Go.bits .and .u32 (x.toNat : Int) (y.toNat : Int) = ((x &&& y).toNat : Int) := by
 rw [u32_and_nat _ _ (lt x) (lt y), BitVec.toNat_and]
theorem xor_byte (x : BitVec 32) (b : UInt8) : Go.bits .xor .u32 (x.toNat : Int) (b.toNat : Int) = ((x ^^^ Crc.byte b).toNat : Int) := by
 have hb := b.toNat_lt
 rw [u32_xor_nat _ _ (lt x) (by omega), BitVec.toNat_xor]
 congr 2
 simp [Crc.byte]
theorem xor_poly (x : BitVec 32) : Go.bits .xor .u32 (x.toNat : Int) 3988292384 = ((x ^^^ Crc.poly).toNat : Int) := xor_ x Crc.poly
theorem and_1 (x : BitVec 32) : Go.bits .and .u32 (x.toNat : Int) 1 = ((x &&& 1#32).toNat : Int) := ZDD x 1#32
theorem and_15 (x : BitVec 32) : Go.bits .and .u32 (x.toNat : Int) 15 = ((x &&& 15#32).toNat : Int) := ZDD x 15#32
theorem shr_1 (x : BitVec 32) : (x.toNat : Int) / (2 : Int) = ((x >>> 1).toNat : Int) := by rw [BitVec.toNat_ushiftRight, Nat.shiftRight_eq_div_pow]; rfl
theorem shr_4 (x : BitVec 32) : (x.toNat : Int) / (16 : Int) = ((x >>> 4).toNat : Int) := by rw [BitVec.toNat_ushiftRight, Nat.shiftRight_eq_div_pow]; rfl
theorem not_ (x : BitVec 32) : Go.bits .xor .u32 IntKind.u32.max (x.toNat : Int) = ((~~~ x).toNat : Int) := by
 rw [show IntKind.u32.max = ((BitVec.allOnes 32).toNat : Int) from by decide, xor_, BitVec.allOnes_xor]
end B32
end Go.Proofs.YteempnebenjkmaaGreatDoor
