/- The walks of package sum: one register shifted, a summer begun, a byte fed. -/
import Derived.Test.YteempnebenjkmaaGreatDoorProg
import Derived.Test.YteempnebenjkmaaGreatDoorBits32
import Derived.Test.YteempnebenjkmaaGreatDoorBa
import Derived.BigRegion
namespace Go.Proofs.YteempnebenjkmaaGreatDoor
open Go.RowKit
set_option maxRecDepth 100000
theorem Ztk (y : BitVec 32) : Go.bits .xor .u32 ((y.toNat : Int) / (2 : Int)) ((3988292384 : Int) * Go.bits .and .u32 (y.toNat : Int) 1 % (4294967296 : Int)) = ((Crc.step y).toNat : Int) := by
 rw [B32.shr_1, B32.and_1]
 have hw : (3988292384 : Int) * ((y &&& 1#32).toNat : Int) % (4294967296 : Int) = ((if y.getLsbD 0 then Crc.poly else 0#32).toNat : Int) := by
  rw [Crc.and_one]
  cases y.getLsbD 0 <;> simp [Crc.poly]
 rw [hw, B32.xor_]
 rfl
def Zk2 (x : BitVec 32) : Value := .int .u32 (x.toNat : Int)
set_option maxHeartbeats 400000 in
theorem Zvu (a : Addr) (x : BitVec 32) (n : Nat) (w : World) (hc : w.cell? a = some (.int .u32 (x.toNat : Int))) (hf : w.frozen? a = false) (hn : n <= 1000) :
 Calls Tryz.prog 223 #[.pointer (some a), .int .i64 n] w fun e w' => e = .returned (.tuple #[]) /\ w.setCell a (.int .u32 ((Crc.steps n x).toNat : Int)) = w' := by
 go_enter Tryz.func223, Tryz.ntmps223
 go_wp2
 go_loopw [6] (fun i wr => ∃ k : Nat, k <= n /\ i = .int .i64 k /\ wr = w.setCell a (.int .u32 ((Crc.steps k x).toNat : Int))) (fun i _ => n - (intOf i).toNat)
 case atStart => exact ⟨0, by omega, rfl, (ZsH hc).symm⟩
 case round =>
  obtain ⟨k, hk, rfl, rfl⟩ := hrel
  by_cases hlt : k < n
  ·have hS := Lib.hid (Crc.steps_succ' k x)
   have hT := Lib.hid (Ztk (Crc.steps k x))
   go_wp2
   go_roundw
   case rel => exact ⟨k + 1, by omega, by go_num, by rw [ZnD, hT.out, hS.out]⟩
   case measure => simp [intOf]; omega
  ·go_wp2
   have : k = n := by omega
   subst this
   go_end0
   exact ⟨rfl, rfl⟩
def ZaX (x : BitVec 32) (k : Nat) : Array Value := (Zk2 x :: (List.range 16).map fun i => Zk2 (if i < k then Crc.steps 4 (BitVec.ofNat 32 i) else 0#32)).toArray
theorem ZjO (x : BitVec 32) : ZaX x 0 = #[Zk2 x, Zk2 0#32, Zk2 0#32, Zk2 0#32, Zk2 0#32, Zk2 0#32, Zk2 0#32, Zk2 0#32, Zk2 0#32, Zk2 0#32, Zk2 0#32, Zk2 0#32, Zk2 0#32, Zk2 0#32, Zk2 0#32, Zk2 0#32, Zk2 0#32] := by
 simp [ZaX, List.range_succ_eq_map]
theorem ZlY (x : BitVec 32) (i : Nat) (hi : i < 16) : (ZaX x 16)[1 + i]? = some (Zk2 (Crc.steps 4 (BitVec.ofNat 32 i))) := by
 unfold ZaX
 rw [Nat.add_comm]
 simp [hi]
theorem ZlZ (x : BitVec 32) (k i : Nat) (hi : i < 16) : ∃ v, (ZaX x k)[1 + i]? = some v := by
 unfold ZaX
 rw [Nat.add_comm]
 simp [hi]
theorem ZkK (x : BitVec 32) (k : Nat) : (ZaX x k).setIfInBounds (1 + k) (Zk2 (Crc.steps 4 (BitVec.ofNat 32 k))) = ZaX x (k + 1) := by
 unfold ZaX
 apply Array.ext'
 simp only [Array.toList_setIfInBounds, Nat.add_comm 1 k, List.set_cons_succ]
 congr 1
 apply List.ext_getElem
 ·simp
 intro i h1 h2
 rw [List.getElem_set]
 simp only [List.getElem_map, List.getElem_range]
 split
 ·next e => subst e; simp
 ·next e =>
  by_cases h : i < k
  ·simp [h, show i < k + 1 from by omega]
  ·simp [h, show ¬ i < k + 1 from by omega]
theorem Zvv (k : Nat) (hk : k < 16) : ((BitVec.ofNat 32 k).toNat : Int) = (k : Int) := by simp; omega
set_option maxHeartbeats 1000000 in
theorem Zvw (x : BitVec 32) (w : World) :
 Calls Tryz.prog 200 #[.int .u32 (x.toNat : Int)] w fun e w' => ∃ g, e = .returned (.pointer (some ⟨g, 0, none⟩)) /\ w.heap.size <= g /\ Blk w' g 328 (ZaX x 16) /\ Zcq (fun _ => False) w w' := by
 go_enter Tryz.func200, Tryz.ntmps200
 go_wp2
 go_loopw [4, 5, 10] (fun _ _ i wr => ∃ k : Nat, k <= 16 /\ i = .int .i64 k /\ Blk wr w.heap.size 328 (ZaX x k) /\ Zcq (fun _ => False) w wr) (fun _ _ i _ => 16 - (intOf i).toNat)
 case atStart => exact ⟨0, by omega, rfl, by rw [ZjO]; exact Blk.new _ _ _, (Zcq.refl _ _).alloc _⟩
 case round =>
  obtain ⟨k, hk, rfl, hB, hK⟩ := hrel
  by_cases hlt : k < 16
  ·have hU := Zvv k hlt
   have hU' : IntKind.u32.wrap (k : Int) = ((BitVec.ofNat 32 k).toNat : Int) := by rw [hU]; simp [IntKind.wrap, IntKind.bits, IntKind.signed]; omega
   have HB := Lib.hid hB
   have HK := Lib.hid hK
   have hs := hK.size
   have hBs := hB.lt
   clear hB hK
   go_wp2_with fail
   refine (Zvu _ (BitVec.ofNat 32 k) 4 _ (by simp) (by simp) (by omega)).mono ?_
   rintro e w1 ⟨rfl, rfl⟩
   have hB := HB.out
   have hc1 : wr.cell? ⟨w.heap.size, 1 + k, none⟩ = some ((ZaX x k)[1 + k]?.getD (.bool true)) := by
    rw [hB.cell]; obtain ⟨v, hv⟩ := ZlZ x k k hlt; rw [hv]; rfl
   have hf1 : wr.frozen? ⟨w.heap.size, 1 + k, none⟩ = false := hB.frozen _
   clear hB
   go_wp2
   go_region
   go_wp2
   go_roundw
   case rel =>
    have hP := HB.out.put (1 + k) (Zk2 (Crc.steps 4 (BitVec.ofNat 32 k)))
    rw [ZkK] at hP
    exact ⟨k + 1, by omega, by go_num, (hP.alloc _).drew, ((HK.out.setNew (Nat.le_refl _) _).alloc _).drew⟩
   case measure => simp [intOf]; omega
  ·go_wp2
   have : k = 16 := by omega
   subst this
   go_ret
   exact ⟨w.heap.size, rfl, Nat.le_refl _, hB, hK⟩
theorem Ztl (y : BitVec 32) : Go.bits .xor .u32 ((y.toNat : Int) / (16 : Int)) ((Crc.steps 4 (BitVec.ofNat 32 (y &&& 15#32).toNat)).toNat : Int) = ((Crc.steps 4 y).toNat : Int) := by
 rw [B32.shr_4, B32.xor_, Crc.nibble y]
 simp
set_option maxHeartbeats 1000000 in
theorem Zvx (g : Nat) (x : BitVec 32) (b : UInt8) (w : World) (hB : Blk w g 328 (ZaX x 16)) :
 Calls Tryz.prog 201 #[.pointer (some ⟨g, 0, none⟩), .int .u8 (b.toNat : Int)] w fun e w' => e = .returned (.tuple #[]) /\ Blk w' g 328 (ZaX (Crc.feed x b) 16) /\ Zcq (fun k => k = g) w w' := by
 go_enter Tryz.func201, Tryz.ntmps201
 have hc0 : w.cell? ⟨g, 0, none⟩ = some (.int .u32 (x.toNat : Int)) := by rw [hB.cell]; rfl
 have hf0 : w.frozen? ⟨g, 0, none⟩ = false := hB.frozen _
 have hx := B32.xor_byte x b
 have hb : (b.toNat : Int) % 4294967296 = b.toNat := by have := b.toNat_lt; omega
 have HB := Lib.hid hB
 clear hB
 go_wp2
 go_loopw [15] (fun i wr => ∃ k : Nat, k <= 2 /\ i = .int .i64 k /\ Blk wr g 328 (ZaX (Crc.steps (4 * k) (x ^^^ Crc.byte b)) 16) /\ Zcq (fun k => k = g) w wr) (fun i _ => 2 - (intOf i).toNat)
 case atStart => exact ⟨0, by omega, rfl, HB.out.put 0 (Zk2 (x ^^^ Crc.byte b)), (Zcq.refl _ _).put (by rfl) _ _⟩
 case round =>
  obtain ⟨k, hk, rfl, hB, hK⟩ := hrel
  by_cases hlt : k < 2
  ·have hS := Lib.hid (Crc.steps_add (4 * k) 4 (x ^^^ Crc.byte b))
   clear hc0 hf0 hx hb
   generalize hy : Crc.steps (4 * k) (x ^^^ Crc.byte b) = y at *
   have hc0 : wr.cell? ⟨g, 0, none⟩ = some (.int .u32 (y.toNat : Int)) := by rw [hB.cell]; rfl
   have hf0 : wr.frozen? ⟨g, 0, none⟩ = false := hB.frozen _
   have ha := B32.and_15 y
   have hl : (y &&& 15#32).toNat < 16 := by rw [BitVec.toNat_and]; exact Nat.lt_succ_of_le Nat.and_le_right
   have hW := Ztl y
   generalize (y &&& 15#32).toNat = i at *
   have hc1 : wr.cell? ⟨g, 1 + i, none⟩ = some (.int .u32 ((Crc.steps 4 (BitVec.ofNat 32 i)).toNat : Int)) := by rw [hB.cell]; exact ZlY _ _ hl
   have HB := Lib.hid hB
   have HK := Lib.hid hK
   clear hB hK hy
   go_wp2
   go_region
   go_wp2
   go_roundw
   case rel =>
    refine ⟨k + 1, by omega, by go_num, ?_, (HK.out.put (by rfl) _ _).drew⟩
    rw [show 4 * (k + 1) = 4 * k + 4 from by omega, hS.out]
    exact (HB.out.put 0 (Zk2 (Crc.steps 4 y))).drew
   case measure => simp [intOf]; omega
  ·go_wp2
   have : k = 2 := by omega
   subst this
   go_end0
   exact ⟨rfl, hB, hK⟩
end Go.Proofs.YteempnebenjkmaaGreatDoor
