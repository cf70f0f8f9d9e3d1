/- The tables of 256 sums. -/
import Derived.Test.YtcplpfmickdccaaSumR
import Derived.Laws.Tables
namespace Go.Proofs.Ytcplpfmickdccaa
open Go.RowKit
def tabCells (k : Nat) : Array Value := ((List.range 256).map fun i => vU32 (if i < k then Crc.steps 8 (BitVec.ofNat 32 i) else 0#32)).toArray
theorem tabCells_size (k : Nat) : (tabCells k).size = 256 := by simp [tabCells]
theorem tabCells_any (k i : Nat) (hi : i < 256) : ∃ v, (tabCells k)[i]? = some v := by
  unfold tabCells
  simp [hi]
theorem tabCells_fill (k : Nat) : (tabCells k).setIfInBounds k (vU32 (Crc.steps 8 (BitVec.ofNat 32 k))) = tabCells (k + 1) := by
  unfold tabCells
  apply Array.ext'
  simp only [Array.toList_setIfInBounds]
  apply List.ext_getElem
  · simp
  intro i h1 h2
  rw [List.getElem_set]
  simp only [List.getElem_map, List.getElem_range]
  split
  · next e => subst e; simp
  · next e =>
    by_cases h : i < k
    · simp [h, show i < k + 1 from by omega]
    · simp [h, show ¬ i < k + 1 from by omega]
set_option maxRecDepth 100000 in
set_option maxHeartbeats 1000000 in
theorem Table_any (w : World) :
    Calls Try.prog 15 #[] w fun e w' => e = .returned (.agg (tabCells 256)) ∧ Keep (fun _ => False) w w' := by
  have hz : ∀ w, (zeroValue 35).run Try.prog w = .ok (.agg (tabCells 0)) w := fun _ => by kernel_rfl
  go_enter Try.func15, Try.ntmps15
  go_wp2
  clear hz
  go_loopw [2, 3, 4] (fun _ _ i wr => ∃ k : Nat, k ≤ 256 ∧ i = .int .i64 k ∧ Blk wr w.heap.size 35 (tabCells 0) ∧ Blk wr (w.heap.size + 1) 35 (tabCells k) ∧ Keep (fun _ => False) w wr) (fun _ _ i _ => 256 - (intOf i).toNat)
  case atStart => exact ⟨0, by omega, rfl, (Blk.new _ _ _).alloc _, by simpa using Blk.new (w.alloc (.cells (tabCells 0) 35)) 35 (tabCells 0), ((Keep.refl _ _).alloc _).alloc _⟩
  case round =>
    obtain ⟨k, hk, rfl, hA, hB, hK⟩ := hrel
    have HA := Lib.hid hA
    have HB := Lib.hid hB
    have HK := Lib.hid hK
    by_cases hlt : k < 256
    · have hU : ((BitVec.ofNat 32 k).toNat : Int) = (k : Int) := by simp; omega
      have hU' : IntKind.u32.wrap (k : Int) = (k : Int) := by simp [IntKind.wrap, IntKind.bits, IntKind.signed]; omega
      have hU2 : (k : Int) % 4294967296 = (k : Int) := by omega
      have hs := hK.size
      have hBs := hB.lt
      clear hA hB hK
      go_wp2_with fail
      refine (shift_any _ (BitVec.ofNat 32 k) 8 _ (by simp [hU2]) (by simp) (by omega)).mono ?_
      rintro e w1 ⟨rfl, rfl⟩
      have hB := HB.out
      have hc1 : wr.cell? ⟨w.heap.size + 1, k, none⟩ = some ((tabCells k)[k]?.getD (.bool true)) := by
        rw [hB.cell]; obtain ⟨v, hv⟩ := tabCells_any k k hlt; rw [hv]; rfl
      have hf1 : wr.frozen? ⟨w.heap.size + 1, k, none⟩ = false := hB.frozen _
      clear hB hU hU' hU2
      go_wp2
      go_roundw
      case rel =>
        have hP := HB.out.put k (vU32 (Crc.steps 8 (BitVec.ofNat 32 k)))
        rw [tabCells_fill] at hP
        exact ⟨k + 1, by omega, by go_num, (HA.out.far (by simp) _).alloc _, hP.alloc _, (HK.out.setNew (by simp) _).alloc _⟩
      case measure => simp [intOf]; omega
    · have : k = 256 := by omega
      subst this
      clear hA hB hK hlt
      go_wp2_with (first
        | (refine wpList_load_row rfl 35 _ rfl _ rfl 35 _ _ _ HB.out Try.underlying35 rfl ?_ ?_
           · rw [tabCells_size]; kernel_rfl)
        | (refine wpList_store_row rfl 35 _ _ rfl _ (tabCells 256) rfl rfl 35 _ HA.out ?_ ?_ ?_ ?_
           · rw [tabCells_size]; kernel_rfl
           · rw [tabCells_size, tabCells_size]
           · kernel_rfl))
      refine bodyPost_ret (v := .agg (tabCells 256)) ?_ rfl ⟨rfl, HK.out.setRowNew (Nat.le_refl _) _⟩
      exact results_cell_row Try.results15 _ _ w.heap.size 35 (tabCells 256) (0, 0) _ rfl (HA.out.setRow _) Try.underlying35 rfl (by rw [tabCells_size]; kernel_rfl)
set_option maxRecDepth 100000 in
set_option maxHeartbeats 1000000 in
theorem rTable_any (w : World) :
    Calls Try.prog 16 #[] w fun e w' => e = .returned (.agg (tabCells 256)) ∧ Keep (fun _ => False) w w' := by
  have hz : ∀ w, (zeroValue 35).run Try.prog w = .ok (.agg (tabCells 0)) w := fun _ => by kernel_rfl
  go_enter Try.func16, Try.ntmps16
  go_wp2
  clear hz
  go_loopw [2, 3, 4] (fun i _ _ wr => ∃ k : Nat, k ≤ 256 ∧ i = .int .i64 k ∧ Blk wr w.heap.size 35 (tabCells 0) ∧ Blk wr (w.heap.size + 1) 35 (tabCells k) ∧ Keep (fun _ => False) w wr) (fun i _ _ _ => 256 - (intOf i).toNat)
  case atStart => exact ⟨0, by omega, rfl, (Blk.new _ _ _).alloc _, by simpa using Blk.new (w.alloc (.cells (tabCells 0) 35)) 35 (tabCells 0), ((Keep.refl _ _).alloc _).alloc _⟩
  case round =>
    obtain ⟨k, hk, rfl, hA, hB, hK⟩ := hrel
    have HA := Lib.hid hA
    have HB := Lib.hid hB
    have HK := Lib.hid hK
    by_cases hlt : k < 256
    · have hc1 : wr.cell? ⟨w.heap.size + 1, k, none⟩ = some ((tabCells k)[k]?.getD (.bool true)) := by
        rw [hB.cell]; obtain ⟨v, hv⟩ := tabCells_any k k hlt; rw [hv]; rfl
      have hf1 : wr.frozen? ⟨w.heap.size + 1, k, none⟩ = false := hB.frozen _
      have hU2 : (k : Int) % 4294967296 = (k : Int) := by omega
      clear hA hB hK
      obtain ⟨wo, rfl⟩ : ∃ wo : World, wo = wr := ⟨_, rfl⟩
      have hd : decide ((k : Int) < 256) = true := by simp; omega
      go_wp2
      go_loop [3, 4] (fun x i => ∃ j : Nat, j ≤ 8 ∧ i = .int .i64 j ∧ x = .int .u32 ((Crc.steps j (BitVec.ofNat 32 k)).toNat : Int)) (fun _ i => 8 - (intOf i).toNat)
      case atStart => exact ⟨0, by omega, rfl, by simp [Crc.steps]; omega⟩
      case round =>
        obtain ⟨j, hj, rfl, rfl⟩ := hrel
        by_cases hlj : j < 8
        · have HS := Lib.hid (Crc.steps_succ' j (BitVec.ofNat 32 k))
          generalize Crc.steps j (BitVec.ofNat 32 k) = y at *
          go_wp2_with fail
          refine (bit_any y 0#32 _).mono ?_
          rintro e w3 ⟨rfl, rfl⟩
          go_wp2
          go_round
          case rel => exact ⟨j + 1, by omega, by go_num, by rw [HS.out, Crc.bit_zero]⟩
          case measure => simp [intOf]; omega
        · have : j = 8 := by omega
          subst this
          clear hlj
          go_wp2
          go_roundw
          case rel =>
            have hP := HB.out.put k (vU32 (Crc.steps 8 (BitVec.ofNat 32 k)))
            rw [tabCells_fill] at hP
            exact ⟨k + 1, by omega, by go_num, HA.out.far (by simp) _, hP, HK.out.setNew (by simp) _⟩
          case measure => simp [intOf]; omega
    · have : k = 256 := by omega
      subst this
      clear hA hB hK hlt
      go_wp2_with (first
        | (refine wpList_load_row rfl 35 _ rfl _ rfl 35 _ _ _ HB.out Try.underlying35 rfl ?_ ?_
           · rw [tabCells_size]; kernel_rfl)
        | (refine wpList_store_row rfl 35 _ _ rfl _ (tabCells 256) rfl rfl 35 _ HA.out ?_ ?_ ?_ ?_
           · rw [tabCells_size]; kernel_rfl
           · rw [tabCells_size, tabCells_size]
           · kernel_rfl))
      refine bodyPost_ret (v := .agg (tabCells 256)) ?_ rfl ⟨rfl, HK.out.setRowNew (Nat.le_refl _) _⟩
      exact results_cell_row Try.results16 _ _ w.heap.size 35 (tabCells 256) (0, 0) _ rfl (HA.out.setRow _) Try.underlying35 rfl (by rw [tabCells_size]; kernel_rfl)
end Go.Proofs.Ytcplpfmickdccaa
