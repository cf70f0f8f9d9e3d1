/- The walks of package sum over parts: More, Sum. -/
import Derived.Test.YteempnebenjkmaaGreatDoorSumW
import Derived.Test.YteempnebenjkmaaGreatDoorRows2
namespace Go.Proofs.YteempnebenjkmaaGreatDoor
open Go.RowKit
set_option maxRecDepth 100000
set_option maxHeartbeats 1000000 in
theorem Zxy (F : Nat -> Prop) (rs : List (List UInt8)) (A : Option Addr) (n c : Nat) (s : BitVec 32) (w : World) (hr : Rep F w (ZmA rs) (.slice A n c)) :
 Calls Tryz.prog 162 #[.int .u32 (s.toNat : Int), .slice A n c] w fun e w' => e = .returned (.int .u32 ((Crc.more s rs.flatten).toNat : Int)) /\ Zcq (fun _ => False) w w' := by
 have hm := hr.rows_max
 have HR := Lib.hid (Rep.bound _ hr)
 clear hr
 have hno := Lib.hid (B32.not_ s)
 go_enter Tryz.func162, Tryz.ntmps162
 go_wp2_with fail
 rw [hno.out]
 refine (Zvw (~~~ s) w).mono ?_
 rintro e w1 ⟨g, rfl, hg, hB, hK⟩
 have HB1 := Lib.hid hB
 have HK1 := Lib.hid hK
 have HG := Lib.hid hg
 clear hg hB hK
 go_wp2_with fail
 go_loopw [7, 9, 15, 19, 20, 21, 22, 23, 24, 25, 26, 27, 28] (fun _ _ i _ _ _ _ _ _ _ _ _ _ wr => ∃ k : Nat, k <= n /\ i = .int .i64 k /\ Blk wr g 328 (ZaX (Crc.feeds (~~~ s) (rs.take k).flatten) 16) /\ Zcq (fun _ => False) w wr) (fun _ _ i _ _ _ _ _ _ _ _ _ _ _ => n - (intOf i).toNat)
 case atStart => exact ⟨0, by omega, rfl, HB1.out, HK1.out⟩
 case round =>
  obtain ⟨k, hk, rfl, hB, hK⟩ := hrel
  have HB := Lib.hid hB
  have HK := Lib.hid hK
  by_cases hlt : k < n
  ·obtain ⟨ad, A', c', rfl, hlr, hc1, hRk⟩ := (HR.out.kept hK).rows_at hlt
   have hm2 := hRk.bytes_max
   have HRk := Lib.hid hRk
   clear hB hK hRk
   obtain ⟨wo, rfl⟩ : ∃ wo : World, wo = wr := ⟨_, rfl⟩
   go_wp2_with fail
   go_loopw [9, 21] (fun _ i wr => ∃ j : Nat, j <= rs[k].length /\ i = .int .i64 j /\ Blk wr g 328 (ZaX (Crc.feeds (~~~ s) ((rs.take k).flatten ++ rs[k].take j)) 16) /\ Zcq (fun _ => False) w wr /\ Zcq (fun b => b = g) wo wr) (fun _ i _ => rs[k].length - (intOf i).toNat)
   case atStart => exact ⟨0, by omega, rfl, by simpa using HB.out, HK.out, Zcq.refl _ _⟩
   case round =>
    obtain ⟨j, hj, rfl, hBj, hKj, hKo⟩ := hrel
    have HBj := Lib.hid hBj
    have HKj := Lib.hid hKj
    have HKo := Lib.hid hKo
    by_cases hlj : j < rs[k].length
    ·obtain ⟨ad', rfl, _, _, hlb, hc2⟩ := (HRk.out.keeps hKo (fun b hb _ hbg => by have := HG.out; omega)).bytes_at hlj
     clear hBj hKj hKo
     go_wp2_with fail
     refine (Zvx g _ (rs[k][j]) _ HBj.out).mono ?_
     rintro e w3 ⟨rfl, hB3, hK3⟩
     have HB3 := Lib.hid hB3
     have HK3 := Lib.hid hK3
     clear hB3 hK3
     go_wp2
     go_roundw
     case rel =>
      refine ⟨j + 1, by omega, by go_num, ?_, HKj.out.andThen HK3.out (fun b hb hbg => ?_), HKo.out.trans HK3.out⟩
      ·rw [Zdj _ j hlb, <- List.append_assoc, Crc.feeds_snoc]; exact HB3.out
      ·have := HG.out; omega
     case measure => simp [intOf]; omega
    ·have : j = rs[k].length := by omega
     subst this
     clear hlj hBj hKj hKo
     go_wp2
     go_roundw
     case rel =>
      refine ⟨k + 1, by omega, by go_num, ?_, HKj.out⟩
      have := HBj.out
      rw [List.take_length] at this
      rw [Zdj rs k hlr, List.flatten_append, List.flatten_singleton]
      exact this
     case measure => simp [intOf]; omega
  ·have : k = n := by omega
   subst this
   clear hlt hK
   have hrl := HR.out.rows_len
   rw [List.take_of_length_le (by omega)] at hB
   have hc0 : wr.cell? ⟨g, 0, none⟩ = some (.int .u32 ((Crc.feeds (~~~ s) rs.flatten).toNat : Int)) := by rw [hB.cell]; rfl
   have hno2 := B32.not_ (Crc.feeds (~~~ s) rs.flatten)
   clear hB hrl
   go_wp2
   go_ret
   exact ⟨Zld (by simp [Crc.more]), HK.out⟩
set_option maxHeartbeats 400000 in
theorem ZzG (F : Nat -> Prop) (rs : List (List UInt8)) (A : Option Addr) (n c : Nat) (w : World) (hr : Rep F w (ZmA rs) (.slice A n c)) :
 Calls Tryz.prog 103 #[.slice A n c] w fun e w' => e = .returned (.int .u32 ((Crc.more 0#32 rs.flatten).toNat : Int)) /\ Zcq (fun _ => False) w w' := by
 go_enter Tryz.func103, Tryz.ntmps103
 go_wp2_with fail
 refine (Zxy F rs A n c 0#32 w hr).mono ?_
 rintro e w1 ⟨rfl, hK⟩
 have HK := Lib.hid hK
 clear hK hr
 go_wp2
 go_ret
 exact ⟨rfl, HK.out⟩
end Go.Proofs.YteempnebenjkmaaGreatDoor
