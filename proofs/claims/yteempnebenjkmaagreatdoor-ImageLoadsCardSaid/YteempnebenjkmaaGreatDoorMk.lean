/- XSumR, XSumRS in one. -/
import Derived.Test.YteempnebenjkmaaGreatDoorProg
import Derived.Test.YteempnebenjkmaaGreatDoorBits32
import Derived.Test.YteempnebenjkmaaGreatDoorBa
import Derived.Test.YteempnebenjkmaaGreatDoorRows2
namespace Go.Proofs.YteempnebenjkmaaGreatDoor
open Go.RowKit
set_option maxRecDepth 100000
set_option maxHeartbeats 400000 in
theorem ZzQ (r d : BitVec 32) (w : World) :
 Calls Tryz.prog 151 #[.int .u32 (r.toNat : Int), .int .u32 (d.toNat : Int)] w fun e w' => e = .returned (.int .u32 ((Crc.bit r d).toNat : Int)) /\ w = w' := by
 have h1 := B32.and_1 r
 have h2 := B32.xor_ (r &&& 1#32) d
 have h3 := Lib.hid (B32.shr_1 r)
 have h4 := Lib.hid (B32.xor_poly (r >>> 1))
 have hu : Crc.bit r d = (r >>> 1) ^^^ (if (r &&& 1#32) ^^^ d = 1#32 then Crc.poly else 0#32) := rfl
 rw [h1.symm] at h2
 by_cases ht : (r &&& 1#32) ^^^ d = 1#32
 ·rw [if_pos ht] at hu
  have HU := Lib.hid hu
  have hb : (Go.bits .xor .u32 (Go.bits .and .u32 (r.toNat : Int) 1) (d.toNat : Int) == 1) = true := by rw [h2, ht]; decide
  clear h1 h2 hu ht
  go_enter Tryz.func151, Tryz.ntmps151
  go_wp2
  go_ret
  exact ⟨Zld (by rw [h3.out, h4.out, HU.out]), rfl⟩
 ·rw [if_neg ht, BitVec.xor_zero] at hu
  have HU := Lib.hid hu
  have hb : (Go.bits .xor .u32 (Go.bits .and .u32 (r.toNat : Int) 1) (d.toNat : Int) == 1) = false := by
   rw [h2]
   simp only [beq_eq_false_iff_ne, ne_eq]
   intro h
   apply ht
   apply BitVec.eq_of_toNat_eq
   have : (1#32).toNat = 1 := rfl
   omega
  clear h1 h2 hu ht
  go_enter Tryz.func151, Tryz.ntmps151
  go_wp2
  go_ret
  exact ⟨Zld (by rw [h3.out, HU.out]), rfl⟩
theorem ZvP (b : UInt8) (k : Nat) : Go.bits .and .u32 ((b.toNat : Int) / 2 ^ k % 4294967296) 1 = ((Crc.bitAt b k).toNat : Int) := by
 have hb := b.toNat_lt
 have h1 : (b.toNat : Int) / 2 ^ k % 4294967296 = ((b.toNat / 2 ^ k : Nat) : Int) := by
  have h2 : b.toNat / 2 ^ k <= b.toNat := Nat.div_le_self _ _
  have h3 : ((b.toNat : Int) / 2 ^ k) = ((b.toNat / 2 ^ k : Nat) : Int) := by simp
  rw [h3]
  generalize b.toNat / 2 ^ k = q at *
  omega
 rw [h1]
 have h2 : b.toNat / 2 ^ k <= b.toNat := Nat.div_le_self _ _
 rw [show (1 : Int) = ((1 : Nat) : Int) from rfl, u32_and_nat _ 1 (by omega) (by omega)]
 unfold Crc.bitAt
 rw [Nat.testBit_eq_decide_div_mod_eq, Nat.and_one_is_mod]
 by_cases h : b.toNat / 2 ^ k % 2 = 1
 ·simp [h]
 ·simp [h]; omega
set_option maxHeartbeats 400000 in
theorem ZvQ (r : BitVec 32) (b : UInt8) (w : World) :
 Calls Tryz.prog 83 #[.int .u32 (r.toNat : Int), .int .u8 (b.toNat : Int)] w fun e w' => e = .returned (.int .u32 ((Crc.feed r b).toNat : Int)) /\ w = w' := by
 go_enter Tryz.func83, Tryz.ntmps83
 go_wp2
 go_loop [0, 5] (fun x i => ∃ k : Nat, k <= 8 /\ i = .int .i64 k /\ x = .int .u32 ((Crc.bits r b k).toNat : Int)) (fun _ i => 8 - (intOf i).toNat)
 case atStart => exact ⟨0, by omega, rfl, rfl⟩
 case round =>
  obtain ⟨k, hk, rfl, rfl⟩ := hrel
  by_cases hlt : k < 8
  ·have hf := ZvP b k
   have HF := Lib.hid hf
   clear hf
   go_wp2_with fail
   rw [HF.out]
   refine (ZzQ _ _ _).mono ?_
   rintro e w1 ⟨rfl, rfl⟩
   go_wp2
   go_round
   case rel => exact ⟨k + 1, by omega, by go_num, rfl⟩
   case measure => simp [intOf]; omega
  ·have : k = 8 := by omega
   subst this
   have hb := Lib.hid (Crc.bits_feed r b)
   go_wp2
   go_ret
   exact ⟨Zld (by rw [hb.out]), rfl⟩
set_option maxHeartbeats 1000000 in
theorem ZxG (F : Nat -> Prop) (rs : List (List UInt8)) (A : Option Addr) (n c : Nat) (w : World) (hr : Rep F w (ZmA rs) (.slice A n c)) (hs : rs.flatten.length <= 1000000000) :
 Calls Tryz.prog 36 #[.slice A n c] w fun e w' => e = .returned (.int .u32 ((Crc.more 0#32 rs.flatten).toNat : Int)) /\ Zcq (fun _ => False) w w' := by
 obtain ⟨i0, hi0, hz0, hz1, hz2⟩ := info_parts Zvy
 have hm := hr.rows_max
 have HR := Lib.hid hr.bound
 have HS := Lib.hid hs
 clear hr hs
 go_enter Tryz.func36, Tryz.ntmps36
 go_wp2
 go_loopw [3, 4] (fun v i wr => ∃ k : Nat, k <= n /\ i = .int .i64 k /\ wr.ownsRow w.heap.size 5 1 v (rs.take k).flatten.length ((rs.take k).flatten.map vB) /\ Zcq (fun _ => False) w wr) (fun _ i _ => n - (intOf i).toNat)
 case atStart => exact ⟨0, by omega, rfl, World.ownsRow_nil _ _ _ _, Zcq.refl _ _⟩
 case round =>
  obtain ⟨k, hk, rfl, hO, hK⟩ := hrel
  obtain ⟨v3, rfl⟩ : ∃ v, v = u3 := ⟨_, rfl⟩
  by_cases hlt : k < n
  ·obtain ⟨ad, A', c', rfl, hlr, hc1, hRk⟩ := (HR.out.kept hK).rows_at hlt
   have hle := ZmL rs k hlr
   have HLE := Lib.hid hle
   have HO := Lib.hid hO
   have HK := Lib.hid hK
   have HRk := Lib.hid hRk
   have hs := hK.size
   clear hO hK hRk hle
   go_wp2_with (at_builtin
                refine ZsI _ rfl _ _ _ rfl w.heap.size 5 i0 _ 1 1 Tryz.underlying22 hi0 hz0 hz1 hz2 rfl (by omega) _ _ _ rfl HO.out A' _ c' (rs[k].map vB) rfl ?_ HRk.out.form.2.2.2.2.1 HRk.out.bytes (Ztm _) ?_ ?_ ?_ ?_
                ·simp
                ·have := HS.out; have := HLE.out; simp only [maxLen]; omega
                ·have := HS.out; have := HLE.out; omega
                ·omega
                intro v4 w4 hO4 hG4 _
                have HO4 := Lib.hid hO4
                have HG4 := Lib.hid hG4
                clear hO4 hG4)
   go_roundw
   case rel =>
    refine ⟨k + 1, by omega, by go_num, ?_, HK.out.grown HG4.out (fun g hg hl => by have := (HO.out.lt g hg).1; omega)⟩
    rw [Zdj rs k hlr, List.flatten_append, List.flatten_singleton, List.map_append, List.length_append]
    exact HO4.out
   case measure => simp [intOf]; omega
  ·have : k = n := by omega
   subst this
   have hl := HR.out.rows_len
   rw [List.take_of_length_le (by omega)] at hO
   have hOr := ZzF (F := fun _ => True) (ds := rs.flatten.map dB) hO (fun _ _ => trivial) (by rw [<- Zyi]; exact Zd3.of_flat _ _ (Zqm _)) (by have := HS.out; omega)
   have HOr := Lib.hid hOr
   have HK := Lib.hid hK
   have HRl : Hid (∃ A1 c1, v3 = .slice A1 rs.flatten.length c1) := by
    rcases hO.2 with ⟨he, h0⟩ | ⟨g, cap, cur, hv, _⟩
    ·exact ⟨none, 0, by rw [he, h0]⟩
    ·exact ⟨_, _, hv⟩
   clear hl hO hK hlt hOr
   obtain ⟨A1, c1, rfl⟩ := HRl
   have hs' : rs.flatten.length <= 1000000000 := HS.out
   clear HS HR
   generalize hbs : rs.flatten = bs at *
   have HBS := Lib.hid hbs
   clear hbs
   go_wp2
   go_loop [5, 6] (fun x i => ∃ j : Nat, j <= bs.length /\ i = .int .i64 j /\ x = .int .u32 ((Crc.feeds (4294967295#32) (bs.take j)).toNat : Int)) (fun _ i => bs.length - (intOf i).toNat)
   case atStart => exact ⟨0, by omega, rfl, rfl⟩
   case round =>
    obtain ⟨j, hj, rfl, rfl⟩ := hrel
    by_cases hlj : j < bs.length
    ·obtain ⟨ad', rfl, _, _, hlb, hc2⟩ := Rep.bytes_at (l := bs) HOr.out hlj
     go_wp2_with fail
     refine (ZvQ _ (bs[j]) _).mono ?_
     rintro e w3 ⟨rfl, rfl⟩
     go_wp2
     go_round
     case rel => exact ⟨j + 1, by omega, by go_num, by rw [Zdj _ j hlb, Crc.feeds_snoc]⟩
     case measure => simp [intOf]; omega
    ·have : j = bs.length := by omega
     subst this
     clear hlj
     go_wp2
     go_ret
     exact ⟨Zld (by rw [HBS.out, B32.not_]; rfl), HK.out⟩
end Go.Proofs.YteempnebenjkmaaGreatDoor
