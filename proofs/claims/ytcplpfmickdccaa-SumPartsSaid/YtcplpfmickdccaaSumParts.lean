/- The walk of SumParts. -/
import Derived.Test.YtcplpfmickdccaaSumX
import Derived.Test.YtcplpfmickdccaaPick
import Derived.Deep.DeepCutAuto
namespace Go.Proofs.Ytcplpfmickdccaa
open Go.RowKit
theorem Sum_be (F : Nat → Prop) (rs : List (List UInt8)) {A : Option Addr} {n c : Nat} {w : World} {x : BitVec 32} (hx : Hid (Crc.more 0#32 rs.flatten = x)) (hr : Rep F w (dRows rs) (.slice A n c)) :
    Calls Try.prog 10 #[.slice A n c] w fun e w' => e = .returned (.int .u32 (x.toNat : Int)) ∧ Keep (fun _ => False) w w' := by
  have := Sum_any F rs A n c w hr
  rwa [hx.out] at this
theorem More_be (F : Nat → Prop) (rs : List (List UInt8)) {A : Option Addr} {n c : Nat} (s : BitVec 32) {w : World} {x : BitVec 32} (hx : Hid (Crc.more s rs.flatten = x)) (hr : Rep F w (dRows rs) (.slice A n c)) :
    Calls Try.prog 12 #[.int .u32 (s.toNat : Int), .slice A n c] w fun e w' => e = .returned (.int .u32 (x.toNat : Int)) ∧ Keep (fun _ => False) w w' := by
  have := More_any F rs A n c s w hr
  rwa [hx.out] at this
theorem ne_same (x : Int) : (x != x) = false := by simp
set_option maxRecDepth 100000 in
set_option maxHeartbeats 2000000 in
theorem SumParts_any (F : Nat → Prop) (a : List UInt8) (Aa : Option Addr) (na ca : Nat) (b : List UInt8) (Ab : Option Addr) (nb cb : Nat) (cut : Int) (w : World)
    (ha : Rep F w (dBytes a) (.slice Aa na ca)) (hb : Rep F w (dBytes b) (.slice Ab nb cb)) (lo : -9223372036854775808 ≤ cut) (hi : cut ≤ 9223372036854775807) :
    Calls Try.prog 5 #[.slice Aa na ca, .slice Ab nb cb, .int .i64 cut] w fun e w' => e = .returned (.bool true) ∧ Keep (fun _ => False) w w' := by
  obtain ⟨i0, hi0, hz0, hz1, hz2⟩ := info_parts byte_info
  have HA := Lib.hid (ha.wide (G := fun _ => True) (fun _ _ => trivial))
  have HB := Lib.hid (hb.wide (G := fun _ => True) (fun _ _ => trivial))
  clear ha hb
  go_enter Try.func5, Try.ntmps5
  go_wp2_with fail
  refine (awake_any _).mono ?_
  rintro e w1 ⟨rfl, hk1⟩
  have K1 := Lib.hid hk1
  clear hk1
  go_wp2_with fail
  refine (great_any (fun _ => True) [a, b] _ _ _ _ (rows_two (v := .slice Aa na ca) (u := .slice Ab nb cb) (by go_simp) (by go_simp) trivial (HA.out.kept (K1.out.alloc _)) (HB.out.kept (K1.out.alloc _)))).mono ?_
  rintro e w2 ⟨⟨g, rfl, hg⟩, hD⟩
  have K2 : Hid (Keep (fun _ => False) w w2) := (K1.out.alloc _).trans hD.keep
  clear hD
  cases g
  · have HG := Lib.hid (hg rfl)
    clear hg
    have hla := Lib.hid HA.out.bytes_len
    have hlb := Lib.hid HB.out.bytes_len
    have hna : na ≤ 20000 := by have h1 := HG.out; have h2 := hla.out; simp at h1; omega
    have hnb : nb ≤ 20000 := by have h1 := HG.out; have h2 := hlb.out; simp at h1; omega
    go_wp2_with (first
      | (at_builtin
         refine append_all _ rfl (.tmp 19) (.tmp 20) _ rfl w2.heap.size 5 i0 _ 1 1 Try.underlying34 hi0 hz0 hz1 hz2 rfl (by omega) (.slice (some ⟨w2.heap.size, 0, none⟩) 0 0) 0 [] rfl (World.ownsRow_made _ _ 0 (Nat.le_refl _) (by simp [maxLen]) rfl) Aa na ca (a.map vB) rfl ?_ HA.out.form.2.2.2.2.1 (HA.out.kept (K2.out.alloc _)).bytes (vB_oneCell _) ?_ ?_ ?_ ?_
         · have := hla.out; simp [this]
         · simp only [maxLen]; omega
         · omega
         · simp
         intro v3 w3 ho3 hg3 hn3
         have HO3 := Lib.hid ho3
         have K23 : Hid (Keep (fun _ => False) w2 w3) := ((Keep.refl _ w2).alloc _).grown hg3 (fun k hk hl => by simp [Value.ownBlock] at hk; omega)
         have K3 : Hid (Keep (fun _ => False) w w3) := (K2.out.alloc _).grown hg3 (fun k hk hl => by have := K2.out.size; simp [Value.ownBlock] at hk; omega)
         have HN3 : Hid (v3 ≠ .slice none 0 0) := fun e => by have := hn3 e; cases this
         clear ho3 hg3 hn3)
      | (at_builtin
         refine append_all _ rfl (.tmp 21) (.tmp 22) _ rfl w2.heap.size 5 i0 _ 1 1 Try.underlying34 hi0 hz0 hz1 hz2 rfl (by omega) _ (0 + na) ([] ++ a.map vB) rfl HO3.out Ab nb cb (b.map vB) rfl ?_ HB.out.form.2.2.2.2.1 (HB.out.kept K3.out).bytes (vB_oneCell _) ?_ ?_ ?_ ?_
         · have := hlb.out; simp [this]
         · simp only [maxLen]; omega
         · omega
         · have := K23.out.size; omega
         intro v4 w4 ho4 hg4 hn4
         obtain ⟨g4, c4, rfl, hb4, hl4⟩ := own_some ho4 (fun e => HN3.out (hn4 e))
         have HO4 := Lib.hid ho4
         have K4 : Hid (Keep (fun _ => False) w w4) := K3.out.grown hg4 (fun k hk hl => by have := (HO3.out.lt k hk).1; have := K2.out.size; omega)
         have HC4 : Hid (c4 ≤ maxLen ∧ 0 + na + nb ≤ c4) := by
           rcases ho4.2 with ⟨h, _⟩ | ⟨_, _, _, hv, _, _, h1, h2, _⟩
           · cases h
           · injection hv with _ _ hv; subst hv; exact ⟨h2, h1⟩
         clear ho4 hg4 hn4)
      | fail)
    obtain ⟨l, hl⟩ : ∃ l, l = a ++ b := ⟨_, rfl⟩
    have hr4 : Rep (fun _ => True) w4 (dBytes l) (.slice (some ⟨g4, 0, none⟩) (0 + na + nb) c4) := by
      rw [hl]
      refine own_rep (ds := (a ++ b).map dB) HO4.out (fun _ _ => trivial) ?_ (by omega)
      have := Reps.of_flat (fun _ => True) w4 (dB_flat (a ++ b))
      rw [dB_val] at this
      simpa using this
    have hll : l.length = na + nb := by rw [hl, List.length_append, hla.out, hlb.out]
    rw [show 0 + na + nb = na + nb from by omega] at hr4
    have hle : na + nb ≤ 40000 := by omega
    have HR4 := Lib.hid hr4
    have HL := Lib.hid hl
    have HLL := Lib.hid hll
    have hc4 : na + nb ≤ c4 := by have := HC4.out.2; omega
    have hc4' : c4 ≤ 9223372036854775807 := HC4.out.1
    clear hr4 hl hll hb4 hl4
    refine (Pick_any cut _ _ (by omega) (by omega) lo hi).mono ?_
    rintro e w5 ⟨rfl, rfl⟩
    obtain ⟨k, hk⟩ : ∃ k : Nat, (cut % ((na : Int) + nb + 1)) = (k : Int) := ⟨(cut % ((na : Int) + nb + 1)).toNat, by have := Int.emod_nonneg cut (show ((na : Int) + nb + 1) ≠ 0 by omega); omega⟩
    have hkl : k ≤ na + nb := by have := Int.emod_lt_of_pos cut (show 0 < ((na : Int) + nb + 1) by omega); omega
    rw [hk]
    clear hk
    have hsum : Crc.more 0#32 [l].flatten = Crc.more 0#32 l := by simp
    obtain ⟨sl, hsl⟩ : ∃ x, Crc.more 0#32 l = x := ⟨_, rfl⟩
    obtain ⟨sa, hsa⟩ : ∃ x, Crc.more 0#32 a = x := ⟨_, rfl⟩
    have h1 : Hid (Crc.more 0#32 [l].flatten = sl) := by simpa [Hid] using hsl
    have h2 : Hid (Crc.more 0#32 [a, b].flatten = sl) := by simpa [Hid, HL.out] using hsl
    have h3 : Hid (Crc.more 0#32 [a].flatten = sa) := by simpa [Hid] using hsa
    have h4 : Hid (Crc.more sa [b].flatten = sl) := by show Crc.more sa [b].flatten = sl; rw [← hsa, ← hsl, HL.out]; simp [Crc.more_append]
    have h5 : Hid (Crc.more 0#32 [l.take k, [], l.drop k].flatten = sl) := by simpa [Hid] using hsl
    have h6 : Hid (Crc.more sl ([] : List (List UInt8)).flatten = sl) := Crc.more_nil sl
    have HSA := Lib.hid hsa
    have HSL := Lib.hid hsl
    clear hsum hsa hsl
    have hn1 := ne_same (sl.toNat : Int)
    go_wp2_with fail
    refine (Sum_be (fun _ => True) [l] h1 (rows_one (v := .slice (some ⟨g4, 0, none⟩) (na + nb) c4) (by go_simp) trivial (HR4.out.kept ((Keep.refl _ _).alloc _)))).mono ?_
    rintro e w6 ⟨rfl, hk6⟩
    have K46 : Keep (fun _ => False) w4 w6 := ((Keep.refl _ _).alloc _).trans hk6
    have K6 : Keep (fun _ => False) w w6 := K4.out.trans K46
    clear hk6
    have hk0 : (0 : Int) ≤ (k : Int) := by omega
    have hkc : (k : Int) ≤ (c4 : Int) := by omega
    have hkn : (k : Int) ≤ (na : Int) + (nb : Int) := by omega
    go_upto_region 8 with fail
    go_cut [65] (fun v wx => v = .bool false ∧ Keep (fun _ => False) w6 wx)
    case first =>
      by_cases hck : c4 = k
      · have HD : Hid (Rep (fun _ => True) w4 (dBytes (l.drop k)) (.slice (some ⟨g4, 0, none⟩) (na + nb - k) (c4 - k))) := by
          have hk0 : na + nb - k = 0 := by omega
          rw [hk0]
          exact Rep.bytes_none (by simp only [maxLen]; omega) (fun e => by cases e) (List.drop_eq_nil_of_le (by rw [HLL.out]; omega))
        subst hck
        rw [Nat.sub_self] at HD
        go_region_held3 (fun w' => Keep (fun _ => False) w6 w')
          (repeat (first | exact Keep.refl _ _ | assumption | refine Keep.drew ?_ | refine Keep.drewN ?_ _ | refine Keep.alloc ?_ _ | refine Keep.then_ (by assumption) ?_))
          (first
            | (go_at_call 10
               with_reducible refine (Sum_be (fun _ => True) [a, b] h2 (rows_two (v := .slice Aa na ca) (u := .slice Ab nb cb) ?_ ?_ trivial (HA.out.kept ?_) (HB.out.kept ?_))).mono ?_
               · go_simp
               · go_simp
               · repeat (first | exact Keep.refl _ _ | assumption | refine Keep.drew ?_ | refine Keep.drewN ?_ _ | refine Keep.alloc ?_ _ | refine Keep.then_ (by assumption) ?_)
               · repeat (first | exact Keep.refl _ _ | assumption | refine Keep.drew ?_ | refine Keep.drewN ?_ _ | refine Keep.alloc ?_ _ | refine Keep.then_ (by assumption) ?_)
               rintro e w7 ⟨rfl, hk7⟩
               have hc7 := bcell hk7
               try simp at hc7)
            | (go_at_call 10
               with_reducible refine (Sum_be (fun _ => True) [a] h3 (rows_one (v := .slice Aa na ca) ?_ trivial (HA.out.kept ?_))).mono ?_
               · go_simp
               · repeat (first | exact Keep.refl _ _ | assumption | refine Keep.drew ?_ | refine Keep.drewN ?_ _ | refine Keep.alloc ?_ _ | refine Keep.then_ (by assumption) ?_)
               rintro e w7 ⟨rfl, hk7⟩
               have hc7 := bcell hk7
               try simp at hc7)
            | (go_at_call 12
               with_reducible refine (More_be (fun _ => True) [b] sa h4 (rows_one (v := .slice Ab nb cb) ?_ trivial (HB.out.kept ?_))).mono ?_
               · go_simp
               · repeat (first | exact Keep.refl _ _ | assumption | refine Keep.drew ?_ | refine Keep.drewN ?_ _ | refine Keep.alloc ?_ _ | refine Keep.then_ (by assumption) ?_)
               rintro e w7 ⟨rfl, hk7⟩
               have hc7 := bcell hk7
               try simp at hc7)
            | (go_at_call 10
               with_reducible refine (Sum_be (fun _ => True) [l.take c4, [], l.drop c4] h5 (rows_three (v := .slice (some ⟨g4, 0, none⟩) c4 c4) (u := .slice none 0 0) (x := .slice (some ⟨g4, 0, none⟩) (na + nb - c4) 0) ?_ ?_ ?_ trivial ((HR4.out.bytes_take hkl).kept ?_) nil_bytes (HD.out.kept ?_))).mono ?_
               · go_simp
               · go_simp
               · go_simp
               · repeat (first | exact Keep.refl _ _ | assumption | refine Keep.drew ?_ | refine Keep.drewN ?_ _ | refine Keep.alloc ?_ _ | refine Keep.then_ (by assumption) ?_)
               · repeat (first | exact Keep.refl _ _ | assumption | refine Keep.drew ?_ | refine Keep.drewN ?_ _ | refine Keep.alloc ?_ _ | refine Keep.then_ (by assumption) ?_)
               rintro e w7 ⟨rfl, hk7⟩
               have hc7 := bcell hk7
               try simp at hc7)
            | (go_at_call 12
               with_reducible refine (More_be (fun _ => True) [] sl h6 nil_rep).mono ?_
               rintro e w7 ⟨rfl, hk7⟩
               have hc7 := bcell hk7
               try simp at hc7))
        all_goals
          go_wp2_with fail
          go_meet
          refine ⟨rfl, ?_⟩
          repeat (first | exact Keep.refl _ _ | assumption | refine Keep.drew ?_ | refine Keep.drewN ?_ _ | refine Keep.alloc ?_ _ | refine Keep.then_ (by assumption) ?_)
      · have HD : Hid (Rep (fun _ => True) w4 (dBytes (l.drop k)) (.slice (some ⟨g4, k, none⟩) (na + nb - k) (c4 - k))) := by
          by_cases hkl' : k < na + nb
          · have := HR4.out.bytes_drop hkl'
            rw [add_off] at this
            exact this
          · have hk0 : na + nb - k = 0 := by omega
            rw [hk0]
            exact Rep.bytes_none (by simp only [maxLen]; omega) (fun e => by cases e) (List.drop_eq_nil_of_le (by rw [HLL.out]; omega))
        go_region_held3 (fun w' => Keep (fun _ => False) w6 w')
          (repeat (first | exact Keep.refl _ _ | assumption | refine Keep.drew ?_ | refine Keep.drewN ?_ _ | refine Keep.alloc ?_ _ | refine Keep.then_ (by assumption) ?_))
          (first
            | (go_at_call 10
               with_reducible refine (Sum_be (fun _ => True) [a, b] h2 (rows_two (v := .slice Aa na ca) (u := .slice Ab nb cb) ?_ ?_ trivial (HA.out.kept ?_) (HB.out.kept ?_))).mono ?_
               · go_simp
               · go_simp
               · repeat (first | exact Keep.refl _ _ | assumption | refine Keep.drew ?_ | refine Keep.drewN ?_ _ | refine Keep.alloc ?_ _ | refine Keep.then_ (by assumption) ?_)
               · repeat (first | exact Keep.refl _ _ | assumption | refine Keep.drew ?_ | refine Keep.drewN ?_ _ | refine Keep.alloc ?_ _ | refine Keep.then_ (by assumption) ?_)
               rintro e w7 ⟨rfl, hk7⟩
               have hc7 := bcell hk7
               try simp at hc7)
            | (go_at_call 10
               with_reducible refine (Sum_be (fun _ => True) [a] h3 (rows_one (v := .slice Aa na ca) ?_ trivial (HA.out.kept ?_))).mono ?_
               · go_simp
               · repeat (first | exact Keep.refl _ _ | assumption | refine Keep.drew ?_ | refine Keep.drewN ?_ _ | refine Keep.alloc ?_ _ | refine Keep.then_ (by assumption) ?_)
               rintro e w7 ⟨rfl, hk7⟩
               have hc7 := bcell hk7
               try simp at hc7)
            | (go_at_call 12
               with_reducible refine (More_be (fun _ => True) [b] sa h4 (rows_one (v := .slice Ab nb cb) ?_ trivial (HB.out.kept ?_))).mono ?_
               · go_simp
               · repeat (first | exact Keep.refl _ _ | assumption | refine Keep.drew ?_ | refine Keep.drewN ?_ _ | refine Keep.alloc ?_ _ | refine Keep.then_ (by assumption) ?_)
               rintro e w7 ⟨rfl, hk7⟩
               have hc7 := bcell hk7
               try simp at hc7)
            | (go_at_call 10
               with_reducible refine (Sum_be (fun _ => True) [l.take k, [], l.drop k] h5 (rows_three (v := .slice (some ⟨g4, 0, none⟩) k c4) (u := .slice none 0 0) (x := .slice (some ⟨g4, k, none⟩) (na + nb - k) (c4 - k)) ?_ ?_ ?_ trivial ((HR4.out.bytes_take hkl).kept ?_) nil_bytes (HD.out.kept ?_))).mono ?_
               · go_simp
               · go_simp
               · go_simp
               · repeat (first | exact Keep.refl _ _ | assumption | refine Keep.drew ?_ | refine Keep.drewN ?_ _ | refine Keep.alloc ?_ _ | refine Keep.then_ (by assumption) ?_)
               · repeat (first | exact Keep.refl _ _ | assumption | refine Keep.drew ?_ | refine Keep.drewN ?_ _ | refine Keep.alloc ?_ _ | refine Keep.then_ (by assumption) ?_)
               rintro e w7 ⟨rfl, hk7⟩
               have hc7 := bcell hk7
               try simp at hc7)
            | (go_at_call 12
               with_reducible refine (More_be (fun _ => True) [] sl h6 nil_rep).mono ?_
               rintro e w7 ⟨rfl, hk7⟩
               have hc7 := bcell hk7
               try simp at hc7))
        all_goals
          go_wp2_with fail
          go_meet
          refine ⟨rfl, ?_⟩
          repeat (first | exact Keep.refl _ _ | assumption | refine Keep.drew ?_ | refine Keep.drewN ?_ _ | refine Keep.alloc ?_ _ | refine Keep.then_ (by assumption) ?_)
    case rest =>
      obtain ⟨rfl, hkc⟩ := hcut
      have KC := Lib.hid hkc
      clear hkc
      go_wp2_with fail
      refine (Sum_be (fun _ => True) [a] h3 (rows_one (v := .slice Aa na ca) (by go_simp) trivial (HA.out.kept ((K6.trans KC.out).alloc _)))).mono ?_
      rintro e w7 ⟨rfl, hk7⟩
      have K7 : Hid (Keep (fun _ => False) w w7) := ((K6.trans KC.out).alloc _).trans hk7
      clear hk7
      go_wp2_with fail
      refine (Table_any _).mono ?_
      rintro e w8 ⟨rfl, hk8⟩
      have K8 : Hid (Keep (fun _ => False) w w8) := K7.out.trans hk8
      clear hk8
      have hz : ∀ w, (zeroValue 35).run Try.prog w = .ok (.agg (tabCells 0)) w := fun _ => by kernel_rfl
      go_wp2_with (refine wpList_store_row rfl 35 _ _ rfl _ (tabCells 256) rfl rfl 35 _ (Blk.new _ _ _) ?_ ?_ ?_ ?_
                   · rw [tabCells_size]; kernel_rfl
                   · rw [tabCells_size, tabCells_size]
                   · kernel_rfl
                   generalize hw9 : (w8.alloc (.cells (tabCells 0) 35)).setRow w8.heap.size (tabCells 256) = w9
                   have HT9 : Hid (Blk w9 w8.heap.size 35 (tabCells 256)) := by rw [← hw9]; exact (Blk.new _ _ _).setRow _
                   have K9 : Hid (Keep (fun _ => False) w w9) := by rw [← hw9]; exact (K8.out.alloc _).setRowNew K8.out.size _
                   clear hw9)
      go_loop [10, 12] (fun r i => ∃ j : Nat, j ≤ nb ∧ i = .int .i64 j ∧ r = .int .u32 ((Crc.feeds (~~~ 0#32) (a ++ b.take j)).toNat : Int)) (fun _ i => nb - (intOf i).toNat)
      case atStart => exact ⟨0, by omega, rfl, by rw [B32.not_, ← HSA.out]; simp [Crc.more]⟩
      case round =>
        obtain ⟨j, hj, rfl, rfl⟩ := hrel
        by_cases hlj : j < nb
        · obtain ⟨ad, rfl, _, _, hlb2, hc2⟩ := (HB.out.kept K9.out).bytes_at hlj
          have hfs : Crc.feeds (~~~ 0#32) (a ++ b.take (j + 1)) = Crc.feed (Crc.feeds (~~~ 0#32) (a ++ b.take j)) b[j] := by
            rw [map_take_snoc _ j hlb2, ← List.append_assoc, Crc.feeds_snoc]
          have HFS := Lib.hid hfs
          have HT := Lib.hid (Crc.table_feed (Crc.feeds (~~~ 0#32) (a ++ b.take j)) b[j])
          clear hfs
          generalize Crc.feeds (~~~ 0#32) (a ++ b.take j) = r at *
          have hix : Go.bits .xor .u8 ((r.toNat : Int) % 256) (b[j].toNat : Int) = (((r.toNat % 256) ^^^ b[j].toNat : Nat) : Int) := by
            have h1 := b[j].toNat_lt
            rw [show ((r.toNat : Int) % 256) = ((r.toNat % 256 : Nat) : Int) from by simp]
            exact u8_xor_nat _ _ (by omega) (by omega)
          have hil : (r.toNat % 256) ^^^ b[j].toNat < 256 := Nat.xor_lt_two_pow (n := 8) (by omega) b[j].toNat_lt
          have HX : Hid (((r.toNat : Int) / (256 : Int)) = ((r >>> 8).toNat : Int)) := B32.shr_8 r
          generalize (r.toNat % 256) ^^^ b[j].toNat = ix at *
          have hct : w9.cell? ⟨w8.heap.size, ix, none⟩ = some (.int .u32 ((Crc.steps 8 (BitVec.ofNat 32 ix)).toNat : Int)) := by
            rw [HT9.out.cell]; simp [tabCells, hil, vU32]
          go_wp2
          go_round
          case rel => exact ⟨j + 1, by omega, by go_num, by rw [HFS.out, HX.out, B32.xor_, HT.out]⟩
          case measure => simp [intOf]; omega
        · have : j = nb := by omega
          subst this
          clear hlj
          have hfin : Hid (Crc.feeds (~~~ 0#32) (a ++ b.take j) = ~~~ sl) := by
            show Crc.feeds (~~~ 0#32) (a ++ b.take j) = ~~~ sl
            rw [List.take_of_length_le (by rw [hlb.out]; omega), ← HSL.out, HL.out]
            simp [Crc.more]
          rw [hfin.out]
          have hnn : Go.bits .xor .u32 IntKind.u32.max ((~~~ sl).toNat : Int) = (sl.toNat : Int) := by rw [B32.not_]; simp
          have hb1 := beq_same (sl.toNat : Int)
          go_wp2
          go_ret
          refine ⟨ret_bool ?_, K9.out⟩
          rw [show 4294967295 - sl.toNat = (~~~ sl).toNat from by simp, B32.not_]
          simp
  · clear hg
    go_wp2
    go_ret
    exact ⟨rfl, K2.out⟩
end Go.Proofs.Ytcplpfmickdccaa
