/- The walk of SumTurned. -/
import Derived.Test.YtcplpfmickdccaaSumX
import Derived.Test.YtcplpfmickdccaaPick
import Derived.Test.YtcplpfmickdccaaTurn
import Derived.Deep.DeepCutAuto
namespace Go.Proofs.Ytcplpfmickdccaa
open Go.RowKit
theorem Sum_eq (F : Nat → Prop) (rs : List (List UInt8)) {A : Option Addr} {n c : Nat} {w : World} {x : BitVec 32} (hx : Hid (Crc.more 0#32 rs.flatten = x)) (hr : Rep F w (dRows rs) (.slice A n c)) :
    Calls Try.prog 10 #[.slice A n c] w fun e w' => e = .returned (.int .u32 (x.toNat : Int)) ∧ Keep (fun _ => False) w w' := by
  have := Sum_any F rs A n c w hr
  rwa [hx.out] at this
/-- Bytes in a row of the call's own. -/
def OB (w : World) (base g n c : Nat) (l : List UInt8) : Prop := w.ownsRow base 5 1 (.slice (some ⟨g, 0, none⟩) n c) n (l.map vB)
theorem OB.len {w : World} {base g n c : Nat} {l : List UInt8} (h : OB w base g n c l) : l.length = n := by have := h.1; simpa using this
theorem OB.cell {w : World} {base g n c : Nat} {l : List UInt8} (h : OB w base g n c l) {j : Nat} (hj : j < n) : w.cell? ⟨g, j, none⟩ = some (.int .u8 ((l.getD j 0).toNat : Int)) := by
  have hl := h.len
  have := World.ownsRow.cellAt h j (by omega)
  rw [this, List.getElem?_map, List.getElem?_eq_getElem (by omega)]
  simp [vB, show j < l.length from by omega]
theorem OB.frozen {w : World} {base g n c : Nat} {l : List UInt8} (h : OB w base g n c l) (j : Nat) : w.frozen? ⟨g, j, none⟩ = false := by
  rcases h.2 with ⟨h, _⟩ | ⟨g', cap, cur, hv, _, hh, _⟩
  · cases h
  · injection hv with hv _ _
    injection hv with hv
    injection hv with hv
    subst hv
    simp [World.frozen?, hh]
theorem OB.rep {w : World} {base g n c : Nat} {l : List UInt8} (h : OB w base g n c l) (hn : n ≤ 1000000000) : Rep (fun _ => True) w (dBytes l) (.slice (some ⟨g, 0, none⟩) n c) := by
  refine own_rep (ds := l.map dB) h (fun _ _ => trivial) ?_ (by omega)
  have := Reps.of_flat (fun _ => True) w (dB_flat l)
  rwa [dB_val] at this
theorem OB.kept {w w' : World} {base g n c : Nat} {l : List UInt8} (h : OB w base g n c l) (hk : Keep (fun _ => False) w w') : OB w' base g n c l := own_keep h hk (fun _ _ _ => id)
theorem OB.flip {w : World} {base g n c : Nat} {l : List UInt8} (h : OB w base g n c l) {p : Nat} (_hp : p < 8 * n) {u : Int} (hu : u = (((l.getD (p / 8) 0).toNat ^^^ 2 ^ (p % 8) : Nat) : Int)) : OB (w.setCell ⟨g, p / 8, none⟩ (.int .u8 u)) base g n c (Crc.flip l p) := by
  have := (World.ownsRow.stored h (p / 8) (.int .u8 u)).1
  unfold OB Crc.flip
  rw [List.map_set, vB, Crc.flip_byte _ _ (by omega), ← hu]
  exact this
theorem flip_word (b : UInt8) (j : Nat) (hj : j < 8) : Go.bits .xor .u8 (b.toNat : Int) ((2 : Int) ^ j % 256) = ((b.toNat ^^^ 2 ^ j : Nat) : Int) := by
  have h1 : (2 : Nat) ^ j < 2 ^ 8 := Nat.pow_lt_pow_right (by omega) hj
  have h2 : ((2 : Int) ^ j % 256) = ((2 ^ j : Nat) : Int) := by
    rw [Int.emod_eq_of_lt]
    · simp
    · exact Int.le_of_lt (Int.pow_pos (by omega))
    · have : ((2 ^ j : Nat) : Int) < ((2 ^ 8 : Nat) : Int) := Int.ofNat_lt.2 h1
      simpa using this
  rw [h2, u8_xor_nat _ _ b.toNat_lt h1]
theorem eq_no {x y : BitVec 32} (h : x ≠ y) : ((x.toNat : Int) == (y.toNat : Int)) = false := by
  rw [beq_eq_false_iff_ne]
  intro e
  exact h (BitVec.eq_of_toNat_eq (by omega))
def someB (x : Nat) : Nat → Bool
  | 0 => false
  | i + 1 => x.testBit i || someB x i
theorem someB_some {x : Nat} : ∀ {m : Nat}, someB x m = true → ∃ i, i < m ∧ x.testBit i = true
  | m + 1, h => by
    simp only [someB, Bool.or_eq_true] at h
    rcases h with h | h
    · exact ⟨m, by omega, h⟩
    · obtain ⟨i, h1, h2⟩ := someB_some h
      exact ⟨i, by omega, h2⟩
theorem bit_test (x : BitVec 32) (i : Nat) : (Go.bits .and .u32 ((x.toNat : Int) / 2 ^ i) 1 == 1) = x.toNat.testBit i := by
  have hx := x.isLt
  have h2 : x.toNat / 2 ^ i ≤ x.toNat := Nat.div_le_self _ _
  have h3 : ((x.toNat : Int) / 2 ^ i) = ((x.toNat / 2 ^ i : Nat) : Int) := by simp
  rw [h3, show (1 : Int) = ((1 : Nat) : Int) from rfl, u32_and_nat _ 1 (by omega) (by omega), Nat.testBit_eq_decide_div_mod_eq, Nat.and_one_is_mod]
  by_cases h : x.toNat / 2 ^ i % 2 = 1
  · simp [h]
  · simp [h]
    omega
set_option maxRecDepth 100000 in
set_option maxHeartbeats 2000000 in
theorem SumTurned_any (F : Nat → Prop) (b : List UInt8) (Ab : Option Addr) (n cb : Nat) (at_ far : Int) (burst : BitVec 32) (w : World)
    (hb : Rep F w (dBytes b) (.slice Ab n cb)) (lo : -9223372036854775808 ≤ at_) (hi : at_ ≤ 9223372036854775807) (lo2 : -9223372036854775808 ≤ far) (hi2 : far ≤ 9223372036854775807) :
    Calls Try.prog 6 #[.slice Ab n cb, .int .i64 at_, .int .i64 far, .int .u32 (burst.toNat : Int)] w fun e w' => e = .returned (.bool true) ∧ Keep (fun _ => False) w w' := by
  obtain ⟨i0, hi0, hz0, hz1, hz2⟩ := info_parts byte_info
  have HB := Lib.hid (hb.wide (G := fun _ => True) (fun _ _ => trivial))
  clear hb
  go_enter Try.func6, Try.ntmps6
  go_wp2_with fail
  refine (awake_any _).mono ?_
  rintro e w1 ⟨rfl, hk1⟩
  have K1 := Lib.hid hk1
  clear hk1
  go_wp2_with fail
  refine (great_any (fun _ => True) [b] _ _ _ _ (rows_one (v := .slice Ab n cb) (by go_simp) trivial (HB.out.kept (K1.out.alloc _)))).mono ?_
  rintro e w2 ⟨⟨g, rfl, hg⟩, hD⟩
  have K2 : Hid (Keep (fun _ => False) w w2) := (K1.out.alloc _).trans hD.keep
  clear hD
  cases g
  · have HG := Lib.hid (hg rfl)
    clear hg
    have hlb := Lib.hid HB.out.bytes_len
    have hn : n ≤ 20000 := by have h1 := HG.out; have h2 := hlb.out; simp at h1; omega
    by_cases hn0 : n = 0
    · subst hn0
      go_wp2
      go_ret
      exact ⟨rfl, K2.out⟩
    · have hnb : ((n : Int) == 0) = false := by simp; omega
      obtain ⟨sl, hsl⟩ : ∃ x, Crc.more 0#32 b = x := ⟨_, rfl⟩
      have h1 : Hid (Crc.more 0#32 [b].flatten = sl) := by simpa [Hid] using hsl
      have HSL := Lib.hid hsl
      clear hsl
      go_wp2_with fail
      refine (Sum_eq (fun _ => True) [b] h1 (rows_one (v := .slice Ab n cb) (by go_simp) trivial (HB.out.kept (K2.out.alloc _)))).mono ?_
      rintro e w3 ⟨rfl, hk3⟩
      have K3 : Hid (Keep (fun _ => False) w w3) := (K2.out.alloc _).trans hk3
      clear hk3
      go_wp2_with fail
      refine (Pick_any at_ _ _ (by omega) (by omega) lo hi).mono ?_
      rintro e w4 ⟨rfl, rfl⟩
      obtain ⟨k, hk⟩ : ∃ k : Nat, (at_ % (8 * (n : Int))) = (k : Int) := ⟨(at_ % (8 * (n : Int))).toNat, by have := Int.emod_nonneg at_ (show (8 * (n : Int)) ≠ 0 by omega); omega⟩
      have hkl : k < 8 * n := by have := Int.emod_lt_of_pos at_ (show 0 < (8 * (n : Int)) by omega); omega
      rw [hk]
      clear hk
      have hk8 : k / 8 < n := by omega
      go_wp2_with (first
        | (at_builtin
           refine append_all _ rfl (.tmp 36) (.tmp 37) _ rfl w3.heap.size 5 i0 _ 1 1 Try.underlying34 hi0 hz0 hz1 hz2 rfl (by omega) (.slice (some ⟨w3.heap.size, 0, none⟩) 0 0) 0 [] rfl (World.ownsRow_made _ _ 0 (Nat.le_refl _) (by simp [maxLen]) rfl) Ab n cb (b.map vB) rfl ?_ HB.out.form.2.2.2.2.1 (HB.out.kept (K3.out.alloc _)).bytes (vB_oneCell _) ?_ ?_ ?_ ?_
           · have := hlb.out; simp [this]
           · simp only [maxLen]; omega
           · omega
           · simp
           intro v5 w5 ho5 hg5 hn5
           obtain ⟨g5, c5, rfl, hb5, hl5⟩ := own_some ho5 (fun e => by have := hn5 e; cases this)
           have HO5 : Hid (OB w5 w3.heap.size g5 n c5 b) := by have := ho5; rw [Nat.zero_add, List.nil_append] at this; exact this
           have K5 : Hid (Keep (fun _ => False) w w5) := (K3.out.alloc _).grown hg5 (fun k hk hl => by have := K3.out.size; simp [Value.ownBlock] at hk; omega)
           have hcA := HO5.out.cell hk8
           have hfA := HO5.out.frozen (k / 8)
           have hnc : n ≤ c5 := by
             rcases ho5.2 with ⟨h, _⟩ | ⟨_, _, _, hv, _, _, h1, h2, _⟩
             · cases h
             · injection hv with _ _ hv; subst hv; omega
           clear ho5 hg5 hn5)
        | fail)
      obtain ⟨x6, hx6⟩ : ∃ x, Crc.more 0#32 (Crc.flip b k) = x := ⟨_, rfl⟩
      have hne6 : ((x6.toNat : Int) == (sl.toNat : Int)) = false := eq_no (by rw [← hx6, ← HSL.out]; exact Crc.one_turned b k (by rw [hlb.out]; exact hkl))
      have h6 : Hid (Crc.more 0#32 [Crc.flip b k].flatten = x6) := by simpa [Hid] using hx6
      have HO6 := Lib.hid (OB.flip HO5.out hkl (flip_word (b.getD (k / 8) 0) (k % 8) (by omega)))
      rw [List.getD_eq_getElem?_getD] at HO6
      clear hx6
      refine (Sum_eq (fun _ => True) [Crc.flip b k] h6 (rows_one (v := .slice (some ⟨g5, 0, none⟩) n c5) (by go_simp) trivial ((OB.rep HO6.out (by omega)).kept ((Keep.refl _ _).alloc _)))).mono ?_
      rintro e w7 ⟨rfl, hk7⟩
      have HO7 : Hid (OB w7 w3.heap.size g5 n c5 (Crc.flip b k)) := HO6.out.kept (((Keep.refl _ _).alloc _).trans hk7)
      have K7 : Hid (Keep (fun _ => False) w w7) := ((K5.out.setNew (by show w.heap.size ≤ g5; have := K3.out.size; omega) _).alloc _).trans hk7
      clear hk7 HO6 hcA hfA HO5 K5
      go_wp2_with fail
      refine (Pick_any far 32767 _ (by omega) (by omega) lo2 hi2).mono ?_
      rintro e w8 ⟨rfl, rfl⟩
      obtain ⟨d, hd⟩ : ∃ d : Nat, (far % 32767) = (d : Int) := ⟨(far % 32767).toNat, by have := Int.emod_nonneg far (show (32767 : Int) ≠ 0 by omega); omega⟩
      have hdl : d < 32767 := by have := Int.emod_lt_of_pos far (show (0 : Int) < 32767 by omega); omega
      rw [hd]
      clear hd
      go_upto_if 62 with fail
      go_cut [] (fun wx => Keep (fun _ => False) w wx)
      case first =>
        by_cases hm : k + 1 + d < 8 * n
        · have hcB := HO7.out.cell (j := (k + 1 + d) / 8) (by omega)
          have hfB := HO7.out.frozen ((k + 1 + d) / 8)
          have hm8 : (k + 1 + d) / 8 < n := by omega
          go_wp2_with fail
          obtain ⟨x9, hx9⟩ : ∃ x, Crc.more 0#32 (Crc.flip (Crc.flip b k) (k + 1 + d)) = x := ⟨_, rfl⟩
          have hne9 : ((x9.toNat : Int) == (sl.toNat : Int)) = false := eq_no (by rw [← hx9, ← HSL.out]; exact Crc.two_turned b k (k + 1 + d) (by omega) (by omega) (by rw [hlb.out]; exact hm))
          have h9 : Hid (Crc.more 0#32 [Crc.flip (Crc.flip b k) (k + 1 + d)].flatten = x9) := by simpa [Hid] using hx9
          have HO9 := Lib.hid (OB.flip HO7.out hm (flip_word ((Crc.flip b k).getD ((k + 1 + d) / 8) 0) ((k + 1 + d) % 8) (by omega)))
          rw [List.getD_eq_getElem?_getD] at HO9
          clear hx9
          refine (Sum_eq (fun _ => True) [Crc.flip (Crc.flip b k) (k + 1 + d)] h9 (rows_one (v := .slice (some ⟨g5, 0, none⟩) n c5) (by go_simp) trivial ((OB.rep HO9.out (by omega)).kept ((Keep.refl _ _).alloc _)))).mono ?_
          rintro e w10 ⟨rfl, hk10⟩
          have K10 : Hid (Keep (fun _ => False) w w10) := ((K7.out.setNew (by show w.heap.size ≤ g5; have := K3.out.size; omega) _).alloc _).trans hk10
          clear hk10 HO9 hcB hfB
          go_wp2_with fail
          go_meet
          exact K10.out
        · go_wp2_with fail
          go_meet
          exact K7.out
      case rest =>
        have K9 := Lib.hid hcut
        clear hcut HO7 hne6 h6
        go_wp2_with (first
          | (at_builtin
             refine append_all _ rfl (.tmp 79) (.tmp 80) _ rfl wc.heap.size 5 i0 _ 1 1 Try.underlying34 hi0 hz0 hz1 hz2 rfl (by omega) (.slice (some ⟨wc.heap.size, 0, none⟩) 0 0) 0 [] rfl (World.ownsRow_made _ _ 0 (Nat.le_refl _) (by simp [maxLen]) rfl) Ab n cb (b.map vB) rfl ?_ HB.out.form.2.2.2.2.1 (HB.out.kept (K9.out.alloc _)).bytes (vB_oneCell _) ?_ ?_ ?_ ?_
             · have := hlb.out; simp [this]
             · simp only [maxLen]; omega
             · omega
             · simp
             intro v11 w11 ho11 hg11 hn11
             obtain ⟨g11, c11, rfl, hb11, hl11⟩ := own_some ho11 (fun e => by have := hn11 e; cases this)
             have HO11 : Hid (OB w11 wc.heap.size g11 n c11 b) := by have := ho11; rw [Nat.zero_add, List.nil_append] at this; exact this
             have K11 : Hid (Keep (fun _ => False) w w11) := (K9.out.alloc _).grown hg11 (fun k hk hl => by have := K9.out.size; simp [Value.ownBlock] at hk; omega)
             have hnc11 : n ≤ c11 := by
               rcases ho11.2 with ⟨h, _⟩ | ⟨_, _, _, hv, _, _, h1, h2, _⟩
               · cases h
               · injection hv with _ _ hv; subst hv; omega
             have hg0 : w.heap.size ≤ g11 := by have := K9.out.size; omega
             clear ho11 hg11 hn11)
          | fail)
        go_loopw [15, 16] (fun x i wr => ∃ j : Nat, j ≤ 32 ∧ k + j ≤ 8 * n ∧ i = .int .i64 j ∧ x = .bool (someB burst.toNat j) ∧ OB wr wc.heap.size g11 n c11 (Crc.burstOf burst.toNat b k j) ∧ Keep (fun _ => False) w wr) (fun _ i _ => 32 - (intOf i).toNat)
        case atStart => exact ⟨0, by omega, by omega, rfl, rfl, HO11.out, K11.out⟩
        case round =>
          obtain ⟨j, hj1, hj2, rfl, rfl, hO, hK⟩ := hrel
          have HO := Lib.hid hO
          have HK := Lib.hid hK
          by_cases hlt : j < 32 ∧ k + j < 8 * n
          · obtain ⟨hj3, hj4⟩ := hlt
            have hcC := hO.cell (j := (k + j) / 8) (by omega)
            have hfC := hO.frozen ((k + j) / 8)
            have hm8 : (k + j) / 8 < n := by omega
            have hbt := bit_test burst j
            clear hO hK
            cases htb : burst.toNat.testBit j
            · rw [htb] at hbt
              have HTB := Lib.hid htb
              clear htb
              go_wp2
              go_roundw
              case rel => exact ⟨j + 1, by omega, by omega, by go_num, by simp [someB, HTB.out], by rw [Crc.burst_no _ _ _ _ HTB.out]; exact HO.out, HK.out⟩
              case measure => simp [intOf]; omega
            · rw [htb] at hbt
              have HTB := Lib.hid htb
              clear htb
              have HOF := Lib.hid (OB.flip HO.out hj4 (flip_word ((Crc.burstOf burst.toNat b k j).getD ((k + j) / 8) 0) ((k + j) % 8) (by omega)))
              rw [List.getD_eq_getElem?_getD] at HOF
              go_wp2
              go_roundw
              case rel => exact ⟨j + 1, by omega, by omega, by go_num, by simp [someB, HTB.out], by rw [Crc.burst_yes _ _ _ _ HTB.out]; exact HOF.out, HK.out.setNew hg0 _⟩
              case measure => simp [intOf]; omega
          · clear hO hK
            have hd1 : decide ((j : Int) < 32 ∧ (k : Int) + j < 8 * n) = false := by simp; omega
            cases hsb : someB burst.toNat j
            · by_cases hj3 : j < 32
              · have hj4 : ¬ k + j < 8 * n := by omega
                go_wp2
                go_ret
                exact ⟨rfl, HK.out⟩
              · go_wp2
                go_ret
                exact ⟨rfl, HK.out⟩
            · obtain ⟨q, hq, hqb⟩ := someB_some hsb
              obtain ⟨x12, hx12⟩ : ∃ x, Crc.more 0#32 (Crc.burstOf burst.toNat b k j) = x := ⟨_, rfl⟩
              have hne12 : ((x12.toNat : Int) != (sl.toNat : Int)) = true := by
                have := eq_no (x := x12) (y := sl) (by rw [← hx12, ← HSL.out]; exact Crc.burst_turned burst.toNat b k j q hj1 (by rw [hlb.out]; exact hj2) hq hqb)
                simp only [bne, this]; rfl
              have h12 : Hid (Crc.more 0#32 [Crc.burstOf burst.toNat b k j].flatten = x12) := by simpa [Hid] using hx12
              clear hx12 hq hqb
              by_cases hj3 : j < 32
              all_goals
                go_wp2_with fail
                refine (Sum_eq (fun _ => True) [Crc.burstOf burst.toNat b k j] h12 (rows_one (v := .slice (some ⟨g11, 0, none⟩) n c11) (by go_simp) trivial ((OB.rep HO.out (by omega)).kept ((Keep.refl _ _).alloc _)))).mono ?_
                rintro e w13 ⟨rfl, hk13⟩
                have K13 : Hid (Keep (fun _ => False) w w13) := (HK.out.alloc _).trans hk13
                clear hk13
                go_wp2
                go_ret
                exact ⟨rfl, K13.out⟩
  · clear hg
    go_wp2
    go_ret
    exact ⟨rfl, K2.out⟩
end Go.Proofs.Ytcplpfmickdccaa
