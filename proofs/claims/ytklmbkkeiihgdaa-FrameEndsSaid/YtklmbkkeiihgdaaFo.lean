/- watershedref03.One, by hand. -/
import Derived.Test.YtklmbkkeiihgdaaG0
import Derived.Test.YtklmbkkeiihgdaaHx
import Derived.Test.YtklmbkkeiihgdaaFl
import Derived.Test.YtklmbkkeiihgdaaFramePure
import Derived.Test.YtklmbkkeiihgdaaPl
namespace Go.Proofs.Ytklmbkkeiihgdaa
open Go.RowKit
set_option maxRecDepth 100000
set_option linter.unusedVariables false
set_option linter.unusedSimpArgs false
theorem fo_st : structA Try.prog 45 = some [(0, some 1, some false), (1, some 1, some false)] := by kernel_rfl
theorem fo_ag3 : aggA Try.prog 3 = some false := by kernel_rfl
theorem fo_sz3 : sizeA Try.prog 3 = some 1 := by kernel_rfl
theorem fo_u3 : Program.underlying Try.prog 3 = some (.int .i64) := by kernel_rfl
theorem fo_u51 : Program.underlying Try.prog 51 = some (.int .u32) := by kernel_rfl
theorem fo_u5 : Program.underlying Try.prog 5 = some (.int .u8) := by kernel_rfl
theorem enc_u8 (d : List UInt8) : d.flatMap (CT.enc 1) = d.map fun b => XV.int .u8 (b.toNat : Int) := by
 induction d with
 | nil => rfl
 | cons x d ih => rw [List.flatMap_cons, ih]; rfl
theorem bys_sv {N : Nat} {ρ : Nat → AV} (d : List UInt8) : SVs CT N ρ (d.flatMap (CT.enc 1)) (bys d) := by
 rw [enc_u8]
 exact ints_sv d
theorem sv_bys {N : Nat} {ρ : Nat → AV} : ∀ {d : List UInt8} {cs : List AV}, SVs CT N ρ (d.flatMap (CT.enc 1)) cs → cs = bys d
 | [], cs, h => SVs_nil.1 h
 | b :: d, cs, h => by
  rw [List.flatMap_cons] at h
  obtain ⟨a, as_, rfl, h1, h2⟩ := SVs.to (v := XV.int .u8 (b.toNat : Int)) h
  rw [sv_bys h2, sv_int.1 h1]
  rfl
/-- A list of bytes that is told, as it lies. -/
theorem sv_bytes {N : Nat} {ρ : Nat → AV} {d : List UInt8} {a : AV} (h : SV CT N ρ (.sl 1 d none) a) : ∃ A c rest, a = .lst A d.length c (bys d ++ rest) ∧ Lst A d.length c := by
 obtain ⟨A, c, cs, rest, rfl, l1, l2, l3, l4, l5⟩ := sv_sl.1 h
 rw [sv_bys l5]
 exact ⟨A, c, rest, rfl, l1, l2, l3, l4⟩
theorem bytes_sv {N : Nat} {ρ : Nat → AV} {d : List UInt8} {A : Option Addr} {c : Nat} {rest : List AV} (h : Lst A d.length c) : SV CT N ρ (.sl 1 d none) (.lst A d.length c (bys d ++ rest)) :=
 sv_sl.2 ⟨A, c, bys d, rest, rfl, h.le, h.most, h.small, h.none, bys_sv d⟩
theorem b8_is {n : Int} (h : 0 ≤ n ∧ n < 256) : b8 n = some (UInt8.ofNat n.toNat) := by
 unfold b8 g8
 dsimp only
 rw [if_pos h]
 rfl
theorem b8_low (n : Nat) : b8 (IntKind.u8.wrap (n : Int)) = some (UInt8.ofNat n) := by
 rw [IntKind.wrap_u8, b8_is (by omega), show ((n : Int) % 256).toNat = n % 256 from by omega]
 congr 1
 apply UInt8.toNat_inj.1
 rw [UInt8.toNat_ofNat', UInt8.toNat_ofNat']
 omega
theorem b8_high (n k : Nat) : b8 (IntKind.u8.wrap ((n : Int).fdiv (2 ^ k))) = some (UInt8.ofNat (n / 2 ^ k)) := by
 have hk : (n : Int).fdiv (2 ^ k) = ((n / 2 ^ k : Nat) : Int) := by
  rw [Int.fdiv_eq_ediv_of_nonneg _ (Int.pow_nonneg (by omega))]
  rw [show ((2 : Int) ^ k) = ((2 ^ k : Nat) : Int) from by simp]
  exact (Int.natCast_ediv _ _).symm
 rw [hk, b8_low]
theorem rfour_p {n : Nat} (hn : n < 4294967296) : watershedref03_four (n : Int) = some (4, (le4 n, ())) := by
 unfold watershedref03_four
 exact bindS (b8_low n) (bindS (b8_high n 8) (bindS (b8_high n 16) (bindS (b8_high n 24) rfl)))
theorem le4_len (n : Nat) : (le4 n).length = 4 := rfl
theorem rfour_call {n : Nat} (hn : n < 4294967296) {σ : St} (K : AV → St → Prop) (hK : ∀ a τ, Hd τ 5 1 a 4 (bys (le4 n)) → Ext σ τ → (∀ b, hbk a = some b → σ.blk b = none ∧ ¬ σ.used b) → K a τ) : CallsA Try.prog 31 [.raw (.int .u32 (n : Int))] σ K := by
 refine call_arr (watershedref03_four_ce.ok ((n : Int), ()) () ((4 : Nat), (le4 n, ())) (rfour_p hn)) (sv_int.2 rfl) (by rw [le4_len]; exact Nat.le_refl _) K fun a τ cells h1 h2 h3 h4 => ?_
 have := sv_bys (h2 0 noRho)
 rw [List.take_of_length_le (by rw [le4_len]; exact Nat.le_refl _)] at this
 subst this
 exact hK a τ h1 h3 h4
theorem rsum_call {rs : List (List UInt8)} (hr : rs.flatten.length ≤ 1000000000) {σ : St} {vs : List AV} (hs : SVs CT 0 noRho [.sl 3 rs none] vs) (K : AV → St → Prop) (hK : ∀ τ, Ext σ τ → K (.raw (.int .u32 ((Crc.more 0#32 rs.flatten).toNat : Int))) τ) : CallsA Try.prog 32 vs σ K :=
 call_same (refSumT_ce.ok (rs, ()) () (((Crc.more 0#32 rs.flatten).toNat : Int), ()) (by show refSumT rs = _; unfold refSumT; rw [if_pos hr]; rfl)) hs (fun N ρ a h => sv_int.1 h) K hK
set_option maxHeartbeats 2000000 in
theorem refOne_tr (x0 : DFrame2) (h : 0 ≤ x0.kind ∧ x0.kind ≤ 255 ∧ x0.data.length ≤ 1000000) : Tr CT Try.prog (fun _ => True) 19 [.agg (CT.enc 7 x0)] [] (.sl 1 (code (x0.kind, x0.data)) (some 0)) [.row 5 1] := by
 obtain ⟨k, d⟩ := x0
 obtain ⟨hk0, hk1, hdl⟩ := h
 dsimp only at hk0 hk1 hdl ⊢
 have hcl := code_length (k, d)
 dsimp only at hcl
 have key : Tr CT Try.prog (fun _ => True) 19 [.agg (CT.enc 7 ⟨k, d⟩)] [] (.as 1 0 0 (code (k, d)).length none) [.arr 5 1 true (code (k, d))] := by
  refine tr_hd rfl (by omega) (by omega) fun ρ σ vs hs => ?_
  obtain ⟨a, rfl, h1⟩ := svs1.1 hs
  obtain ⟨as_, rfl, h2⟩ := sv_agg.1 h1
  obtain ⟨a0, a1, rfl, g0, g1⟩ := svs2.1 h2
  obtain rfl := sv_int.1 g0
  obtain ⟨A, c, rest, rfl, hA⟩ := sv_bytes g1
  clear hs h1 h2 g0 g1
  refine callsA_of fl_mixed Try.func19 rfl rfl rfl (Nat.le_of_ble_eq_true rfl) ?_
  refine comp1 0 (v0 := .agg [.raw (.int .i64 k), .lst A d.length c (bys d ++ rest)]) rfl ?_
  intro e he
  refine k_region ?_
  refine k_cons ?_
  refine r_box (by simp only [EV, Nat.reduceEqDiff, ↓reduceIte, he] <;> try rfl) rfl fun bb υ hbn hbu hb hbv hX => ?_
  refine k_cons (c_mv rfl (by simp only [EV, Nat.reduceEqDiff, ↓reduceIte, he] <;> try rfl) ?_)
  refine k_nil ?_
  apply comp1 1
  ·simp only [EV, Nat.reduceEqDiff, ↓reduceIte, he] <;> try rfl
  clear he e
  intro e he
  refine k_drawn ?_
  refine ⟨[0, 5, 1, 2, 3, 6, 7, 4, 8, 9, 10], [[], [0], [0, 1], [0, 1, 2], [0, 1, 2, 3], [], [5], [5, 6], [5, 6, 7], [0, 1, 2, 3, 4, 5, 6, 7, 8], [0, 1, 2, 3, 4, 5, 6, 7, 8, 9]], fun _ => True, [6], [4], [8], by kernel_rfl, ?_⟩
  apply d_any
  case hi => simp only [HIX]; try rfl
  case hw => rfl
  case how => rfl
  refine s_fieldAddr (b := bb) (o := 0) (by simp only [EV, Nat.reduceEqDiff, ↓reduceIte, he] <;> try rfl) fo_st rfl ?_
  refine d_ok ?_
  apply d_any
  case hi => simp only [HIX]; try rfl
  case hw => rfl
  case how => rfl
  refine s_fieldAddr (b := bb) (o := 0) (by simp only [EV, Nat.reduceEqDiff, ↓reduceIte, he] <;> try rfl) fo_st rfl ?_
  refine d_ok ?_
  apply d_any
  case hi => simp only [HIX]; try rfl
  case hw => rfl
  case how => rfl
  refine r_load (b := bb) (o := 0 + 1) (r := .lst A d.length c (bys d ++ rest)) (by simp only [EV, Nat.reduceEqDiff, ↓reduceIte, he] <;> try rfl) hb fl_agS fl_szS rfl ?_
  refine d_ok ?_
  apply d_any
  case hi => simp only [HIX]; try rfl
  case hw => rfl
  case how => rfl
  refine s_lenN (by simp only [EV, Nat.reduceEqDiff, ↓reduceIte, he] <;> try rfl) (AV.val_lst _ _ _ _) rfl fl_slS ?_
  refine d_ok ?_
  apply d_any
  case hi => simp only [HIX]; try rfl
  case hw => rfl
  case how => rfl
  refine s_convI (r := (d.length : Int)) fo_u3 fo_u51 (by simp only [EV, Nat.reduceEqDiff, ↓reduceIte, he] <;> try rfl) (IntWalk.u32_in _ (by omega)) ?_
  refine d_ok ?_
  apply d_any
  case hi => simp only [HIX]; try rfl
  case hw => rfl
  case how => rfl
  refine r_load (b := bb) (o := 0 + 0) (r := .raw (.int .i64 k)) (by simp only [EV, Nat.reduceEqDiff, ↓reduceIte, he] <;> try rfl) hb fo_ag3 fo_sz3 rfl ?_
  refine d_ok ?_
  apply d_any
  case hi => simp only [HIX]; try rfl
  case hw => rfl
  case how => rfl
  refine s_convI (r := k) fo_u3 fo_u5 (by simp only [EV, Nat.reduceEqDiff, ↓reduceIte, he] <;> try rfl) (by rw [IntKind.wrap_u8]; omega) ?_
  refine d_ok ?_
  apply d_any
  case hi => simp only [HIX]; try rfl
  case hw => rfl
  case how => rfl
  refine s_call (vs := [.raw (.int .u32 (d.length : Int))]) (by simp only [List.map_cons, List.map_nil, EV, Nat.reduceEqDiff, ↓reduceIte, he]) ?_
  refine rfour_call (by omega) _ fun f4 τ h4 hX4 hn4 => ⟨fun _ => hX4, ?_⟩
  refine d_ow (vs := [.raw (.int .u8 k)]) (cells := [.raw (.int .u8 k)]) (by simp only [HIX]; try rfl) rfl (by simp only [List.map_cons, List.map_nil, EV, Nat.reduceEqDiff, ↓reduceIte, he]) fl_slS fl_szE fl_zeE rfl (by omega) rfl fun b2 hb2u hb2n => ?_
  have hX2 : Ext τ (τ.put b2 (.own 5 [.raw (.int .u8 k)])) := Ext.put _ hb2n
  have hn2 : Hd (τ.put b2 (.own 5 [.raw (.int .u8 k)])) 5 1 (hdr b2 1 1) 1 [.raw (.int .u8 k)] := hd_new (by omega) (by omega) rfl (fun a ha => by rw [List.mem_singleton.1 ha]; rfl)
  apply d_any
  case hi => simp only [HIX]; try rfl
  case hw => rfl
  case how => rfl
  refine s_appendH (m := 1) (by simp only [EV, Nat.reduceEqDiff, ↓reduceIte, he] <;> try rfl) (by simp only [EV, Nat.reduceEqDiff, ↓reduceIte, he] <;> try rfl) fl_slS fl_szE fl_zeE fl_byE rfl (by omega) (h4.ext hX2) (hn2.src (by omega)) (by omega) (by unfold maxLen; omega) (by omega) fun v5 τ5 h5 _ hB5 hn5 => ⟨(fun h => absurd h Bool.false_ne_true), ?_⟩
  apply d_any
  case hi => simp only [HIX]; try rfl
  case hw => rfl
  case how => rfl
  refine c_mv rfl (by simp only [EV, Nat.reduceEqDiff, ↓reduceIte, he] <;> try rfl) ?_
  refine d_ok ?_
  refine d_nil ?_
  have hne4 : hbk f4 ≠ some bb := fun hq => by
   obtain ⟨_, q⟩ := h4.blk hq
   rw [hX4.keep _ _ hb] at q
   injection q with q
   injection q with q
   cases q
  have hb5 : τ5.blk bb = some (.own 45 [.raw (.int .i64 k), .lst A d.length c (bys d ++ rest)]) := hB5.keep _ _ hne4 (hX2.keep _ _ (hX4.keep _ _ hb))
  have hX5 : Ext σ τ5 := But.ext (((hX.trans hX4).trans hX2)) (fun b hq => by
   exact hX.noneOf (hn4 b hq).1) hB5
  have hh : bys (le4 d.length) ++ [.raw (.int .u8 k)] = bys (hd (k, d)) := by
   have : ((UInt8.ofNat k.toNat).toNat : Int) = k := by rw [UInt8.toNat_ofNat']; omega
   unfold hd bys
   rw [List.map_append, List.map_cons, List.map_nil, this]
  rw [hh] at h5
  have hn5' : ∀ b, hbk v5 = some b → σ.blk b = none ∧ ¬ σ.used b := fun b hq => by
   rcases hn5 b hq with hq | hq
   ·exact ⟨hX.noneOf (hn4 b hq).1, hX.unused (hn4 b hq).2⟩
   ·exact ⟨((hX.trans hX4).trans hX2).noneOf hq.1, ((hX.trans hX4).trans hX2).unused hq.2⟩
  clear hn5 hB5 hn2 hX2 hn4 hX4 h4 hX hb hbv hne4
  obtain ⟨b5, hb5k⟩ := h5.some_ (by omega)
  obtain ⟨c5, all5, rfl, p1, p2, p3, p4, p5, p6⟩ := h5.at_ hb5k
  apply comp2 1 3
  ·simp only [EV, Nat.reduceEqDiff, ↓reduceIte, he] <;> try rfl
  ·simp only [EV, Nat.reduceEqDiff, ↓reduceIte, he] <;> try rfl
  clear he e
  intro e he
  refine k_region ?_
  refine k_cons (c_mv rfl (by simp only [EV, Nat.reduceEqDiff, ↓reduceIte, he] <;> try rfl) ?_)
  refine k_cons ?_
  refine s_fieldAddr (b := bb) (o := 0) (by simp only [EV, Nat.reduceEqDiff, ↓reduceIte, he] <;> try rfl) fo_st rfl ?_
  refine k_cons ?_
  refine r_load (b := bb) (o := 0 + 1) (r := .lst A d.length c (bys d ++ rest)) (by simp only [EV, Nat.reduceEqDiff, ↓reduceIte, he] <;> try rfl) hb5 fl_agS fl_szS rfl ?_
  refine k_cons ?_
  refine r_row (vs := [hdr b5 5 c5, .lst A d.length c (bys d ++ rest)]) (cells := [hdr b5 5 c5, .lst A d.length c (bys d ++ rest)]) (by simp only [List.map_cons, List.map_nil, EV, Nat.reduceEqDiff, ↓reduceIte, he]) fl_slL fl_szS fl_zeS rfl (by omega) rfl rfl fun rb τ6 hN6 hX6 => ?_
  have h6 := h5.ext hX6
  refine k_cons ?_
  refine s_call (vs := [.lst (some ⟨rb, 0, none⟩) 2 2 [hdr b5 5 c5, .lst A d.length c (bys d ++ rest)]]) (by simp only [List.map_cons, List.map_nil, EV, Nat.reduceEqDiff, ↓reduceIte, he]) ?_
  obtain ⟨A1, c1, hl1, l1, l2, l3⟩ := h6.lends (G := fun b => hbk (hdr b5 5 c5) = some b) (fun b hq => hq) (LendL.refl _)
  refine lend_call (G := fun b => hbk (hdr b5 5 c5) = some b) (σ := τ6) (args := [.lst (some ⟨rb, 0, none⟩) 2 2 [hdr b5 5 c5, .lst A d.length c (bys d ++ rest)]]) (args' := [.lst (some ⟨rb, 0, none⟩) 2 2 [.lst A1 5 c1 (bys (hd (k, d))), .lst A d.length c (bys d ++ rest)]]) (rv := .raw (.int .u32 (crcOf (k, d) : Int))) (fun b hq => by
   obtain ⟨all, q⟩ := h6.blk hq
   exact ⟨_, _, q, h6.used hq⟩) ⟨lends_lst ⟨hl1, .refl _, trivial⟩, trivial⟩ (rsum_call (rs := [hd (k, d), d]) (by simp [hd_length]; omega) (sv_sl.2 ⟨_, 2, _, [], rfl, Nat.le_refl _, by unfold maxLen; omega, by simp, (fun q => by cases q), .cons (by
    have := bytes_sv (N := 0) (ρ := noRho) (d := hd (k, d)) (A := A1) (c := c1) (rest := []) ⟨l1, l2, by rw [hd_length]; omega, l3⟩
    rw [List.append_nil] at this
    exact this) (bytes_sv hA)⟩) _ fun τ hX => ⟨by
     have : ([hd (k, d), d] : List (List UInt8)).flatten = hd (k, d) ++ (k, d).2 := by simp
     rw [this]; rfl, hX⟩) (fun w B => valid_raw _) _ fun τ7 hX7 => ?_
  refine k_cons (c_mv rfl (by simp only [EV, Nat.reduceEqDiff, ↓reduceIte, he] <;> try rfl) ?_)
  refine k_nil ?_
  have hb7 := hX7.keep _ _ (hX6.keep _ _ hb5)
  have h7 := h6.ext hX7
  have hX8 := (hX5.trans hX6).trans hX7
  apply comp3 1 3 4
  ·simp only [EV, Nat.reduceEqDiff, ↓reduceIte, he] <;> try rfl
  ·simp only [EV, Nat.reduceEqDiff, ↓reduceIte, he] <;> try rfl
  ·simp only [EV, Nat.reduceEqDiff, ↓reduceIte, he] <;> try rfl
  clear he e
  intro e he
  refine k_drawn ?_
  refine ⟨[0, 1, 4, 5, 2, 3, 6, 7], [[], [], [1], [0, 1, 2], [], [4], [0, 1, 2, 3, 4, 5], [0, 1, 2, 3, 4, 5, 6]], fun b => b = bb, [5], [2, 3], [], by kernel_rfl, ?_⟩
  -- keeps
  apply d_anyP
  case hi => simp only [HIX]; try rfl
  case hw => rfl
  case how => rfl
  case hl => rfl
  refine c_mv rfl (by simp only [EV, Nat.reduceEqDiff, ↓reduceIte, he] <;> try rfl) ?_
  refine d_okP ?_
  apply d_anyP
  case hi => simp only [HIX]; try rfl
  case hw => rfl
  case how => rfl
  case hl => rfl
  refine c_mv rfl (by simp only [EV, Nat.reduceEqDiff, ↓reduceIte, he] <;> try rfl) ?_
  refine d_okP ?_
  apply d_anyP
  case hi => simp only [HIX]; try rfl
  case hw => rfl
  case how => rfl
  case hl => rfl
  refine s_fieldAddr (b := bb) (o := 0) (by simp only [EV, Nat.reduceEqDiff, ↓reduceIte, he] <;> try rfl) fo_st rfl ?_
  refine d_okP ?_
  apply d_ldP
  case hi => simp only [HIX]; try rfl
  case hw => rfl
  case how => rfl
  case hx => simp only [EV, Nat.reduceEqDiff, ↓reduceIte, he] <;> try rfl
  case hp => exact rfl
  case hb => exact hb7
  case ha => exact fl_agS
  case hn => exact fl_szS
  case hr => exact rfl
  apply d_anyP
  case hi => simp only [HIX]; try rfl
  case hw => rfl
  case how => rfl
  case hl => rfl
  refine s_call (vs := [.raw (.int .u32 (crcOf (k, d) : Int))]) (by simp only [List.map_cons, List.map_nil, EV, Nat.reduceEqDiff, ↓reduceIte, he]) ?_
  refine rfour_call (crcOf_lt _) _ fun f8 τ8 h8 hX9 hn8 => ⟨fun _ => hX9.keeps, ?_⟩
  apply d_anyP
  case hi => simp only [HIX]; try rfl
  case hw => rfl
  case how => rfl
  case hl => rfl
  refine s_appendH (m := 4) (by simp only [EV, Nat.reduceEqDiff, ↓reduceIte, he] <;> try rfl) (by simp only [EV, Nat.reduceEqDiff, ↓reduceIte, he] <;> try rfl) fl_slS fl_szE fl_zeE fl_byE rfl (by omega) (h7.ext hX9) (h8.src (by omega)) (by omega) (by unfold maxLen; omega) (by omega) fun v9 τ9 h9 _ hB9 hn9 => ⟨fun _ => hB9.keeps fun b hq hq2 => ?_, ?_⟩
  ·subst hq
   have hq2 := hbk_of hq2
   subst hq2
   rw [hb5] at p1
   injection p1 with p1
   injection p1 with p1
   cases p1
  have hX10 : Ext σ τ9 := But.ext (hX8.trans hX9) (fun b hq => (hn5' b hq).1) hB9
  have hn9' : ∀ b, hbk v9 = some b → σ.blk b = none ∧ ¬ σ.used b := fun b hq => by
   rcases hn9 b hq with hq | hq
   ·exact hn5' b hq
   ·exact ⟨(hX8.trans hX9).noneOf hq.1, (hX8.trans hX9).unused hq.2⟩
  have hcode : bys (hd (k, d)) ++ bys (le4 (crcOf (k, d))) ++ bys d = bys (code (k, d)) := by
   unfold code bys
   simp only [List.map_append, List.append_assoc]
  apply d_anyP
  case hi => simp only [HIX]; try rfl
  case hw => rfl
  case how => rfl
  case hl => rfl
  refine s_appendA (m := d.length) (news := bys d) (by simp only [EV, Nat.reduceEqDiff, ↓reduceIte, he] <;> try rfl) (by simp only [EV, Nat.reduceEqDiff, ↓reduceIte, he] <;> try rfl) fl_slS fl_szE fl_zeE fl_byE rfl (by omega) h9 (src_told (by rw [bys_len, Nat.mul_one]) (bys_one d) fun q => (hA.none q).1) (by unfold maxLen; omega) (by omega) fun v10 τ10 h10 hB10 hn10 => ⟨(fun h => absurd h Bool.false_ne_true), ?_⟩
  apply d_anyP
  case hi => simp only [HIX]; try rfl
  case hw => rfl
  case how => rfl
  case hl => rfl
  refine c_mv rfl (by simp only [EV, Nat.reduceEqDiff, ↓reduceIte, he] <;> try rfl) ?_
  refine d_okP ?_
  refine d_nilP ?_
  refine k_ret1 ?_
  show ∃ r, aResults _ _ _ _ r ∧ _
  refine ⟨_, res_tmp rfl (by simp only [EV, Nat.reduceEqDiff, ↓reduceIte, he] <;> try rfl), bys (code (k, d)), ?_, fun N' ρ' => bys_sv _, But.ext hX10 (fun b hq => (hn9' b hq).1) hB10, fun b hq => ?_⟩
  ·rw [hcode] at h10
   rw [show (code (k, d)).length = 4 + 1 + 4 + d.length by omega]
   exact h10
  ·rcases hn10 b hq with hq | hq
   ·exact hn9' b hq
   ·exact ⟨hX10.noneOf hq.1, hX10.unused hq.2⟩
 have := Tr.freezeO (by omega) (Nat.le_refl _) key
 rw [List.take_length] at this
 exact this
end Go.Proofs.Ytklmbkkeiihgdaa
