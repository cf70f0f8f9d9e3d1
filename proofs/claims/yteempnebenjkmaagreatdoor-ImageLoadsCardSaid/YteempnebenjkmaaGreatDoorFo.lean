/- watershedref03.One, by hand. -/
import Derived.Test.YteempnebenjkmaaGreatDoorG1a
import Derived.Test.YteempnebenjkmaaGreatDoorMg
import Derived.Test.YteempnebenjkmaaGreatDoorMe
import Derived.Test.YteempnebenjkmaaGreatDoorFramePure
import Derived.Test.YteempnebenjkmaaGreatDoorPl
namespace Go.Proofs.YteempnebenjkmaaGreatDoor
open Go.RowKit
set_option maxRecDepth 100000
set_option linter.unusedVariables false
set_option linter.unusedSimpArgs false
theorem Zty : Zba Tryz.prog 26 = some [(0, some 1, some false), (1, some 1, some false)] := by kernel_rfl
theorem ZBH : Ze0 Tryz.prog 3 = some false := by kernel_rfl
theorem ZBI : Zav Tryz.prog 3 = some 1 := by kernel_rfl
theorem ZBJ : Program.underlying Tryz.prog 3 = some (.int .i64) := by kernel_rfl
theorem ZBK : Program.underlying Tryz.prog 74 = some (.int .u32) := by kernel_rfl
theorem ZDb : Program.underlying Tryz.prog 5 = some (.int .u8) := by kernel_rfl
theorem ZDc {n : Int} (h : 0 <= n /\ n < 256) : b8 n = some (UInt8.ofNat n.toNat) := by
 unfold b8 g8
 dsimp only
 rw [if_pos h]
 rfl
theorem ZyF (n : Nat) : b8 (IntKind.u8.wrap (n : Int)) = some (UInt8.ofNat n) := by
 rw [IntKind.wrap_u8, ZDc (by omega), show ((n : Int) % 256).toNat = n % 256 from by omega]
 congr 1
 apply UInt8.toNat_inj.1
 rw [UInt8.toNat_ofNat', UInt8.toNat_ofNat']
 omega
theorem Zra (n k : Nat) : b8 (IntKind.u8.wrap ((n : Int).fdiv (2 ^ k))) = some (UInt8.ofNat (n / 2 ^ k)) := by
 have hk : (n : Int).fdiv (2 ^ k) = ((n / 2 ^ k : Nat) : Int) := by
  rw [Int.fdiv_eq_ediv_of_nonneg _ (Int.pow_nonneg (by omega))]
  rw [show ((2 : Int) ^ k) = ((2 ^ k : Nat) : Int) from by simp]
  exact (Int.natCast_ediv _ _).symm
 rw [hk, ZyF]
theorem ZzR {n : Nat} (hn : n < 4294967296) : Zop (n : Int) = some (4, (le4 n, ())) := by
 unfold Zop
 exact Zaf (ZyF n) (Zaf (Zra n 8) (Zaf (Zra n 16) (Zaf (Zra n 24) rfl)))
theorem ZvU (n : Nat) : (le4 n).length = 4 := rfl
theorem Znp {n : Nat} (hn : n < 4294967296) {σ : St} (K : AV -> St -> Prop) (hK : ∀ a τ, Hd τ 5 1 a 4 (bys (le4 n)) -> Ext σ τ -> (∀ b, hbk a = some b -> σ.blk b = none /\ ¬ σ.used b) -> K a τ) : Zal Tryz.prog 35 [.raw (.int .u32 (n : Int))] σ K := by
 refine ZnZ (Zq8.ok ((n : Int), ()) () ((4 : Nat), (le4 n, ())) (ZzR hn)) (Zaw.2 rfl) (by rw [ZvU]; exact Nat.le_refl _) K fun a τ cells h1 h2 h3 h4 => ?_
 have := Zpx (h2 0 ZaV)
 rw [List.take_of_length_le (by rw [ZvU]; exact Nat.le_refl _)] at this
 subst this
 exact hK a τ h1 h3 h4
theorem ZvV {rs : List (List UInt8)} (hr : rs.flatten.length <= 1000000000) {σ : St} {vs : List AV} (hs : SVs CT 0 ZaV [.sl 3 rs none] vs) (K : AV -> St -> Prop) (hK : ∀ τ, Ext σ τ -> K (.raw (.int .u32 ((Crc.more 0#32 rs.flatten).toNat : Int))) τ) : Zal Tryz.prog 36 vs σ K :=
 ZlN (Ztx.ok (rs, ()) () (((Crc.more 0#32 rs.flatten).toNat : Int), ()) (by show Zoo rs = _; unfold Zoo; rw [if_pos hr]; rfl)) hs (fun N ρ a h => Zaw.1 h) K hK
set_option maxHeartbeats 2000000 in
theorem Znq {k : Int} {d : List UInt8} (hk0 : 0 <= k) (hk1 : k <= 255) (hdl : d.length <= 1000000) : Tr CT Tryz.prog (fun _ => True) 8 [.agg (CT.enc 15 ⟨k, d⟩)] [] (.as 1 0 0 (code (k, d)).length none) [.arr 5 1 true (code (k, d))] := by
 have hcl := Zbz (k, d)
 dsimp only at hcl
 refine ZC0 rfl (by omega) (by omega) fun ρ σ vs hs => ?_
 obtain ⟨a, rfl, h1⟩ := ZeG.1 hs
 obtain ⟨as_, rfl, h2⟩ := ZcE.1 h1
 obtain ⟨a0, a1, rfl, g0, g1⟩ := Zig.1 h2
 obtain rfl := Zaw.1 g0
 obtain ⟨A, c, rest, rfl, hA⟩ := Zcc g1
 clear hs h1 h2 g0 g1
 refine Zas ZaH Tryz.func8 rfl rfl rfl (Nat.le_of_ble_eq_true rfl) ?_
 refine ZmD 0 (v0 := .agg [.raw (.int .i64 k), .lst A d.length c (bys d ++ rest)]) rfl ?_
 intro e he
 refine Zaa ?_
 refine Zad ?_
 refine Zjs he rfl fun bb υ hbn hbu hb hbv hX => ?_
 refine Zah ?_
 refine Zae ?_
 refine kp1 1 ?_
 clear he e
 intro e he
 refine Zjr ?_
 refine ⟨[0, 5, 1, 2, 3, 6, 7, 4, 8, 9, 10], [[], [0], [0, 1], [0, 1, 2], [0, 1, 2, 3], [], [5], [5, 6], [5, 6, 7], [0, 1, 2, 3, 4, 5, 6, 7, 8], [0, 1, 2, 3, 4, 5, 6, 7, 8, 9]], fun _ => True, [6], [4], [8], by kernel_rfl, ?_⟩
 refine ZdI ?_
 refine Zai (b := bb) (o := 0) (by simp only [EV,Nat.reduceEqDiff,↓reduceIte,he];try rfl) Zty rfl ?_
 refine Zem ?_
 refine ZdI ?_
 refine Zai (b := bb) (o := 0) (by simp only [EV,Nat.reduceEqDiff,↓reduceIte,he];try rfl) Zty rfl ?_
 refine Zem ?_
 refine ZdI ?_
 refine ZaC (b := bb) (o := 0 + 1) (r := .lst A d.length c (bys d ++ rest)) (by simp only [EV,Nat.reduceEqDiff,↓reduceIte,he];try rfl) hb Zg3 Zdd rfl ?_
 refine Zem ?_
 refine ZdI ?_
 refine Zfa (by simp only [EV,Nat.reduceEqDiff,↓reduceIte,he];try rfl) (AV.val_lst _ _ _ _) rfl ZeR ?_
 refine Zem ?_
 refine ZdI ?_
 refine Zuf (r := (d.length : Int)) ZBJ ZBK (by simp only [EV,Nat.reduceEqDiff,↓reduceIte,he];try rfl) (IntWalk.u32_in _ (by omega)) ?_
 refine Zem ?_
 refine ZdI ?_
 refine ZaC (b := bb) (o := 0 + 0) (r := .raw (.int .i64 k)) (by simp only [EV,Nat.reduceEqDiff,↓reduceIte,he];try rfl) hb ZBH ZBI rfl ?_
 refine Zem ?_
 refine ZdI ?_
 refine Zuf (r := k) ZBJ ZDb (by simp only [EV,Nat.reduceEqDiff,↓reduceIte,he];try rfl) (by rw [IntKind.wrap_u8]; omega) ?_
 refine Zem ?_
 refine ZdI ?_
 refine Zgt (vs := [.raw (.int .u32 (d.length : Int))]) (by simp only [List.map_cons, List.map_nil, EV,Nat.reduceEqDiff,↓reduceIte,he]) ?_
 refine Znp (by omega) _ fun f4 τ h4 hX4 hn4 => ⟨fun _ => hX4, ?_⟩
 refine ZDW (vs := [.raw (.int .u8 k)]) (cells := [.raw (.int .u8 k)]) (by simp only [HIX]; try rfl) rfl (by simp only [List.map_cons, List.map_nil, EV,Nat.reduceEqDiff,↓reduceIte,he]) ZeR Zno Znn rfl (by omega) rfl fun b2 hb2u hb2n => ?_
 have hX2 : Ext τ (τ.put b2 (.own 5 [.raw (.int .u8 k)])) := Ext.put _ hb2n
 have hn2 : Hd (τ.put b2 (.own 5 [.raw (.int .u8 k)])) 5 1 (hdr b2 1 1) 1 [.raw (.int .u8 k)] := ZBr (by omega) (by omega) rfl (fun a ha => by rw [List.mem_singleton.1 ha]; rfl)
 refine ZdI ?_
 refine ZlM (m := 1) (by simp only [EV,Nat.reduceEqDiff,↓reduceIte,he];try rfl) (by simp only [EV,Nat.reduceEqDiff,↓reduceIte,he];try rfl) ZeR Zno Znn ZrZ rfl (by omega) (h4.ext hX2) (hn2.src (by omega)) (by omega) (by unfold maxLen; omega) (by omega) fun v5 τ5 h5 _ hB5 hn5 => ⟨(fun h => absurd h Bool.false_ne_true), ?_⟩
 refine ZgR ?_
 refine ZqR ?_
 have hne4 : hbk f4 ≠ some bb := fun hq => by
  obtain ⟨_, q⟩ := h4.blk hq
  rw [hX4.keep _ _ hb] at q
  injection q with q
  injection q with q
  cases q
 have hb5 : τ5.blk bb = some (.own 26 [.raw (.int .i64 k), .lst A d.length c (bys d ++ rest)]) := hB5.keep _ _ hne4 (hX2.keep _ _ (hX4.keep _ _ hb))
 have hX5 : Ext σ τ5 := But.ext (((hX.trans hX4).trans hX2)) (fun b hq => by
  exact hX.noneOf (hn4 b hq).1) hB5
 have hh : bys (le4 d.length) ++ [.raw (.int .u8 k)] = bys (hd (k, d)) := by
  have : ((UInt8.ofNat k.toNat).toNat : Int) = k := by rw [UInt8.toNat_ofNat']; omega
  unfold hd bys
  rw [List.map_append, List.map_cons, List.map_nil, this]
 rw [hh] at h5
 have hn5' : ∀ b, hbk v5 = some b -> σ.blk b = none /\ ¬ σ.used b := fun b hq => by
  rcases hn5 b hq with hq | hq
  ·exact ⟨hX.noneOf (hn4 b hq).1, hX.unused (hn4 b hq).2⟩
  ·exact ⟨((hX.trans hX4).trans hX2).noneOf hq.1, ((hX.trans hX4).trans hX2).unused hq.2⟩
 clear hn5 hB5 hn2 hX2 hn4 hX4 h4 hX hb hbv hne4
 obtain ⟨b5, hb5k⟩ := h5.some_ (by omega)
 obtain ⟨c5, all5, rfl, p1, p2, p3, p4, p5, p6⟩ := h5.at_ hb5k
 refine kp2 1 3 ?_
 clear he e
 intro e he
 refine Zaa ?_
 refine Zah ?_
 refine Zad ?_
 refine Zai (b := bb) (o := 0) he.1 Zty rfl ?_
 refine Zad ?_
 refine ZaC (b := bb) (o := 0 + 1) (r := .lst A d.length c (bys d ++ rest)) rfl hb5 Zg3 Zdd rfl ?_
 refine Zad ?_
 refine Zif (vs := [hdr b5 5 c5, .lst A d.length c (bys d ++ rest)]) (cells := [hdr b5 5 c5, .lst A d.length c (bys d ++ rest)]) (by simp only [List.map_cons, List.map_nil, EV,Nat.reduceEqDiff,↓reduceIte,he]) Zg4 Zdd Zmg rfl (by omega) rfl rfl fun rb τ6 hN6 hX6 => ?_
 have h6 := h5.ext hX6
 refine Zad ?_
 refine Zgt (vs := [.lst (some ⟨rb, 0, none⟩) 2 2 [hdr b5 5 c5, .lst A d.length c (bys d ++ rest)]]) (by simp only [List.map_cons, List.map_nil, EV,Nat.reduceEqDiff,↓reduceIte,he]) ?_
 obtain ⟨A1, c1, hl1, l1, l2, l3⟩ := h6.lends (G := fun b => hbk (hdr b5 5 c5) = some b) (fun b hq => hq) (ZdF.refl _)
 refine ZuU (G := fun b => hbk (hdr b5 5 c5) = some b) (σ := τ6) (args := [.lst (some ⟨rb, 0, none⟩) 2 2 [hdr b5 5 c5, .lst A d.length c (bys d ++ rest)]]) (args' := [.lst (some ⟨rb, 0, none⟩) 2 2 [.lst A1 5 c1 (bys (hd (k, d))), .lst A d.length c (bys d ++ rest)]]) (rv := .raw (.int .u32 (ZiT (k, d) : Int))) (fun b hq => by
  obtain ⟨all, q⟩ := h6.blk hq
  exact ⟨_, _, q, h6.used hq⟩) ⟨ZuT ⟨hl1, .refl _, trivial⟩, trivial⟩ (ZvV (rs := [hd (k, d), d]) (by simp [Zl1]; omega) (Zb8.2 ⟨_, 2, _, [], rfl, Nat.le_refl _, by unfold maxLen; omega, by simp, (fun q => by cases q), .cons (by
   have := Zk1 (N := 0) (ρ := ZaV) (d := hd (k, d)) (A := A1) (c := c1) (rest := []) ⟨l1, l2, by rw [Zl1]; omega, l3⟩
   rw [List.append_nil] at this
   exact this) (Zk1 hA)⟩) _ fun τ hX => ⟨by
    have : ([hd (k, d), d] : List (List UInt8)).flatten = hd (k, d) ++ (k, d).2 := by simp
    rw [this]; rfl, hX⟩) (fun w B => ZaL _) _ fun τ7 hX7 => ?_
 refine Zah ?_
 refine Zae ?_
 have hb7 := hX7.keep _ _ (hX6.keep _ _ hb5)
 have h7 := h6.ext hX7
 have hX8 := (hX5.trans hX6).trans hX7
 refine kp3 1 3 4 ?_
 clear he e
 intro e he
 refine Zjr ?_
 refine ⟨[0, 1, 4, 5, 2, 3, 6, 7], [[], [], [1], [0, 1, 2], [], [4], [0, 1, 2, 3, 4, 5], [0, 1, 2, 3, 4, 5, 6]], fun b => b = bb, [5], [2, 3], [], by kernel_rfl, ?_⟩
 refine ZiN ?_
 refine ZiN ?_
 refine ZgC ?_
 refine Zai (b := bb) (o := 0) he.1 Zty rfl ?_
 refine ZiK ?_
 apply ZBs
 case hi => simp only [HIX]; try rfl
 case hw => rfl
 case how => rfl
 case hx => simp only [EV,Nat.reduceEqDiff,↓reduceIte,he];try rfl
 case hp => exact rfl
 case hb => exact hb7
 case ha => exact Zg3
 case hn => exact Zdd
 case hr => exact rfl
 refine ZgC ?_
 refine Zgt (vs := [.raw (.int .u32 (ZiT (k, d) : Int))]) (by simp only [List.map_cons, List.map_nil, EV,Nat.reduceEqDiff,↓reduceIte,he]) ?_
 refine Znp (Zn7 _) _ fun f8 τ8 h8 hX9 hn8 => ⟨fun _ => hX9.keeps, ?_⟩
 refine ZgC ?_
 refine ZlM (m := 4) rfl rfl ZeR Zno Znn ZrZ rfl (by omega) (h7.ext hX9) (h8.src (by omega)) (by omega) (by unfold maxLen; omega) (by omega) fun v9 τ9 h9 _ hB9 hn9 => ⟨fun _ => hB9.keeps fun b hq hq2 => ?_, ?_⟩
 ·subst hq
  have hq2 := Zko hq2
  subst hq2
  rw [hb5] at p1
  injection p1 with p1
  injection p1 with p1
  cases p1
 have hX10 : Ext σ τ9 := But.ext (hX8.trans hX9) (fun b hq => (hn5' b hq).1) hB9
 have hn9' : ∀ b, hbk v9 = some b -> σ.blk b = none /\ ¬ σ.used b := fun b hq => by
  rcases hn9 b hq with hq | hq
  ·exact hn5' b hq
  ·exact ⟨(hX8.trans hX9).noneOf hq.1, (hX8.trans hX9).unused hq.2⟩
 have hcode : bys (hd (k, d)) ++ bys (le4 (ZiT (k, d))) ++ bys d = bys (code (k, d)) := by
  unfold code bys
  simp only [List.map_append, List.append_assoc]
 refine ZgC ?_
 refine Zch (m := d.length) (news := bys d) rfl rfl ZeR Zno Znn ZrZ rfl (by omega) h9 (Zge (by rw [ZnY, Nat.mul_one]) (ZqS d) fun q => (hA.none q).1) (by unfold maxLen; omega) (by omega) fun v10 τ10 h10 hB10 hn10 => ⟨(fun h => absurd h Bool.false_ne_true), ?_⟩
 refine ZiN ?_
 refine Zyy ?_
 refine ZaZ ?_
 show ∃ r, Za1 _ _ _ _ r /\ _
 refine ⟨_, ZeE rfl rfl, bys (code (k, d)), ?_, fun N' ρ' => Zr7 _, But.ext hX10 (fun b hq => (hn9' b hq).1) hB10, fun b hq => ?_⟩
 ·rw [hcode] at h10
  rw [show (code (k, d)).length = 4 + 1 + 4 + d.length by omega]
  exact h10
 ·rcases hn10 b hq with hq | hq
  ·exact hn9' b hq
  ·exact ⟨hX10.noneOf hq.1, hX10.unused hq.2⟩
theorem ZvW (x0 : Zbd) (h : 0 <= x0.kind /\ x0.kind <= 255 /\ x0.data.length <= 1000000) : Tr CT Tryz.prog (fun _ => True) 8 [.agg (CT.enc 15 x0)] [] (.sl 1 (code (x0.kind, x0.data)) (some 0)) [.row 5 1] := by
 obtain ⟨k, d⟩ := x0
 obtain ⟨hk0, hk1, hdl⟩ := h
 have hcl := Zbz (k, d)
 dsimp only at hcl hk0 hk1 hdl
 have := Tr.freezeO (by omega) (Nat.le_refl _) (Znq hk0 hk1 hdl)
 rw [List.take_length] at this
 exact this
end Go.Proofs.YteempnebenjkmaaGreatDoor
