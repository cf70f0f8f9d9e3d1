/- Headers: lists of ours by where they lie; what a header's list has; what appending, storing, making does. -/
import Derived.Test.YteempnebenjkmaaGreatDoorMb
namespace Go.Proofs.YteempnebenjkmaaGreatDoor
open Go.RowKit
set_option maxRecDepth 100000
set_option linter.unusedVariables false
set_option linter.unusedSimpArgs false
def hbk : AV -> Option Nat
 | .raw (.slice (some ad) _ (_ + 1)) => some ad.block
 | _ => none
def hdr (b n c : Nat) : AV := .raw (.slice (some ⟨b, 0, none⟩) n c)
theorem Zfr {b n c : Nat} (hc : 0 < c) : hbk (hdr b n c) = some b := by
 cases c with
 | zero => omega
 | succ c => rfl
theorem Zko {b b' n c : Nat} (h : hbk (hdr b n c) = some b') : b = b' := by
 cases c with
 | zero => cases h
 | succ c => injection h
@[simp] theorem ZCX : hbk (.lst none 0 0 []) = none := rfl
def Hd (σ : St) (e sz : Nat) (v : AV) (n : Nat) (cells : List AV) : Prop :=
 cells.length = n * sz /\ (∀ a ∈ cells, a.one = true) /\ (((v = .lst none 0 0 [] \/ ∃ ad, v = .raw (.slice (some ad) 0 0)) /\ n = 0) \/ ∃ b c all, 0 < c /\ v = hdr b n c /\ σ.blk b = some (.own e all) /\ σ.used b /\ all.length = c * sz /\ all.take (n * sz) = cells /\ n <= c /\ c <= maxLen)
section
variable {P : Program} {O : Nat -> Prop} {ops : Array Oper} {rest : List Oper} {env : Env} {σ τ : St} {K : Env -> St -> Prop} {d : Option Nat} {ty ty' t : TypeId} {pos : String} {af : Array Edge} {x y : Operand} {e e' sz sz' n m : Nat} {v u : AV} {cells cs ds : List AV} {b : Nat}
theorem Hd.len (h : Hd σ e sz v n cells) : cells.length = n * sz := h.1
theorem Hd.one (h : Hd σ e sz v n cells) : ∀ a ∈ cells, a.one = true := h.2.1
theorem Hd.at_ (h : Hd σ e sz v n cells) (hb : hbk v = some b) : ∃ c all, v = hdr b n c /\ σ.blk b = some (.own e all) /\ σ.used b /\ all.length = c * sz /\ all.take (n * sz) = cells /\ n <= c /\ c <= maxLen := by
 rcases h.2.2 with ⟨rfl | ⟨ad, rfl⟩, _⟩ | ⟨b', c, all, hc, rfl, h1⟩
 ·cases hb
 ·cases hb
 ·obtain rfl := Zko hb
  exact ⟨c, all, rfl, h1⟩
theorem Hd.blk (h : Hd σ e sz v n cells) (hb : hbk v = some b) : ∃ all, σ.blk b = some (.own e all) := by
 obtain ⟨_, all, _, h1, _⟩ := h.at_ hb
 exact ⟨all, h1⟩
theorem Hd.used (h : Hd σ e sz v n cells) (hb : hbk v = some b) : σ.used b := by
 obtain ⟨_, all, _, _, h1, _⟩ := h.at_ hb
 exact h1
theorem Hd.val (h : Hd σ e sz v n cells) : ∃ A c, v.val = .slice A n c /\ (A = none -> n = 0 /\ c = 0) /\ n <= c := by
 rcases h.2.2 with ⟨rfl | ⟨ad, rfl⟩, rfl⟩ | ⟨b, c, all, _, rfl, _, _, _, _, h1, _⟩
 ·exact ⟨none, 0, by simp, fun _ => ⟨rfl, rfl⟩, Nat.le_refl _⟩
 ·exact ⟨some ad, 0, rfl, (fun h => by cases h), Nat.le_refl _⟩
 ·exact ⟨some ⟨b, 0, none⟩, c, rfl, (fun h => by cases h), h1⟩
theorem Hd.oneV (h : Hd σ e sz v n cells) : v.one = true /\ Zb4 v = true /\ v.cells = [v] := by
 rcases h.2.2 with ⟨rfl | ⟨ad, rfl⟩, rfl⟩ | ⟨b, c, all, _, rfl, _⟩ <;> exact ⟨rfl, rfl, rfl⟩
theorem Hd.some_ (h : Hd σ e sz v n cells) (hn : 0 < n) : ∃ b, hbk v = some b := by
 rcases h.2.2 with ⟨_, rfl⟩ | ⟨b, c, all, hc, rfl, _⟩
 ·omega
 ·exact ⟨b, Zfr hc⟩
theorem Hd.src (h : Hd σ e sz v n cells) (hsz : 0 < sz) : Src σ sz v n cells := by
 obtain ⟨h1, h2, h3⟩ := h
 rcases h3 with ⟨rfl | ⟨ad, rfl⟩, rfl⟩ | ⟨b, c, all, _, rfl, g1, g2, g3, g4, g5, g6⟩
 ·rw [List.eq_nil_of_length_eq_zero (by rw [h1, Nat.zero_mul] : cells.length = 0)]
  exact Zlv
 ·rw [List.eq_nil_of_length_eq_zero (by rw [h1, Nat.zero_mul] : cells.length = 0)]
  exact ⟨by simp, by simp, ⟨some ad, 0, rfl, fun _ => rfl⟩, fun w Z hH hV => ⟨by simp, fun ad c hy j u hu => by simp at hu⟩⟩
 ·have hm : n * sz <= c * sz := Nat.mul_le_mul_right _ g5
  have hs := ZnM (σ := σ) (sz := sz) (off := 0) (m := n) (y := hdr b n c) (ad := ⟨b, 0, none⟩) (c := c) rfl g1 (fun _ => rfl) hsz (by omega) (by rw [List.drop_zero, g4]; exact h2)
  rw [List.drop_zero, g4] at hs
  exact hs
theorem Hd.but {S : Nat -> Prop} (h : Hd σ e sz v n cells) (k : But S σ τ) (hS : ∀ b, hbk v = some b -> ¬ S b) : Hd τ e sz v n cells := by
 refine ⟨h.1, h.2.1, ?_⟩
 rcases h.2.2 with h3 | ⟨b, c, all, hc, rfl, g1, g2, g3⟩
 ·exact .inl h3
 ·exact .inr ⟨b, c, all, hc, rfl, k.keep _ _ (hS _ (Zfr hc)) g1, k.used _ g2, g3⟩
theorem Hd.ext (h : Hd σ e sz v n cells) (k : Ext σ τ) : Hd τ e sz v n cells := h.but (S := fun _ => False) k.but fun _ _ => id
theorem Hd.ne (h : Hd σ e sz v n cs) (k : Hd σ e' sz' u m ds) (hne : e ≠ e') (hb : hbk v = some b) : hbk u ≠ some b := fun hu => by
 obtain ⟨_, h1⟩ := h.blk hb
 obtain ⟨_, h2⟩ := k.blk hu
 rw [h1] at h2
 injection h2 with h2
 injection h2 with h2
 exact hne h2
theorem Hd.old (h : Hd σ e sz v n cs) (hb : hbk v = some b) (hn : σ.blk b = none) : False := by
 obtain ⟨_, h1⟩ := h.blk hb
 rw [h1] at hn
 cases hn
theorem ZdV {k : IntKind} {j : Nat} (hx : ev env x = v) (hy : ev env y = .raw (.int k j)) (ht : Zar P t = some e) (hs : Zav P e = some sz) (hown : Hd σ e sz v n cells) (hj : j < n) (h : ∀ b, hbk v = some b -> K (env.put d (ptr b (j * sz))) σ) : aOp P ops ⟨d, .indexAddr t x y, ty, pos, af, none⟩ env σ K := by
 obtain ⟨b, hb⟩ := hown.some_ (by omega)
 obtain ⟨c, all, rfl, h1⟩ := hown.at_ hb
 refine ZhV (vs := [hdr b n c, .raw (.int k j)]) rfl (by simp [Op.operands, hx, hy]) (fun _ _ h => .inl h) (fun ρ hρ w _ _ => ?_) (h b hb)
 simp [Op.operands] at hρ
 have hr := Zic (P := P) (w := w) (ad := ⟨b, 0, none⟩) (n := n) (c := c) (k := k) (j := j) ht hs hj
 simp only [execOp, hρ.1, hρ.2, hdr, AV.val_raw, Sem.run_bind, hr, Result.andThen_ok, Sem.run_pure]
 rw [Zbl, Nat.zero_add]
theorem Hd.load {j : Nat} (h : Hd σ e sz v n cells) (hb : hbk v = some b) (hj : j < n) (ha : Ze0 P t = some true) (hs : Zav P t = some sz) : Zdk P t σ (ptr b (j * sz)) = some (.agg ((cells.drop (j * sz)).take sz)) := by
 obtain ⟨c, all, rfl, g1, g2, g3, g4, g5, g6⟩ := h.at_ hb
 unfold Zdk ptr
 dsimp only
 rw [g1, ha, hs]
 dsimp only [Zbw]
 have h1 : (j + 1) * sz <= n * sz := Nat.mul_le_mul_right _ hj
 have h2 : n * sz <= c * sz := Nat.mul_le_mul_right _ g5
 rw [Nat.succ_mul] at h1
 rw [if_pos (by omega), <- g4, List.drop_take, List.take_take, Nat.min_eq_left (by omega)]
theorem Hd.load1 {j : Nat} {r : AV} (h : Hd σ e 1 v n cells) (hb : hbk v = some b) (hj : j < n) (hr : cells[j]? = some r) (ha : Ze0 P t = some false) (hs : Zav P t = some 1) : Zdk P t σ (ptr b (j * 1)) = some r := by
 obtain ⟨c, all, rfl, g1, g2, g3, g4, g5, g6⟩ := h.at_ hb
 unfold Zdk ptr
 dsimp only
 rw [g1, ha, hs]
 dsimp only [Zbw]
 rw [Nat.mul_one] at *
 rw [<- g4, List.getElem?_take_of_lt (by omega)] at hr
 exact hr
theorem Zw9 {j : Nat} {r : AV} (hx : ev env x = ptr b (j * sz)) (hy : ev env y = r) (hs : Zav P t = some sz) (hown : Hd σ e sz v n cells) (hb : hbk v = some b) (hj : j < n) (h1 : Zb4 r = true /\ r.cells.length = sz /\ ∀ a ∈ r.cells, a.one = true)
 (h : ∀ τ, Hd τ e sz v n (ZaG cells (j * sz) r.cells) -> But (fun c => hbk v = some c) σ τ -> K (env.put d (.raw undef)) τ) : aOp P ops ⟨d, .store t x y, ty, pos, af, none⟩ env σ K := by
 obtain ⟨c, all, rfl, g1, g2, g3, g4, g5, g6⟩ := hown.at_ hb
 have q1 : (j + 1) * sz <= n * sz := Nat.mul_le_mul_right _ hj
 have q2 : n * sz <= c * sz := Nat.mul_le_mul_right _ g5
 rw [Nat.succ_mul] at q1
 have hl := hown.len
 refine Zbn hx hy g1 hs ?_ rfl fun τ k1 k2 => h τ ⟨?_, ?_, .inr ⟨b, c, _, by omega, rfl, k1, k2.used _ g2, ?_, ?_, g5, g6⟩⟩ ⟨fun c' k hc hk => k2.keep _ _ (fun e => hc (by rw [e]; exact hb)) hk, k2.used⟩
 ·simp [h1.1, h1.2.1, List.all_eq_true.2 h1.2.2]; omega
 ·unfold ZaG
  simp only [List.length_append, List.length_take, List.length_drop, h1.2.1]
  omega
 ·intro a ha
  unfold ZaG at ha
  simp only [List.mem_append] at ha
  rcases ha with (ha | ha) | ha
  ·exact hown.one a (List.mem_of_mem_take ha)
  ·exact h1.2.2 a ha
  ·exact hown.one a (List.mem_of_mem_drop ha)
 ·unfold ZaG
  simp only [List.length_append, List.length_take, List.length_drop, h1.2.1]
  omega
 ·unfold ZaG
  rw [<- g4, h1.2.1]
  apply List.ext_getElem?
  intro q
  simp only [List.getElem?_take, List.getElem?_append, List.getElem?_drop, List.length_append, List.length_take, h1.2.1]
  repeat' split
  all_goals first | rfl | (exfalso; omega) | (congr 1; omega) | skip
theorem ZlM {r : AV} {bytes : Nat} {z : Value} {news : List AV} (hx : ev env x = v) (hy : ev env y = r) (ht : Zar P t = some e) (hs : Zav P e = some sz) (hz : ZaS P e = some z) (hby : Zb5 P e = some bytes) (hzs : z.cells.size = sz) (hsz : 0 < sz)
 (hown : Hd σ e sz v n cells) (src : Src σ sz r m news) (hm0 : 0 < m) (h63 : n + m <= maxLen) (hbb : (n + m) * bytes <= 140737488355328)
 (h : ∀ v' τ, Hd τ e sz v' (n + m) (cells ++ news) -> (∀ u k ds, Hd σ e sz u k ds -> (∀ b, hbk v = some b -> hbk u = some b -> k <= n) -> Hd τ e sz u k ds) -> But (fun c => hbk v = some c) σ τ -> (∀ c, hbk v' = some c -> hbk v = some c \/ (σ.blk c = none /\ ¬ σ.used c)) -> K (env.put d v') τ) :
 aOp P ops ⟨d, .call ⟨.builtin .append, #[x, y], #[t, t]⟩, ty, pos, af, none⟩ env σ K := by
 rw [ZaN rfl]
 have hvs : ((.call ⟨.builtin .append, #[x, y], #[t, t]⟩ : Op).operands.toList.map (ev env)) = [v, r] := by simp [Op.operands, Call.operands, hx, hy]
 show ZdL P _ (Op.operands _ |>.toList.map (ev env)) σ _
 rw [hvs]
 refine Zhm fun w Z hH hV1 hV2 => ?_
 obtain ⟨A, c, hv, hA, hnc⟩ := hown.val
 have hone := src.one
 have hnl := src.len
 by_cases hroom : n + m <= c
 ·rcases hown.2.2 with ⟨rfl | ⟨ad, rfl⟩, rfl⟩ | ⟨b, c', all, hc0, rfl, g1, g2, g3, g4, g5, g6⟩
  ·injection hv with q1 q2 q3
   omega
  ·injection hv with q1 q2 q3
   omega
  ·injection hv with q1 q2 q3
   subst q1 q3
   obtain ⟨w', r1, r2, r3⟩ := ZgI (lo := 0) (ty := ty) (ad := ⟨b, 0, none⟩) hH hV2 ht hs hsz g1 (by rw [Nat.zero_add]; omega) (fun _ => by rw [Nat.zero_mul]) src hroom
   have q2 : (n + m) * sz <= c' * sz := Nat.mul_le_mul_right _ hroom
   rw [Nat.zero_add] at r2 r3
   rw [Nat.add_mul] at q2
   have hspl : (ZaG all (n * sz) news).length = c' * sz := by
    unfold ZaG
    simp only [List.length_append, List.length_take, List.length_drop]
    omega
   have hset : (σ.set b (.own e (ZaG all (n * sz) news))).blk b = some (.own e (ZaG all (n * sz) news)) := by
    show (if b = b then _ else σ.blk b) = _
    rw [if_pos rfl]
   have hbut : But (fun c => hbk (hdr b n c') = some c) σ (σ.set b (.own e (ZaG all (n * sz) news))) := ⟨fun c k hc hk => by
    show (if c = b then _ else σ.blk c) = _
    rw [if_neg (fun e => hc (by rw [e]; exact Zfr hc0))]
    exact hk, fun c hc => hc⟩
   have hbb : hbk (hdr b (n + m) c') = some b := Zfr hc0
   refine ⟨hdr b (n + m) c', σ.set b (.own e (ZaG all (n * sz) news)), w', ?_, ?_, r2, ZaL _, r3⟩
   ·exact r1
   refine h _ _ ⟨by rw [List.length_append, hown.1, hnl, Nat.add_mul], fun a ha => by
    rcases List.mem_append.1 ha with ha | ha
    ·exact hown.one a ha
    ·exact hone a ha, .inr ⟨b, c', _, hc0, rfl, hset, g2, hspl, ?_, hroom, g6⟩⟩ (fun u k ds hu hk => ?_) hbut fun c hc => .inl (by rw [<- Zko hc]; exact Zfr hc0)
   ·unfold ZaG
    rw [g4, Nat.add_mul, <- hnl, <- hown.1, <- List.length_append, List.take_left]
   ·by_cases hub : hbk u = some b
    ·have hkn := hk b (Zfr hc0) hub
     obtain ⟨c2, all2, rfl, k1, k2, k3, k4, k5, k6⟩ := hu.at_ hub
     rw [g1] at k1
     injection k1 with k1
     injection k1 with _ k1
     subst k1
     have hkk : k * sz <= n * sz := Nat.mul_le_mul_right _ hkn
     refine ⟨hu.1, hu.2.1, .inr ⟨b, c2, _, (by
      cases c2 with
      | zero => cases hub
      | succ c2 => omega), rfl, hset, g2, by rw [hspl]; omega, ?_, k5, k6⟩⟩
     rw [<- k4]
     unfold ZaG
     rw [List.append_assoc, List.take_append_of_le_length (by rw [List.length_take]; omega), List.take_take, Nat.min_eq_left hkk]
    ·exact hu.but hbut fun c hc hc2 => hub (by rw [hc, Zko hc2])
 ·obtain ⟨cap, w', rest, r0, r1, r2, r3, r4, f1, f2, f3, f4⟩ := Zkk (ty := ty) hH hV1 hV2 ht hs hz hby hzs hsz (hown.src hsz) hv (fun e => (hA e).2) src (by omega) hnc h63 hbb
  have hX : Ext σ (σ.put w.heap.size (.own e (cells ++ news ++ rest))) := Ext.put _ f2
  refine ⟨hdr w.heap.size (n + m) cap, _, w', ?_, ?_, f3, ZaL _, f4⟩
  ·exact r1
  refine h _ _ ⟨by rw [List.length_append, hown.1, hnl, Nat.add_mul], fun a ha => by
   rcases List.mem_append.1 ha with ha | ha
   ·exact hown.one a ha
   ·exact hone a ha, .inr ⟨w.heap.size, cap, _, by omega, rfl, ZaW _ _ _, .inr rfl, r4, ?_, r2, r3⟩⟩ (fun u k ds hu _ => hu.ext hX) hX.but fun c hc => ?_
  ·rw [Nat.add_mul, <- hnl, <- hown.1, <- List.length_append, List.take_left]
  ·have hc := Zko hc
   subst hc
   exact .inr ⟨f2, f1⟩
end
end Go.Proofs.YteempnebenjkmaaGreatDoor
