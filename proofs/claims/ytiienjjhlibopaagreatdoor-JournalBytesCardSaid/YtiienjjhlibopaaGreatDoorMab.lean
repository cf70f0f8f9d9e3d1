/- XHd, XHw, XLy, XHx, XDm, XDf, XDh, XHq, XDk, XDl, XKi in one. -/
import Derived.Test.YtiienjjhlibopaaGreatDoorMaa
import Derived.Test.YtiienjjhlibopaaGreatDoorChecked
import Derived.Laws.IdiomRangeMap
import Derived.Maps.RangeRun
import Derived.WalkKit
import Derived.WalkSpells
import Derived.WalkLawsBesides
import Derived.Deep.RegionHeld3
import Derived.BigRegion
import Derived.Test.YtiienjjhlibopaaGreatDoorFacts
import Derived.LaidEql
namespace Go.Proofs.YtiienjjhlibopaaGreatDoor
open Go.RowKit
set_option maxRecDepth 100000
set_option linter.unusedVariables false
set_option linter.unusedSimpArgs false
def hbk : AV -> Option Nat
 | .raw (.slice (some ad) _ (_ + 1)) => some ad.block
 | _ => none
def hdr (b n c : Nat) : AV := .raw (.slice (some ⟨b, 0, none⟩) n c)
theorem ZcD {b n c : Nat} (hc : 0 < c) : hbk (hdr b n c) = some b := by
 cases c with
 | zero => omega
 | succ c => rfl
theorem Zc8 {b b' n c : Nat} (h : hbk (hdr b n c) = some b') : b = b' := by
 cases c with
 | zero => cases h
 | succ c => injection h
@[simp] theorem Zsj : hbk (.lst none 0 0 []) = none := rfl
def Hd (σ : St) (e sz : Nat) (v : AV) (n : Nat) (cells : List AV) : Prop :=
 cells.length = n * sz /\ (∀ a ∈ cells, a.one = true) /\ (((v = .lst none 0 0 [] \/ ∃ ad, v = .raw (.slice (some ad) 0 0)) /\ n = 0) \/ ∃ b c all, 0 < c /\ v = hdr b n c /\ σ.blk b = some (.own e all) /\ σ.used b /\ all.length = c * sz /\ all.take (n * sz) = cells /\ n <= c /\ c <= maxLen)
section
variable {P : Program} {O : Nat -> Prop} {ops : Array Oper} {rest : List Oper} {env : Env} {σ τ : St} {K : Env -> St -> Prop} {d : Option Nat} {ty ty' t : TypeId} {pos : String} {af : Array Edge} {x y : Operand} {e e' sz sz' n m : Nat} {v u : AV} {cells cs ds : List AV} {b : Nat}
theorem Hd.len (h : Hd σ e sz v n cells) : cells.length = n * sz := h.1
theorem Hd.one (h : Hd σ e sz v n cells) : ∀ a ∈ cells, a.one = true := h.2.1
theorem Hd.at_ (h : Hd σ e sz v n cells) (hb : hbk v = some b) : ∃ c all, v = hdr b n c /\ σ.blk b = some (.own e all) /\ σ.used b /\ all.length = c * sz /\ all.take (n * sz) = cells /\ n <= c /\ c <= maxLen := by
 rcases h.2.2 with ⟨rfl | ⟨ad, rfl⟩, _⟩ | ⟨b', c, all, hc, rfl, h1⟩
 ·cases hb
 ·cases hb
 ·obtain rfl := Zc8 hb
  exact ⟨c, all, rfl, h1⟩
theorem Hd.blk (h : Hd σ e sz v n cells) (hb : hbk v = some b) : ∃ all, σ.blk b = some (.own e all) := by
 obtain ⟨_, all, _, h1, _⟩ := h.at_ hb
 exact ⟨all, h1⟩
theorem Hd.used (h : Hd σ e sz v n cells) (hb : hbk v = some b) : σ.used b := by
 obtain ⟨_, all, _, _, h1, _⟩ := h.at_ hb
 exact h1
theorem Hd.val (h : Hd σ e sz v n cells) : ∃ A c, v.val = .slice A n c /\ (A = none -> n = 0 /\ c = 0) /\ n <= c := by
 rcases h.2.2 with ⟨rfl | ⟨ad, rfl⟩, rfl⟩ | ⟨b, c, all, _, rfl, _, _, _, _, h1, _⟩
 ·exact ⟨none, 0, by simp, fun _ => ⟨rfl, rfl⟩, Nat.le_refl _⟩
 ·exact ⟨some ad, 0, rfl, (fun h => by cases h), Nat.le_refl _⟩
 ·exact ⟨some ⟨b, 0, none⟩, c, rfl, (fun h => by cases h), h1⟩
theorem Hd.oneV (h : Hd σ e sz v n cells) : v.one = true /\ Zbh v = true /\ v.cells = [v] := by
 rcases h.2.2 with ⟨rfl | ⟨ad, rfl⟩, rfl⟩ | ⟨b, c, all, _, rfl, _⟩ <;> exact ⟨rfl, rfl, rfl⟩
theorem Hd.some_ (h : Hd σ e sz v n cells) (hn : 0 < n) : ∃ b, hbk v = some b := by
 rcases h.2.2 with ⟨_, rfl⟩ | ⟨b, c, all, hc, rfl, _⟩
 ·omega
 ·exact ⟨b, ZcD hc⟩
theorem Hd.src (h : Hd σ e sz v n cells) (hsz : 0 < sz) : Src σ sz v n cells := by
 obtain ⟨h1, h2, h3⟩ := h
 rcases h3 with ⟨rfl | ⟨ad, rfl⟩, rfl⟩ | ⟨b, c, all, _, rfl, g1, g2, g3, g4, g5, g6⟩
 ·rw [List.eq_nil_of_length_eq_zero (by rw [h1, Nat.zero_mul] : cells.length = 0)]
  exact ZpF
 ·rw [List.eq_nil_of_length_eq_zero (by rw [h1, Nat.zero_mul] : cells.length = 0)]
  exact ⟨by simp, by simp, ⟨some ad, 0, rfl, fun _ => rfl⟩, fun w Z hH hV => ⟨by simp, fun ad c hy j u hu => by simp at hu⟩⟩
 ·have hm : n * sz <= c * sz := Nat.mul_le_mul_right _ g5
  have hs := ZnK (σ := σ) (sz := sz) (off := 0) (m := n) (y := hdr b n c) (ad := ⟨b, 0, none⟩) (c := c) rfl g1 (fun _ => rfl) hsz (by omega) (by rw [List.drop_zero, g4]; exact h2)
  rw [List.drop_zero, g4] at hs
  exact hs
theorem Hd.but {S : Nat -> Prop} (h : Hd σ e sz v n cells) (k : But S σ τ) (hS : ∀ b, hbk v = some b -> ¬ S b) : Hd τ e sz v n cells := by
 refine ⟨h.1, h.2.1, ?_⟩
 rcases h.2.2 with h3 | ⟨b, c, all, hc, rfl, g1, g2, g3⟩
 ·exact .inl h3
 ·exact .inr ⟨b, c, all, hc, rfl, k.keep _ _ (hS _ (ZcD hc)) g1, k.used _ g2, g3⟩
theorem Hd.ext (h : Hd σ e sz v n cells) (k : Ext σ τ) : Hd τ e sz v n cells := h.but (S := fun _ => False) k.but fun _ _ => id
theorem Zb0 {k : IntKind} {j : Nat} (hx : ev env x = v) (hy : ev env y = .raw (.int k j)) (ht : ZaW P t = some e) (hs : ZaU P e = some sz) (hown : Hd σ e sz v n cells) (hj : j < n) (h : ∀ b, hbk v = some b -> K (env.put d (ptr b (j * sz))) σ) : aOp P ops ⟨d, .indexAddr t x y, ty, pos, af, none⟩ env σ K := by
 obtain ⟨b, hb⟩ := hown.some_ (by omega)
 obtain ⟨c, all, rfl, h1⟩ := hown.at_ hb
 refine Zdu (vs := [hdr b n c, .raw (.int k j)]) rfl (by simp [Op.operands, hx, hy]) (fun _ _ h => .inl h) (fun ρ hρ w _ _ => ?_) (h b hb)
 simp [Op.operands] at hρ
 have hr := ZgJ (P := P) (w := w) (ad := ⟨b, 0, none⟩) (n := n) (c := c) (k := k) (j := j) ht hs hj
 simp only [execOp, hρ.1, hρ.2, hdr, AV.val_raw, Sem.run_bind, hr, Result.andThen_ok, Sem.run_pure]
 rw [Zci, Nat.zero_add]
theorem Hd.load {j : Nat} (h : Hd σ e sz v n cells) (hb : hbk v = some b) (hj : j < n) (ha : ZdB P t = some true) (hs : ZaU P t = some sz) : ZbU P t σ (ptr b (j * sz)) = some (.agg ((cells.drop (j * sz)).take sz)) := by
 obtain ⟨c, all, rfl, g1, g2, g3, g4, g5, g6⟩ := h.at_ hb
 unfold ZbU ptr
 dsimp only
 rw [g1, ha, hs]
 dsimp only [Zbi]
 have h1 : (j + 1) * sz <= n * sz := Nat.mul_le_mul_right _ hj
 have h2 : n * sz <= c * sz := Nat.mul_le_mul_right _ g5
 rw [Nat.succ_mul] at h1
 rw [if_pos (by omega), <- g4, List.drop_take, List.take_take, Nat.min_eq_left (by omega)]
theorem Hd.load1 {j : Nat} {r : AV} (h : Hd σ e 1 v n cells) (hb : hbk v = some b) (hj : j < n) (hr : cells[j]? = some r) (ha : ZdB P t = some false) (hs : ZaU P t = some 1) : ZbU P t σ (ptr b (j * 1)) = some r := by
 obtain ⟨c, all, rfl, g1, g2, g3, g4, g5, g6⟩ := h.at_ hb
 unfold ZbU ptr
 dsimp only
 rw [g1, ha, hs]
 dsimp only [Zbi]
 rw [Nat.mul_one] at *
 rw [<- g4, List.getElem?_take_of_lt (by omega)] at hr
 exact hr
theorem ZnO {j : Nat} {r : AV} (hx : ev env x = ptr b (j * sz)) (hy : ev env y = r) (hs : ZaU P t = some sz) (hown : Hd σ e sz v n cells) (hb : hbk v = some b) (hj : j < n) (h1 : Zbh r = true /\ r.cells.length = sz /\ ∀ a ∈ r.cells, a.one = true)
 (h : ∀ τ, Hd τ e sz v n (ZaR cells (j * sz) r.cells) -> But (fun c => hbk v = some c) σ τ -> K (env.put d (.raw undef)) τ) : aOp P ops ⟨d, .store t x y, ty, pos, af, none⟩ env σ K := by
 obtain ⟨c, all, rfl, g1, g2, g3, g4, g5, g6⟩ := hown.at_ hb
 have q1 : (j + 1) * sz <= n * sz := Nat.mul_le_mul_right _ hj
 have q2 : n * sz <= c * sz := Nat.mul_le_mul_right _ g5
 rw [Nat.succ_mul] at q1
 have hl := hown.len
 refine ZaB hx hy g1 hs ?_ rfl fun τ k1 k2 => h τ ⟨?_, ?_, .inr ⟨b, c, _, by omega, rfl, k1, k2.used _ g2, ?_, ?_, g5, g6⟩⟩ ⟨fun c' k hc hk => k2.keep _ _ (fun e => hc (by rw [e]; exact hb)) hk, k2.used⟩
 ·simp [h1.1, h1.2.1, List.all_eq_true.2 h1.2.2]; omega
 ·unfold ZaR
  simp only [List.length_append, List.length_take, List.length_drop, h1.2.1]
  omega
 ·intro a ha
  unfold ZaR at ha
  simp only [List.mem_append] at ha
  rcases ha with (ha | ha) | ha
  ·exact hown.one a (List.mem_of_mem_take ha)
  ·exact h1.2.2 a ha
  ·exact hown.one a (List.mem_of_mem_drop ha)
 ·unfold ZaR
  simp only [List.length_append, List.length_take, List.length_drop, h1.2.1]
  omega
 ·unfold ZaR
  rw [<- g4, h1.2.1]
  apply List.ext_getElem?
  intro q
  simp only [List.getElem?_take, List.getElem?_append, List.getElem?_drop, List.length_append, List.length_take, h1.2.1]
  repeat' split
  all_goals first | rfl | (exfalso; omega) | (congr 1; omega) | skip
theorem Zl9 {r : AV} {bytes : Nat} {z : Value} {news : List AV} (hx : ev env x = v) (hy : ev env y = r) (ht : ZaW P t = some e) (hs : ZaU P e = some sz) (hz : Zba P e = some z) (hby : Zdv P e = some bytes) (hzs : z.cells.size = sz) (hsz : 0 < sz)
 (hown : Hd σ e sz v n cells) (src : Src σ sz r m news) (hm0 : 0 < m) (h63 : n + m <= maxLen) (hbb : (n + m) * bytes <= 140737488355328)
 (h : ∀ v' τ, Hd τ e sz v' (n + m) (cells ++ news) -> (∀ u k ds, Hd σ e sz u k ds -> (∀ b, hbk v = some b -> hbk u = some b -> k <= n) -> Hd τ e sz u k ds) -> But (fun c => hbk v = some c) σ τ -> (∀ c, hbk v' = some c -> hbk v = some c \/ (σ.blk c = none /\ ¬ σ.used c)) -> K (env.put d v') τ) :
 aOp P ops ⟨d, .call ⟨.builtin .append, #[x, y], #[t, t]⟩, ty, pos, af, none⟩ env σ K := by
 rw [ZaT rfl]
 have hvs : ((.call ⟨.builtin .append, #[x, y], #[t, t]⟩ : Op).operands.toList.map (ev env)) = [v, r] := by simp [Op.operands, Call.operands, hx, hy]
 show Zc6 P _ (Op.operands _ |>.toList.map (ev env)) σ _
 rw [hvs]
 refine Zkl fun w Z hH hV1 hV2 => ?_
 obtain ⟨A, c, hv, hA, hnc⟩ := hown.val
 have hone := src.one
 have hnl := src.len
 by_cases hroom : n + m <= c
 ·rcases hown.2.2 with ⟨rfl | ⟨ad, rfl⟩, rfl⟩ | ⟨b, c', all, hc0, rfl, g1, g2, g3, g4, g5, g6⟩
  ·injection hv with q1 q2 q3
   omega
  ·injection hv with q1 q2 q3
   omega
  ·injection hv with q1 q2 q3
   subst q1 q3
   obtain ⟨w', r1, r2, r3⟩ := ZiT (lo := 0) (ty := ty) (ad := ⟨b, 0, none⟩) hH hV2 ht hs hsz g1 (by rw [Nat.zero_add]; omega) (fun _ => by rw [Nat.zero_mul]) src hroom
   have q2 : (n + m) * sz <= c' * sz := Nat.mul_le_mul_right _ hroom
   rw [Nat.zero_add] at r2 r3
   rw [Nat.add_mul] at q2
   have hspl : (ZaR all (n * sz) news).length = c' * sz := by
    unfold ZaR
    simp only [List.length_append, List.length_take, List.length_drop]
    omega
   have hset : (σ.set b (.own e (ZaR all (n * sz) news))).blk b = some (.own e (ZaR all (n * sz) news)) := by
    show (if b = b then _ else σ.blk b) = _
    rw [if_pos rfl]
   have hbut : But (fun c => hbk (hdr b n c') = some c) σ (σ.set b (.own e (ZaR all (n * sz) news))) := ⟨fun c k hc hk => by
    show (if c = b then _ else σ.blk c) = _
    rw [if_neg (fun e => hc (by rw [e]; exact ZcD hc0))]
    exact hk, fun c hc => hc⟩
   have hbb : hbk (hdr b (n + m) c') = some b := ZcD hc0
   refine ⟨hdr b (n + m) c', σ.set b (.own e (ZaR all (n * sz) news)), w', ?_, ?_, r2, Zbe _, r3⟩
   ·exact r1
   refine h _ _ ⟨by rw [List.length_append, hown.1, hnl, Nat.add_mul], fun a ha => by
    rcases List.mem_append.1 ha with ha | ha
    ·exact hown.one a ha
    ·exact hone a ha, .inr ⟨b, c', _, hc0, rfl, hset, g2, hspl, ?_, hroom, g6⟩⟩ (fun u k ds hu hk => ?_) hbut fun c hc => .inl (by rw [<- Zc8 hc]; exact ZcD hc0)
   ·unfold ZaR
    rw [g4, Nat.add_mul, <- hnl, <- hown.1, <- List.length_append, List.take_left]
   ·by_cases hub : hbk u = some b
    ·have hkn := hk b (ZcD hc0) hub
     obtain ⟨c2, all2, rfl, k1, k2, k3, k4, k5, k6⟩ := hu.at_ hub
     rw [g1] at k1
     injection k1 with k1
     injection k1 with _ k1
     subst k1
     have hkk : k * sz <= n * sz := Nat.mul_le_mul_right _ hkn
     refine ⟨hu.1, hu.2.1, .inr ⟨b, c2, _, (by
      cases c2 with
      | zero => cases hub
      | succ c2 => omega), rfl, hset, g2, by rw [hspl]; omega, ?_, k5, k6⟩⟩
     rw [<- k4]
     unfold ZaR
     rw [List.append_assoc, List.take_append_of_le_length (by rw [List.length_take]; omega), List.take_take, Nat.min_eq_left hkk]
    ·exact hu.but hbut fun c hc hc2 => hub (by rw [hc, Zc8 hc2])
 ·obtain ⟨cap, w', rest, r0, r1, r2, r3, r4, f1, f2, f3, f4⟩ := ZiU (ty := ty) hH hV1 hV2 ht hs hz hby hzs hsz (hown.src hsz) hv (fun e => (hA e).2) src (by omega) hnc h63 hbb
  have hX : Ext σ (σ.put w.heap.size (.own e (cells ++ news ++ rest))) := Ext.put _ f2
  refine ⟨hdr w.heap.size (n + m) cap, _, w', ?_, ?_, f3, Zbe _, f4⟩
  ·exact r1
  refine h _ _ ⟨by rw [List.length_append, hown.1, hnl, Nat.add_mul], fun a ha => by
   rcases List.mem_append.1 ha with ha | ha
   ·exact hown.one a ha
   ·exact hone a ha, .inr ⟨w.heap.size, cap, _, by omega, rfl, Zbo _ _ _, .inr rfl, r4, ?_, r2, r3⟩⟩ (fun u k ds hu _ => hu.ext hX) hX.but fun c hc => ?_
  ·rw [Nat.add_mul, <- hnl, <- hown.1, <- List.length_append, List.take_left]
  ·have hc := Zc8 hc
   subst hc
   exact .inr ⟨f2, f1⟩
end
def toN (M : Env -> St -> Prop) : Zdn := fun ex env σ => ex = .normal /\ M env σ
section
variable {P : Program} {O : Nat -> Prop} {ops : Array Oper} {env : Env} {σ τ : St} {K : Env -> St -> Prop} {d : Option Nat} {ty ty' t : TypeId} {pos : String} {af : Array Edge} {x y : Operand} {c c1 c2 : Code} {Q : Zdn} {lf cf ow : Nat -> Bool} {i j : Nat} {l : List Nat}
theorem Zsk (M : Env -> St -> Prop) (h : ZaA P O c (toN M) env σ) (hk : ∀ env σ, M env σ -> Q .normal env σ) : ZaA P O c Q env σ :=
 Zb9 (c := c) (by rintro ex e σ ⟨rfl, h⟩; exact hk _ _ h) h
theorem Zce (M : Env -> St -> Prop) (h : ZaA P O c1 (toN M) env σ) (hk : ∀ env σ, M env σ -> ZaA P O c2 Q env σ) : ZaA P O (.seq c1 c2) Q env σ := Zsk (Q := Zfk (ZaA P O c2 Q) Q) M h hk
theorem Zs9 {o : Oper} (hi : ops[i]? = some o) (hw : Region.wanted o (ZaE ops env) = true) (how : ow i = false) (h : Zc6 P o (o.op.operands.toList.map (ev env)) σ fun r σ' => ((cf i && ZbC o) = true -> Ext σ σ') /\ Zbc P ops (fun _ => True) lf cf ow l (env.put o.dst r) σ' K) : Zbc P ops (fun _ => True) lf cf ow (i :: l) env σ K := by
 unfold Zbc
 rw [hi]
 dsimp only
 unfold ZdL
 rw [how, if_neg Bool.false_ne_true]
 unfold ZeM
 rw [if_pos hw]
 refine ⟨fun _ _ _ _ => trivial, ZdM (fun r σ' h => ⟨fun hc => ?_, h.2⟩) h⟩
 have hX := h.1 hc
 exact fun b t cs _ hb => hX.keep _ _ hb
theorem HIX {α : Type} : (∀ (l : List α) (i : Nat), l.toArray[i]? = l[i]?) /\ (∀ (a : α) l, (a :: l)[0]? = some a) /\ (∀ (a : α) l (i : Nat), (a :: l)[i + 1]? = l[i]?) := ⟨fun _ _ => List.getElem?_toArray .., fun _ _ => rfl, fun _ _ _ => rfl⟩
def mvx : Op -> Option Operand
 | .move x => some x
 | .assign x => some x
 | _ => none
theorem Zcb {op : Op} {v : AV} (hm : mvx op = some x) (hx : ev env x = v) (h : K (env.put d v) σ) : aOp P ops ⟨d, op, ty, pos, af, none⟩ env σ K := by
 unfold mvx at hm
 split at hm
 ·injection hm with hm
  subst hm
  exact Zq0 hx h
 ·injection hm with hm
  subst hm
  exact ZnD hx h
 ·cases hm
theorem Zri {op : Op} {g : Option (Nat × Bool)} (hi : ops[i]? = some ⟨d, op, ty, pos, af, g⟩) (hw : Region.wanted ⟨d, op, ty, pos, af, g⟩ (ZaE ops env) = true) (how : ow i = false) (h : aOp P ops ⟨d, op, ty, pos, af, none⟩ env σ fun env' σ' => ((cf i && ZbC ⟨d, op, ty, pos, af, none⟩) = true -> Ext σ σ') /\ Zbc P ops (fun _ => True) lf cf ow l env' σ' K) : Zbc P ops (fun _ => True) lf cf ow (i :: l) env σ K := by
 rw [ZaT rfl] at h
 exact Zs9 hi hw how h
theorem Zsl {op : Op} {want : Bool} (hi : ops[i]? = some ⟨d, op, ty, pos, af, some (j, want)⟩) (hg : ZaE ops env j = some (!want)) (how : ow i = false) (h : Zbc P ops (fun _ => True) lf cf ow l (env.put d (.raw undef)) σ K) : Zbc P ops (fun _ => True) lf cf ow (i :: l) env σ K := by
 have hw : ¬ Region.wanted ⟨d, op, ty, pos, af, some (j, want)⟩ (ZaE ops env) = true := by simp [Region.wanted, hg]
 unfold Zbc
 rw [hi]
 dsimp only
 unfold ZdL
 rw [how, if_neg Bool.false_ne_true]
 unfold ZeM
 rw [if_neg hw]
 exact h
theorem Zaz {b : Bool} {Y : Prop} (h : Y) : (b = true -> Ext σ σ) /\ Y := ⟨fun _ => .refl _, h⟩
theorem ZbI (h : K env σ) : Zbc P ops (fun _ => True) lf cf ow [] env σ K := h
theorem Zgc (a b : Nat) (hx : ev env x = vI a) (hy : ev env y = vI b) (hab : a + b < 4611686018427387904) (h : K (env.put d (vI ((a + b : Nat) : Int))) σ) : aOp P ops ⟨d, .binOp .add t x y ty', ty, pos, af, none⟩ env σ K :=
 Zq2 hx hy (by rw [IntWalk.i64_in _ (by omega)]; omega) h
theorem ZiX (a b : Nat) (hx : ev env x = vI a) (hy : ev env y = vI b) (h : K (env.put d (vT (decide (a < b)))) σ) : aOp P ops ⟨d, .binOp .lss t x y ty', ty, pos, af, none⟩ env σ K := by
 refine Zgh hx hy ?_
 have e : decide ((a : Int) < (b : Int)) = decide (a < b) := by congr 1; exact propext (by omega)
 rw [e]
 exact h
theorem ZcR {b : Bool} (hx : ev env x = vT b) (h : K (env.put d (vT (!b))) σ) : aOp P ops ⟨d, .unOp .not t x, ty, pos, af, none⟩ env σ K := Zsc hx h
theorem Zo6 {as_ : Operand} {ts : Array TypeId} {t e : TypeId} {A : Option Addr} {n c : Nat} {v : AV} (hx : ev env as_ = v) (hv : v.val = .slice A n c) (hts : ts[0]? = some t) (ht : ZaW P t = some e) (h : K (env.put d (vI n)) σ) : aOp P ops ⟨d, .call ⟨.builtin .len, #[as_], ts⟩, ty, pos, af, none⟩ env σ K := Zkk hx hv hts ht h
theorem ZeV {as_ : Operand} {ts : Array TypeId} {t e e' sz : TypeId} {n : Nat} {v : AV} {cells : List AV} (hx : ev env as_ = v) (hv : Hd σ e' sz v n cells) (hts : ts[0]? = some t) (ht : ZaW P t = some e) (h : K (env.put d (vI n)) σ) : aOp P ops ⟨d, .call ⟨.builtin .len, #[as_], ts⟩, ty, pos, af, none⟩ env σ K := by
 obtain ⟨A, c, h1, _⟩ := hv.val
 exact Zkk hx h1 hts ht h
theorem Zrj {e sz n k b : Nat} {v : AV} {cells : List AV} (hx : ev env x = ptr b (k * sz)) (hv : Hd σ e sz v n cells) (hb : hbk v = some b) (hk : k < n) (ha : ZdB P t = some true) (hn : ZaU P t = some sz) (h : K (env.put d (.agg ((cells.drop (k * sz)).take sz))) σ) : aOp P ops ⟨d, .load t x, ty, pos, af, none⟩ env σ K :=
 ZbV hx (hv.load hb hk ha hn) h
theorem Zo7 {e n k b : Nat} {v r : AV} {cells : List AV} (hx : ev env x = ptr b (k * 1)) (hv : Hd σ e 1 v n cells) (hb : hbk v = some b) (hk : k < n) (hr : cells[k]? = some r) (ha : ZdB P t = some false) (hn : ZaU P t = some 1) (h : K (env.put d r) σ) : aOp P ops ⟨d, .load t x, ty, pos, af, none⟩ env σ K :=
 ZbV hx (hv.load1 hb hk hr ha hn) h
theorem But.sub {S T : Nat -> Prop} (h : But S σ τ) (hS : ∀ b, S b -> T b) : But T σ τ := ⟨fun c k hc hk => h.keep _ _ (fun e => hc (hS _ e)) hk, h.used⟩
end
section
variable {P : Program} {G : Nat -> Prop} {σ τ : St}
def Zc0 (G : Nat -> Prop) (σ : St) (a a' : AV) : Prop := a'.val = a.val /\ ∀ (w : World) (Z : Nat -> Prop), ZaG w σ Z -> Zar w (σ.free Z) a -> Zar w ((Zdq G σ).free Z) a'
def ZcS (G : Nat -> Prop) (σ : St) : List AV -> List AV -> Prop
 | [], [] => True
 | a :: l, b :: m => Zc0 G σ a b /\ ZcS G σ l m
 | [], _ :: _ => False
 | _ :: _, [] => False
theorem Zc0.refl (a : AV) : Zc0 G σ a a := ⟨rfl, fun w Z _ hv => hv.sub fun b o => ZfR⟩
theorem ZcS.refl : ∀ l : List AV, ZcS G σ l l
 | [] => trivial
 | a :: l => ⟨.refl a, ZcS.refl l⟩
theorem ZcS.len : ∀ {l m : List AV}, ZcS G σ l m -> m.length = l.length
 | [], [], _ => rfl
 | _ :: _, _ :: _, h => by rw [List.length_cons, List.length_cons, ZcS.len h.2]
theorem ZcS.vals : ∀ {l m : List AV}, ZcS G σ l m -> m.map AV.val = l.map AV.val
 | [], [], _ => rfl
 | _ :: _, _ :: _, h => by rw [List.map_cons, List.map_cons, h.1.1, ZcS.vals h.2]
theorem ZcS.get : ∀ {l m : List AV} {j : Nat} {q : AV}, ZcS G σ l m -> m[j]? = some q -> ∃ p, l[j]? = some p /\ Zc0 G σ p q
 | a :: l, b :: m, 0, q, h, hq => by
  injection hq with hq
  subst hq
  exact ⟨a, rfl, h.1⟩
 | a :: l, b :: m, j + 1, q, h, hq => ZcS.get (l := l) (m := m) (j := j) h.2 hq
 | [], [], _, q, _, hq => by simp at hq
 | [], _ :: _, _, _, h, _ => h.elim
 | _ :: _, [], _, _, h, _ => h.elim
theorem ZcS.valid {w : World} {Z : Nat -> Prop} (hH : ZaG w σ Z) : ∀ {l m : List AV}, ZcS G σ l m -> (∀ a ∈ l, Zar w (σ.free Z) a) -> ∀ a ∈ m, Zar w ((Zdq G σ).free Z) a
 | [], [], _, _ => by simp
 | a :: l, b :: m, h, hv => fun x hx => by
  rcases List.mem_cons.1 hx with rfl | hx
  ·exact h.1.2 w Z hH (hv a List.mem_cons_self)
  ·exact ZcS.valid hH h.2 (fun y hy => hv y (List.mem_cons_of_mem _ hy)) x hx
theorem Zma {A : Option Addr} {n c : Nat} {l m : List AV} (h : ZcS G σ l m) : Zc0 G σ (.lst A n c l) (.lst A n c m) := by
 refine ⟨rfl, fun w Z hH hv => ?_⟩
 unfold Zar at hv ⊢
 obtain ⟨h1, h2, h3⟩ := hv
 refine ⟨h1, fun e => ⟨(h2 e).1, (h2 e).2.1, ?_⟩, fun ad had => ZaS.mk fun j q hq => ?_⟩
 ·have := h.len
  rw [(h2 e).2.2] at this
  exact List.eq_nil_of_length_eq_zero this
 ·obtain ⟨p, hp, hpq⟩ := h.get hq
  obtain ⟨g1, g2, g3⟩ := (h3 ad had).get hp
  exact ⟨by rw [g1, hpq.1], ZfR g2, hpq.2 w Z hH g3⟩
theorem Hd.lends {e sz n : Nat} {v : AV} {cells m : List AV} (h : Hd σ e sz v n cells) (hG : ∀ b, hbk v = some b -> G b) (hl : ZcS G σ cells m) : ∃ A c, Zc0 G σ v (.lst A n c m) /\ n <= c /\ c <= maxLen /\ (A = none -> n = 0 /\ c = 0) := by
 have hml := hl.len
 have hcl := h.len
 rcases h.2.2 with ⟨rfl | ⟨ad, rfl⟩, rfl⟩ | ⟨b, c, all, hc, rfl, h1, h2, h3, h4, h5, h6⟩
 ·have : m = [] := List.eq_nil_of_length_eq_zero (by rw [hml, hcl, Nat.zero_mul])
  subst this
  exact ⟨none, 0, ⟨rfl, fun w Z _ _ => ZhH⟩, Nat.le_refl _, Nat.zero_le _, fun _ => ⟨rfl, rfl⟩⟩
 ·have : m = [] := List.eq_nil_of_length_eq_zero (by rw [hml, hcl, Nat.zero_mul])
  subst this
  refine ⟨some ad, 0, ⟨rfl, fun w Z _ _ => ?_⟩, Nat.le_refl _, Nat.zero_le _, fun e => by cases e⟩
  unfold Zar
  exact ⟨Nat.le_refl _, (fun e => by cases e), fun ad' _ => ZaS.mk fun j q hq => by simp at hq⟩
 ·refine ⟨some ⟨b, 0, none⟩, c, ⟨rfl, fun w Z hH _ => ?_⟩, h5, h6, fun e => by cases e⟩
  unfold Zar
  refine ⟨h5, (fun e => by cases e), fun ad' had' => ?_⟩
  injection had' with had'
  subst had'
  refine ZaS.mk fun j q hq => ?_
  rw [Nat.zero_add]
  obtain ⟨p, hp, hpq⟩ := hl.get hq
  have hq1 : all[0 + j]? = some p := by
   rw [<- h4, List.getElem?_take] at hp
   split at hp
   ·rw [Nat.zero_add]; exact hp
   ·cases hp
  obtain ⟨o1, o2, o3⟩ := hH.own _ _ _ h1
  have hcell := Zfi hH h1 0 j hq1
  refine ⟨by rw [hcell, hpq.1], ⟨fun hz => ?_, o1, ?_⟩, hpq.2 w Z hH (o3 p (List.mem_of_getElem? hq1))⟩
  ·have := (hH.z _ hz).2
   rw [h1] at this; cases this
  ·rw [ZcL (hG b (ZcD hc))]; trivial
theorem Zmb {f : FuncId} {args args' : List AV} {rv : AV} (hown : ∀ b, G b -> ∃ e cs, σ.blk b = some (.own e cs) /\ σ.used b) (hl : ZcS G σ args args') (h1 : Zan P f args' (Zdq G σ) fun r τ => r = rv /\ Ext (Zdq G σ) τ) (hrv : ∀ w B, Zar w B rv)
 (K : AV -> St -> Prop) (hK : ∀ τ, Ext σ τ -> K rv τ) : Zan P f args σ K := by
 intro w Z hH hV
 have hc := h1 w Z (Zkm hH) (hl.valid hH hV)
 rw [hl.vals] at hc
 refine hc.mono ?_
 rintro y w' ⟨r, τ, rfl, ⟨rfl, hX⟩, hH', _, hG⟩
 have hbut : ∀ b k, ¬ G b -> σ.blk b = some k -> τ.blk b = some k := fun b k hb hk => hX.keep b k (by rw [Zbb hb]; exact hk)
 obtain ⟨g1, hg1⟩ := σ.fin
 obtain ⟨g2, hg2⟩ := τ.fin
 obtain ⟨p1, p2, p3⟩ := Zli hown hH (g := g1 + g2) hH' hG hbut hX.used (hg1 _ (by omega)).1 (hg1 _ (by omega)).2 (fun t cs hq => by rw [(hg2 _ (by omega)).2] at hq; cases hq)
 exact ⟨r, _, rfl, hK _ p3, p1, hrv _ _, p2⟩
end
def bys (d : List UInt8) : List AV := d.map fun u => .raw (.int .u8 (u.toNat : Int))
theorem Zb1 (d : List UInt8) : (bys d).length = d.length := by simp [bys]
section
variable {te : Nat} {σ τ : St} {ds : List (List UInt8)} {hs : List AV}
end
section
variable {P : Program} {O : Nat -> Prop} {ops : Array Oper} {env : Env} {σ τ : St} {K : Env -> St -> Prop} {d : Option Nat} {ty ty' t : TypeId} {pos : String} {af : Array Edge} {x y : Operand} {c : Code} {Q : Zdn} {lf cf ow : Nat -> Bool} {i : Nat} {l : List Nat}
theorem ZsZ {n : Nat} {parts : Array (Nat × Operand)} {e : TypeId} {sz : Nat} {v : Value} {vs cells : List AV} (hi : ops[i]? = some ⟨d, .buildSlice t n parts, ty, pos, af, none⟩) (how : ow i = true) (hv : parts.toList.map (fun p => ev env p.2) = vs) (ht : ZaW P t = some e) (hs : ZaU P e = some sz) (hz : Zba P e = some v) (hzs : v.cells.size = sz) (hn : n * sz <= 16777216)
 (hf : Zcz (fun i => some (i * sz, sz)) ((List.range (n * sz)).map fun i => .ofV (v.cells[i % sz]!)) ((parts.toList.map (·.1)).zip vs) = some cells)
 (h : ∀ b, ¬ σ.used b -> σ.blk b = none -> Zbc P ops (fun _ => True) lf cf ow l (env.put d (hdr b n n)) (σ.put b (.own e cells)) K) : Zbc P ops (fun _ => True) lf cf ow (i :: l) env σ K := by
 unfold Zbc
 rw [hi]
 dsimp only
 unfold ZdL
 rw [how, if_pos rfl, if_pos (by simp [Region.wanted])]
 refine ⟨n, e, cells, ⟨t, parts, sz, v, rfl, ht, hs, hz, hzs, hn, ?_⟩, h⟩
 have : (Op.buildSlice t n parts).operands.toList.map (ev env) = vs := by rw [<- hv]; simp [Op.operands]
 rw [this]
 exact hf
end
theorem ZhI {σ : St} {b n : Nat} {e sz : Nat} {cells : List AV} (hn0 : 0 < n) (hn : n <= 100000) (hl : cells.length = n * sz) (h1 : ∀ a ∈ cells, a.one = true) : Hd (σ.put b (.own e cells)) e sz (hdr b n n) n cells :=
 ⟨hl, h1, .inr ⟨b, n, cells, hn0, rfl, Zbo _ _ _, .inr rfl, hl, List.take_of_length_le (by rw [hl]; exact Nat.le_refl _), Nat.le_refl _, by unfold maxLen; omega⟩⟩
section
variable {T : Nat -> Type} {C : ZbD T} {P : Program} {σ τ : St}
abbrev ZdO : Nat -> AV := fun _ => .raw undef
theorem Zo8 (ρ : Nat -> AV) : Hp C ρ ([] : List (HI T)) σ := ⟨fun i x hx => by simp at hx, fun i j x y b hx => by simp at hx⟩
theorem Zmc {f : FuncId} {args : List (XV T)} {r : XV T} {outs : List (HI T)} {vs : List AV} (h : Tr C P (fun _ => True) f args [] r outs) (hs : SVs C 0 ZdO args vs) (K : AV -> St -> Prop)
 (hK : ∀ a τ ρ', SV C outs.length ρ' r a -> Hp C ρ' outs τ -> Ext σ τ -> (∀ i x b, outs[i]? = some x -> x.alive = true -> (ρ' i).owns b -> σ.blk b = none /\ ¬ σ.used b) -> K a τ) : Zan P f vs σ K := by
 refine (h _ σ vs hs (Zo8 _)).mono fun a τ ⟨ρ', q1, q2, q3⟩ => ?_
 refine hK a τ ρ' q1 q2 ⟨fun b k hb => q3.but.keep _ _ (fun hl => ?_) hb, q3.but.used⟩ fun i x b hx ha hb => ?_
 ·obtain ⟨i, x, _, hx, _⟩ := hl
  simp at hx
 ·rcases q3.born b ⟨i, x, hx, ha, hb⟩ with ⟨j, y, hy, _⟩ | h
  ·simp at hy
  ·exact h
theorem Zmd {f : FuncId} {args : List (XV T)} {r : XV T} {vs : List AV} {rv : AV} (h : Tr C P (fun _ => True) f args [] r []) (hs : SVs C 0 ZdO args vs) (hr : ∀ N ρ a, SV C N ρ r a -> a = rv) (K : AV -> St -> Prop) (hK : ∀ τ, Ext σ τ -> K rv τ) : Zan P f vs σ K :=
 Zmc h hs K fun a τ ρ' q1 _ q3 _ => by rw [hr _ _ _ q1]; exact hK τ q3
theorem Zme {N : Nat} {ρ : Nat -> AV} {h : List (HI T)} {i n E : Nat} {a : AV} {e : TypeId} {kp : Bool} {xs : List (T E)} (hs : SV C N ρ (.as E i 0 n none) a) (H : Hp C ρ h σ) (hi : h[i]? = some (.arr e E kp xs)) (hn : n <= xs.length) : ∃ cells, Hd σ e (C.sz E) a n cells /\ (∀ b, hbk a = some b -> (ρ i).owns b) /\ ∀ N' ρ', SVs C N' ρ' ((xs.take n).flatMap (C.enc E)) cells := by
 rcases ZpE.1 hs with ⟨ad, c, rfl, hA⟩ | ⟨rfl, hn0, _⟩
 ·obtain ⟨b, q1, q2⟩ := hA.at_
  rcases Nat.eq_zero_or_pos c with hc | hc
  ·subst hc
   have hn0 : n = 0 := by have := hA.le; omega
   subst hn0
   exact ⟨[], ⟨by simp, by simp, .inl ⟨.inr ⟨ad, rfl⟩, rfl⟩⟩, (fun b hb => by cases hb), fun _ _ => .none⟩
  ·have had := q2 hc
   rw [Nat.zero_mul] at had
   subst had
   obtain ⟨pre, rest, h2, h3, h4, h5, h6, h7⟩ := H.arrAt hi q1
   have hpl := (h4 0 ρ).len
   rw [ZjG] at hpl
   have hmul : n * C.sz E <= xs.length * C.sz E := Nat.mul_le_mul_right _ hn
   have hmul2 : n * C.sz E <= c * C.sz E := Nat.mul_le_mul_right _ hA.le
   rw [Nat.zero_add] at h5 h6 q1
   have ht : (pre ++ rest).take (n * C.sz E) = pre.take (n * C.sz E) := List.take_append_of_le_length (by omega)
   refine ⟨pre.take (n * C.sz E), ⟨by rw [List.length_take]; omega, fun a ha => ?_, .inr ⟨b, c, _, hc, rfl, h2, h3, h5, ht, hA.le, hA.max⟩⟩, fun b' hb => ?_, fun N' ρ' => ?_⟩
   ·refine (h4 0 ρ).ones (fun x hx => ?_) a (List.mem_of_mem_take ha)
    obtain ⟨y, _, hy⟩ := List.mem_flatMap.1 hx
    exact Zlh (C.shut _ _ _ hy)
   ·rw [q1, <- Zc8 hb]
    exact (ZpD _ _ _).2 rfl
   ·have := (h4 N' ρ').take (n * C.sz E)
    rw [ZnJ] at this
    exact this
 ·subst hn0
  exact ⟨[], ⟨by simp, by simp, .inl ⟨.inl rfl, rfl⟩⟩, (fun b hb => by cases hb), fun _ _ => .none⟩
theorem Zmf {f : FuncId} {args args' : List AV} {K : AV -> St -> Prop} (hv : args'.map AV.val = args.map AV.val) (hok : ∀ (w : World) (Z : Nat -> Prop), ZaG w σ Z -> (∀ a ∈ args, Zar w (σ.free Z) a) -> ∀ a ∈ args', Zar w (σ.free Z) a) (h : Zan P f args' σ K) : Zan P f args σ K := by
 intro w Z hH hV
 have := h w Z hH (hok w Z hH hV)
 rw [hv] at this
 exact this
theorem ZnP {f : FuncId} {args : List (XV T)} {vs : List AV} {E n : Nat} {e : TypeId} {kp : Bool} {xs : List (T E)} (h : Tr C P (fun _ => True) f args [] (.as E 0 0 n none) [.arr e E kp xs]) (hs : SVs C 0 ZdO args vs) (hn : n <= xs.length) (K : AV -> St -> Prop)
 (hK : ∀ a τ cells, Hd τ e (C.sz E) a n cells -> (∀ N' ρ', SVs C N' ρ' ((xs.take n).flatMap (C.enc E)) cells) -> Ext σ τ -> (∀ b, hbk a = some b -> σ.blk b = none /\ ¬ σ.used b) -> K a τ) : Zan P f vs σ K :=
 Zmc h hs K fun a τ ρ' q1 q2 q3 q4 => by
  obtain ⟨cells, g1, g2, g3⟩ := Zme q1 q2 rfl hn
  exact hK a τ cells g1 g3 q3 fun b hb => q4 0 _ b rfl rfl (g2 b hb)
end
section
variable {P : Program} {O : Nat -> Prop} {ops : Array Oper} {env : Env} {σ τ : St} {K : Env -> St -> Prop} {d : Option Nat} {ty ty' t : TypeId} {pos : String} {af : Array Edge} {x y : Operand} {e sz n : Nat} {v r : AV} {cells news : List AV}
theorem Zlj (hx : ev env x = v) (hy : ev env y = r) (ht : ZaW P t = some e) (hs : ZaU P e = some sz) (hown : Hd σ e sz v n cells) (src : Src σ sz r 0 news) (h : K (env.put d v) σ) : aOp P ops ⟨d, .call ⟨.builtin .append, #[x, y], #[t, t]⟩, ty, pos, af, none⟩ env σ K := by
 rw [ZaT rfl]
 have hvs : ((.call ⟨.builtin .append, #[x, y], #[t, t]⟩ : Op).operands.toList.map (ev env)) = [v, r] := by simp [Op.operands, Call.operands, hx, hy]
 show Zc6 P _ (Op.operands _ |>.toList.map (ev env)) σ _
 rw [hvs]
 refine Zkl fun w Z hH hV1 hV2 => ⟨v, σ, w, ?_, h, hH, hV1, .refl _ _⟩
 obtain ⟨A, c, hv, hA, hnc⟩ := hown.val
 obtain ⟨A', c', hy, hA'⟩ := src.at_
 obtain ⟨ii, hii, hsi⟩ := Zl7 hs
 rw [hv, hy]
 have hf := Zei (P := P) (w := w) (size := ii.size) (n := 0) (len := 0) (cap := c') rfl A'
 have hty := ZbO ht
 cases A with
 | none =>
  obtain ⟨rfl, rfl⟩ := hA rfl
  simp [Builtin.append_, run_underlying hty, sizeOf, typeInfo, hii, Builtin.lenOf, hf]
 | some ad =>
  simp [Builtin.append_, run_underlying hty, sizeOf, typeInfo, hii, Builtin.lenOf, hf, hnc, storeCells]
theorem Zcv {A : Option Addr} {m c : Nat} {rest : List AV} (hl : cells.length = m * sz) (h1 : ∀ a ∈ cells, a.one = true) (hA : A = none -> m = 0) : Src σ sz (.lst A m c (cells ++ rest)) m cells := by
 refine ⟨hl, h1, ⟨A, c, rfl, hA⟩, fun w Z hH hV => ?_⟩
 unfold Zar at hV
 cases A with
 | none =>
  have : cells = [] := List.eq_nil_of_length_eq_zero (by rw [hl, hA rfl, Nat.zero_mul])
  subst this
  exact ⟨by simp, fun ad c hy => by rw [AV.val_lst] at hy; injection hy with q; cases q⟩
 | some ad =>
  have hv := hV.2.2 ad rfl
  refine ⟨fun a ha => ?_, fun ad' c' hy j u hu => ?_⟩
  ·obtain ⟨i, hi, rfl⟩ := List.getElem_of_mem ha
   exact (hv.get (by rw [List.getElem?_append_left hi]; exact List.getElem?_eq_getElem hi)).2.2
  ·rw [AV.val_lst] at hy
   injection hy with q1 _ _
   injection q1 with q1
   subst q1
   rw [List.getElem?_map] at hu
   cases hd : cells[j]? with
   | none => rw [hd] at hu; cases hu
   | some d =>
    rw [hd] at hu
    injection hu with hu
    subst hu
    have := (hv.get (d := d) (show (cells ++ rest)[j]? = some d by rw [List.getElem?_append_left (Zcd hd)]; exact hd)).1
    rwa [Nat.zero_add] at this
end
section
variable {T : Nat -> Type} {C : ZbD T} {P : Program}
end
section
variable {P : Program} {O : Nat -> Prop} {ops : Array Oper} {env : Env} {σ τ : St} {K : Env -> St -> Prop} {d : Option Nat} {ty ty' t : TypeId} {pos : String} {af : Array Edge} {x y : Operand} {lf cf ow : Nat -> Bool} {i j : Nat} {l : List Nat} {Pres : Nat -> Prop}
theorem Zs0 {ops : Array Oper} {env : Env} {j d : Nat} {b : Bool} (hd : (ops[j]?).bind (·.dst) = some d) (hv : env d = vT b) : ZaE ops env j = some b := by
 unfold ZaE
 rw [hd]
 dsimp only
 rw [hv]
 rfl
theorem Zo9 {op : Op} {g : Option (Nat × Bool)} (hi : ops[i]? = some ⟨d, op, ty, pos, af, g⟩) (hw : Region.wanted ⟨d, op, ty, pos, af, g⟩ (ZaE ops env) = true) (how : ow i = false) (hl : (lf i && ZbA ⟨d, op, ty, pos, af, g⟩ == .load) = false)
 (h : aOp P ops ⟨d, op, ty, pos, af, none⟩ env σ fun env' σ' => ((cf i && ZbC ⟨d, op, ty, pos, af, none⟩) = true -> Zgg Pres σ σ') /\ Zbc P ops Pres lf cf ow l env' σ' K) : Zbc P ops Pres lf cf ow (i :: l) env σ K := by
 rw [ZaT rfl] at h
 unfold Zbc
 rw [hi]
 dsimp only
 unfold ZdL
 rw [how, if_neg Bool.false_ne_true]
 unfold ZeM
 rw [if_pos hw]
 exact ⟨fun hq => absurd (hl.symm.trans hq) Bool.false_ne_true, h⟩
theorem ZeP {b o n : Nat} {T : TypeId} {cs : List AV} {g : Bool} {r : AV} {gd : Option (Nat × Bool)} (hi : ops[i]? = some ⟨d, .load t x, ty, pos, af, gd⟩) (hw : Region.wanted ⟨d, .load t x, ty, pos, af, gd⟩ (ZaE ops env) = true) (how : ow i = false) (hx : ev env x = ptr b o) (hp : Pres b) (hb : σ.blk b = some (.own T cs)) (ha : ZdB P t = some g) (hn : ZaU P t = some n) (hr : Zbi (some g) (some n) cs o = some r)
 (h : Zbc P ops Pres lf cf ow l (env.put d r) σ K) : Zbc P ops Pres lf cf ow (i :: l) env σ K := by
 have h1 : aOp P ops ⟨d, .load t x, ty, pos, af, none⟩ env σ fun env' σ' => ((cf i && ZbC ⟨d, .load t x, ty, pos, af, none⟩) = true -> Zgg Pres σ σ') /\ Zbc P ops Pres lf cf ow l env' σ' K := Zah hx hb ha hn hr ⟨fun _ _ _ _ _ hb => hb, h⟩
 rw [ZaT rfl] at h1
 unfold Zbc
 rw [hi]
 dsimp only
 unfold ZdL
 rw [how, if_neg Bool.false_ne_true]
 unfold ZeM
 rw [if_pos hw]
 refine ⟨fun _ b' o' hq => ?_, h1⟩
 have hq : [ev env x] = [ptr b' o'] := hq
 rw [hx] at hq
 injection hq with hq
 have : b = b' := by unfold ptr at hq; injection hq with hq; injection hq with hq; injection hq with hq; injection hq with hq
 subst this
 exact hp
theorem Zfr (h : K env σ) : Zbc P ops Pres lf cf ow [] env σ K := h
theorem Zb5 {b : Bool} {Y : Prop} (h : Y) : (b = true -> Zgg Pres σ σ) /\ Y := ⟨fun _ _ _ _ _ hb => hb, h⟩
theorem But.keeps {S : Nat -> Prop} (h : But S σ τ) (hS : ∀ b, Pres b -> ¬ S b) : Zgg Pres σ τ := fun b t cs hp hb => h.keep _ _ (hS b hp) hb
theorem Ext.keeps (h : Ext σ τ) : Zgg Pres σ τ := fun b t cs _ hb => h.keep _ _ hb
end
section
variable {P : Program} {ops : Array Oper} {env : Env} {σ τ : St} {K : Env -> St -> Prop} {d : Option Nat} {ty ty' t : TypeId} {pos : String} {af : Array Edge} {x y : Operand} {e sz n m : Nat} {v r : AV} {cells news : List AV}
theorem ZaZ {bytes : Nat} {z : Value} (hx : ev env x = v) (hy : ev env y = r) (ht : ZaW P t = some e) (hs : ZaU P e = some sz) (hz : Zba P e = some z) (hby : Zdv P e = some bytes) (hzs : z.cells.size = sz) (hsz : 0 < sz)
 (hown : Hd σ e sz v n cells) (src : Src σ sz r m news) (h63 : n + m <= maxLen) (hbb : (n + m) * bytes <= 140737488355328)
 (h : ∀ v' τ, Hd τ e sz v' (n + m) (cells ++ news) -> But (fun c => hbk v = some c) σ τ -> (∀ c, hbk v' = some c -> hbk v = some c \/ (σ.blk c = none /\ ¬ σ.used c)) -> K (env.put d v') τ) :
 aOp P ops ⟨d, .call ⟨.builtin .append, #[x, y], #[t, t]⟩, ty, pos, af, none⟩ env σ K := by
 rcases Nat.eq_zero_or_pos m with h0 | h0
 ·subst h0
  have hn : news = [] := List.eq_nil_of_length_eq_zero (by rw [src.len, Nat.zero_mul])
  subst hn
  exact Zlj hx hy ht hs hown src (h v σ (by rw [List.append_nil, Nat.add_zero]; exact hown) (.refl _ _) fun c hc => .inl hc)
 ·exact Zl9 hx hy ht hs hz hby hzs hsz hown src h0 h63 hbb fun v' τ h1 _ h2 h3 => h v' τ h1 h2 h3
end
abbrev sV (s : List UInt8) : Value := .string ⟨s.toArray⟩
abbrev pV (n : Nat) : Value := .pointer (some ⟨n, 0, none⟩)
abbrev Dir := List (List UInt8 × Nat)
def Zgr (es : Dir) : List (Value × Value) := es.map fun p => (sV p.1, pV p.2)
theorem Zgs : ∀ es : Dir, ZlN (Zgr es) = 0
 | [] => rfl
 | _ :: _ => rfl
def ZiY : Dir -> List UInt8 -> Option Nat
 | [], _ => none
 | p :: es, k => if k = p.1 then some p.2 else ZiY es k
def Zpa : Dir -> List UInt8 -> Nat -> Dir
 | [], k, n => [(k, n)]
 | p :: es, k, n => if k = p.1 then (k, n) :: es else p :: Zpa es k n
def Zr1 : Dir -> List UInt8 -> Dir
 | [], _ => []
 | p :: es, k => if k = p.1 then es else p :: Zr1 es k
def ZnQ (k : List UInt8) : Dir -> Nat -> Option (Nat × Value)
 | [], _ => none
 | p :: es, i => if k = p.1 then some (i, pV p.2) else ZnQ k es (i + 1)
section
variable {P : Program}
theorem ZgV {k : List UInt8} : ∀ {es : Dir} {l : List MapEntry} (i : Nat), l.map (fun e : MapEntry => (e.key, e.val)) = Zgr es ->
 (ZiY es k = none /\ ZnQ k es i = none /\ (∀ n, Zpa es k n = es ++ [(k, n)]) /\ Zr1 es k = es) \/
  ∃ j n, ZiY es k = some n /\ ZnQ k es i = some (i + j, pV n) /\ (l[j]?).map (·.key) = some (sV k) /\ (∀ m f, (∀ e : MapEntry, ((f e).key, (f e).val) = (sV k, pV m)) -> (l.modify j f).map (fun e : MapEntry => (e.key, e.val)) = Zgr (Zpa es k m)) /\ (l.eraseIdx j).map (fun e : MapEntry => (e.key, e.val)) = Zgr (Zr1 es k)
 | [], [], i, _ => .inl ⟨rfl, rfl, fun v => rfl, rfl⟩
 | [], e :: l, i, h => by simp [Zgr] at h
 | p :: es, [], i, h => by simp [Zgr] at h
 | p :: es, e :: l, i, h => by
  unfold Zgr at h
  simp only [List.map_cons, List.cons.injEq] at h
  obtain ⟨h1, h2⟩ := h
  injection h1 with h1 h3
  unfold ZiY Zpa ZnQ Zr1
  by_cases hp : k = p.1
  ·subst hp
   refine .inr ⟨0, p.2, by rw [if_pos rfl], by rw [if_pos rfl]; rfl, by simp [h1], fun m f hf => ?_, ?_⟩
   ·rw [if_pos rfl]
    simp [List.modify, h2, hf e, Zgr]
   ·rw [if_pos rfl]
    simpa [Zgr] using h2
  ·rcases ZgV (k := k) (i + 1) h2 with ⟨g1, g2, g3, g4⟩ | ⟨j, n, g1, g2, g3, g4, g5⟩
   ·exact .inl ⟨by rw [if_neg hp]; exact g1, by rw [if_neg hp]; exact g2, fun v => by rw [if_neg hp, g3 v]; rfl, by rw [if_neg hp, g4]⟩
   ·refine .inr ⟨j + 1, n, by rw [if_neg hp]; exact g1, by rw [if_neg hp, show i + (j + 1) = i + 1 + j from by omega]; exact g2, by simpa using g3, fun m f hf => ?_, ?_⟩
    ·rw [if_neg hp, List.modify_succ_cons, List.map_cons, g4 m f hf, h1, h3]
     rfl
    ·rw [if_neg hp, List.eraseIdx_cons_succ, List.map_cons, g5, h1, h3]
     rfl
theorem Zkn {k : List UInt8} : ∀ {es : Dir} {l : List MapEntry} (i : Nat), l.map (fun e : MapEntry => (e.key, e.val)) = Zgr es -> Instr.findNow .string (sV k) l i = some (ZnQ k es i)
 | [], [], i, _ => rfl
 | [], e :: l, i, h => by simp [Zgr] at h
 | p :: es, [], i, h => by simp [Zgr] at h
 | p :: es, e :: l, i, h => by
  unfold Zgr at h
  simp only [List.map_cons, List.cons.injEq] at h
  obtain ⟨h1, h2⟩ := h
  injection h1 with h1 h3
  unfold ZnQ Instr.findNow
  rw [h1, show Instr.sameNow .string (sV k) (sV p.1) = some (decide (k = p.1)) from congrArg some (ZiW k p.1)]
  by_cases hp : k = p.1
  ·rw [if_pos hp, decide_eq_true hp, h3]
  ·rw [if_neg hp, decide_eq_false hp]
   exact Zkn (i + 1) h2
theorem Zmg {kt : TypeId} {w : World} {k : List UInt8} {es : Dir} {l : List MapEntry} (hk : P.underlying kt = some .string) (h : l.map (fun e : MapEntry => (e.key, e.val)) = Zgr es) : (Instr.findKey kt (sV k) l).run P w = .ok (ZnQ k es 0) w := by
 unfold Instr.findKey
 rw [Sem.run_bind, run_underlying hk]
 dsimp only [Result.andThen]
 rw [Zkn 0 h]
 rfl
theorem ZiZ {kt : TypeId} {w : World} {k : List UInt8} (hk : P.underlying kt = some .string) (e : Bool) : (Instr.checkKey e 10000 kt (sV k)).run P w = .ok () w := ZnL (K := .str) (y := k) hk e
theorem Zmh {w : World} {k : List UInt8} : (Instr.keyThatStays (sV k) (sV k)).run P w = .ok (sV k) w := ZnM (K := .str) (x := k)
theorem ZnR {t kt et : TypeId} {es : Dir} {arr : Array MapEntry} {c b : Nat} {k : List UInt8} {w : World} (t1 : P.underlying t = some (.map kt et)) (t2 : P.underlying kt = some .string) (t4 : Zba P et = some (.pointer none)) (hh : w.heap[b]? = some (.map arr c)) (harr : arr.toList.map (fun e : MapEntry => (e.key, e.val)) = Zgr es) :
 (Instr.lookup t (.map (some b)) (sV k) false).run P w = .ok (.pointer ((ZiY es k).map fun n => ⟨n, 0, none⟩)) w := by
 have pre : ∀ r, ZnQ k es 0 = r -> (Instr.lookup t (.map (some b)) (sV k) false).run P w = .ok (match r with | some (_, v) => v | none => .pointer none) w := by
  intro r hr
  unfold Instr.lookup
  rw [Sem.run_bind, run_underlying t1]
  dsimp only [Result.andThen]
  rw [Sem.run_bind, Zo4 hh]
  dsimp only [Result.andThen]
  rw [Sem.run_bind, Sem.run_pure]
  dsimp only [Result.andThen]
  rw [Sem.run_bind, ZiZ t2]
  dsimp only [Result.andThen]
  rw [Sem.run_bind, Zmg t2 harr, hr]
  dsimp only [Result.andThen]
  cases r with
  | none =>
   dsimp only
   rw [Sem.run_bind, Zcc t4]
   rfl
  | some x => rfl
 rcases ZgV (k := k) 0 harr with ⟨m1, m2, _⟩ | ⟨j, n, m1, m2, _⟩
 ·rw [pre _ m2, m1]; rfl
 ·rw [pre _ m2, m1]; rfl
end
section
variable {P : Program} {ops : Array Oper} {env : Env} {σ τ : St} {K : Env -> St -> Prop} {d : Option Nat} {ty ty' t kt et : TypeId} {pos : String} {af : Array Edge} {x y z : Operand} {b n : Nat} {es : Dir} {k : List UInt8}
theorem ZhJ (h : ∀ b, ¬ σ.used b -> σ.blk b = none -> K (env.put d (Zef b)) (σ.put b (.map []))) (hm : P.underlying t = some (.map kt et)) : aOp P ops ⟨d, .makeMap t none, ty, pos, af, none⟩ env σ K := by
 rw [ZaT rfl]
 have hvs : ((.makeMap t none : Op).operands.toList.map (ev env)) = [] := by simp [Op.operands]
 show Zc6 P _ (Op.operands _ |>.toList.map (ev env)) σ _
 rw [hvs]
 refine .inr ⟨rfl, fun ρv hρ w Z hH hV => ?_⟩
 obtain ⟨f1, f2⟩ := hH.fresh
 refine ⟨Zef w.heap.size, _, _, .inl ?_, h _ f1 f2, hH.alloc_map, Zbe _, Grow.alloc hH _ _⟩
 simp [execOp, Instr.makeMap, run_underlying hm, Zef, newObj, Sem.run, Result.andThen]
theorem Zfs (hx : ev env x = Zef b) (hy : ev env y = .raw (sV k)) (hb : σ.blk b = some (.map (Zgr es))) (t1 : P.underlying t = some (.map kt et)) (t2 : P.underlying kt = some .string) (t4 : Zba P et = some (.pointer none))
 (h : K (env.put d (.raw (.pointer ((ZiY es k).map fun n => ⟨n, 0, none⟩)))) σ) : aOp P ops ⟨d, .lookup t x y false, ty, pos, af, none⟩ env σ K := by
 rw [ZaT rfl]
 have hvs : ((.lookup t x y false : Op).operands.toList.map (ev env)) = [Zef b, .raw (sV k)] := by simp [Op.operands, hx, hy]
 show Zc6 P _ (Op.operands _ |>.toList.map (ev env)) σ _
 rw [hvs]
 refine .inr ⟨rfl, fun ρv hρ w Z hH hV => ?_⟩
 obtain ⟨_, arr, c, hh, harr, _⟩ := hH.mapAt hb (Zgs _)
 have hρ' := hρ
 simp [Op.operands, Zef] at hρ'
 refine ⟨.raw (.pointer ((ZiY es k).map fun n => ⟨n, 0, none⟩)), σ, w, .inl ?_, h, hH, Zbe _, .refl _ _⟩
 simp only [execOp, hρ'.1, hρ'.2]
 rw [Sem.run_bind, ZnR t1 t2 t4 hh harr]
 rfl
theorem Zmi (hx : ev env x = Zef b) (hy : ev env y = .raw (sV k)) (hz : ev env z = ptr n 0) (hb : σ.blk b = some (.map (Zgr es))) (t1 : P.underlying t = some (.map kt et)) (t2 : P.underlying kt = some .string)
 (h : ∀ τ, τ.blk b = some (.map (Zgr (Zpa es k n))) -> But (fun c => c = b) σ τ -> K (env.put d (.raw undef)) τ) : aOp P ops ⟨d, .mapUpdate t x y z, ty, pos, af, none⟩ env σ K := by
 rw [ZaT rfl]
 have hvs : ((.mapUpdate t x y z : Op).operands.toList.map (ev env)) = [Zef b, .raw (sV k), ptr n 0] := by simp [Op.operands, hx, hy, hz]
 show Zc6 P _ (Op.operands _ |>.toList.map (ev env)) σ _
 rw [hvs]
 refine .inr ⟨rfl, fun ρv hρ w Z hH hV => ?_⟩
 obtain ⟨_, arr, c, hh, harr, hfr1, hfr2⟩ := hH.mapAt hb (Zgs _)
 have hρ' := hρ
 simp [Op.operands, Zef, ptr] at hρ'
 obtain ⟨r1, r2, r3⟩ := hρ'
 have fin : ∀ (arr' : Array MapEntry) (c' : Nat), ((∀ n ∈ arr'.toList.map fun e : MapEntry => e.born, n < c') /\ (arr'.toList.map fun e : MapEntry => e.born).Nodup) -> arr'.toList.map (fun e : MapEntry => (e.key, e.val)) = Zgr (Zpa es k n) -> (Instr.mapUpdate t (.map (some b)) (sV k) (pV n)).run P w = .ok () (Zc7 w b arr' c') ->
  ∃ r σ' w', ((execOp ρv ⟨d, .mapUpdate t x y z, ty, pos, af, none⟩).run P w = .ok (.value r.val) w' \/ (execOp ρv ⟨d, .mapUpdate t x y z, ty, pos, af, none⟩).run P w = .ok .skip w' /\ r = .raw undef) /\ K (env.put d r) σ' /\ ZaG w' σ' Z /\ Zar w' (σ'.free Z) r /\ Grow w σ w' σ' := by
  intro arr' c' h0 h1 h2
  obtain ⟨q1, q2⟩ := hH.write_map (a' := arr') (c' := c') hb hh h0 (by rw [h1]; exact Zgs _)
  rw [h1] at q1 q2
  refine ⟨.raw undef, _, Zc7 w b arr' c', .inr ⟨?_, rfl⟩, h _ ?_ ?_, q1, Zbe _, q2⟩
  ·simp [execOp, r1, r2, r3, h2]
  ·show (if b = b then _ else σ.blk b) = _
   rw [if_pos rfl]
  ·exact ⟨fun c' k' hc hk => by
    show (if c' = b then _ else σ.blk c') = _
    rw [if_neg hc]; exact hk, fun c' hc => hc⟩
 have pre : ∀ r, ZnQ k es 0 = r -> (Instr.mapUpdate t (.map (some b)) (sV k) (pV n)).run P w = (match r with
  | some (j, _) => do
   let key <- Instr.keyThatStays (((arr[j]?).map (fun e : MapEntry => e.key)).getD (sV k)) (sV k)
   setObj b (.map (arr.modify j fun (e : MapEntry) => { e with key, val := pV n }) c)
  | none => setObj b (.map (arr.push { key := sV k, val := pV n, born := c }) (c + 1))).run P w := by
  intro r hr
  unfold Instr.mapUpdate
  rw [Sem.run_bind, run_underlying t1]
  dsimp only [Result.andThen]
  rw [Sem.run_bind, Zo4 hh]
  dsimp only [Result.andThen]
  rw [Sem.run_bind, ZiZ t2]
  dsimp only [Result.andThen]
  rw [Sem.run_bind, Zmg t2 harr, hr]
  dsimp only [Result.andThen]
  cases r <;> rfl
 rcases ZgV (k := k) 0 harr with ⟨m1, m2, m3, _⟩ | ⟨j, y', m1, m2, m3, m4, _⟩
 ·refine fin (arr.push { key := sV k, val := pV n, born := c }) (c + 1) (ZiV hfr1 hfr2) (by rw [m3 n, Array.toList_push, List.map_append, harr]; simp [Zgr]) ?_
  rw [pre _ m2]
  exact Zo5 hh
 ·rw [Nat.zero_add] at m2
  refine fin (arr.modify j fun (e : MapEntry) => { e with key := sV k, val := pV n }) c (by rw [ZjI arr j (fun (e : MapEntry) => { e with key := sV k, val := pV n }) fun _ => rfl]; exact ⟨hfr1, hfr2⟩) ?_ ?_
  ·rw [Array.toList_modify]
   exact m4 n _ (fun e => rfl)
  ·rw [pre _ m2]
   dsimp only
   have hkey : ((arr[j]?).map (fun e : MapEntry => e.key)).getD (sV k) = sV k := by
    rw [Array.getElem?_toList] at m3
    rw [m3]; rfl
   rw [hkey, Sem.run_bind, Zmh]
   exact Zo5 hh
end
open Go.ChangeMaps (setBlock)
set_option maxRecDepth 100000
set_option linter.unusedVariables false
def ZnB (w' w : World) : Prop := w'.heap = w.heap /\ w'.os = w.os /\ w'.output = w.output /\ w'.tape = w.tape
theorem ZnB.refl (w : World) : ZnB w w := ⟨rfl, rfl, rfl, rfl⟩
theorem ZnB.trans {a b c : World} (h : ZnB a b) (k : ZnB b c) : ZnB a c := ⟨h.1.trans k.1, h.2.1.trans k.2.1, h.2.2.1.trans k.2.2.1, h.2.2.2.trans k.2.2.2⟩
theorem ZeW (w : World) (a b : Obj) : setBlock (w.alloc a) w.heap.size b = w.alloc b := by
 unfold setBlock World.alloc
 congr 1
 apply Array.ext'
 simp
theorem ZnS {P : Program} (w : World) (ty : TypeId) (bm since c0 : Nat) (seen : Array Nat) (es : Array MapEntry) (clock : Nat) (hb : w.heap[bm]? = some (.map es clock)) (hold : ∀ x ∈ es.toList, x.born < since) (hsc : since <= c0) :
 ((leftOf es seen).size = 0 /\ (Instr.next (.pointer (some ⟨w.heap.size, 0, none⟩)) false ty).run P (w.alloc (.mapIter (some bm) since seen c0)) = .ok (.tuple #[.bool false]) (w.alloc (.mapIter (some bm) since seen c0))) \/
 ∃ e ∈ (leftOf es seen).toList, ∃ w1 : World, ZnB w1 w /\ (Instr.next (.pointer (some ⟨w.heap.size, 0, none⟩)) false ty).run P (w.alloc (.mapIter (some bm) since seen c0)) = .ok (.tuple #[.bool true, e.key, e.val]) (w1.alloc (.mapIter (some bm) since (seen.push e.born) clock)) := by
 have hlt : bm < w.heap.size := by
  rcases Nat.lt_or_ge bm w.heap.size with h | h
  ·exact h
  ·simp [Array.getElem?_eq_none h] at hb
 have hb' : (w.alloc (.mapIter (some bm) since seen c0)).heap[bm]? = some (.map es clock) := by rw [heap_alloc_old w _ hlt, hb]
 rcases run_next_at (P := P) (w.alloc (.mapIter (some bm) since seen c0)) ty w.heap.size bm since c0 seen es clock (heap_alloc_new _ _) hb' hold hsc with h | ⟨e, he, w1, h1 | h1, h2⟩
 ·exact .inl h
 ·subst h1
  exact .inr ⟨e, he, w, .refl _, by rw [h2, ZeW]⟩
 ·subst h1
  refine .inr ⟨e, he, w.drew, ⟨rfl, rfl, rfl, rfl⟩, ?_⟩
  rw [h2]
  congr 1
  exact ZeW w.drew _ _
def Zi0 (w : World) : Value -> Int
 | .pointer (some ad) => match w.cell? ⟨ad.block, 0, none⟩ with
  | some (Value.slice _ n _) => (n : Int)
  | _ => 0
 | _ => 0
theorem Zh9 {w : World} {fb n c : Nat} {A : Option Addr} (h : w.cell? ⟨fb, 0, none⟩ = some (.slice A n c)) : Zi0 w (.pointer (some ⟨fb, 0, none⟩)) = (n : Int) := by
 unfold Zi0
 dsimp only
 rw [h]
def Zi1 (w : World) (es : Array MapEntry) : List MapEntry := es.toList.map fun e => { e with val := .int .i32 (Zi0 w e.val) }
theorem Zmj (w : World) (es : Array MapEntry) : (Zi1 w es).map (·.born) = es.toList.map (·.born) := by
 unfold Zi1
 rw [List.map_map]
 rfl
theorem ZnT {w : World} {es : Array MapEntry} {e : MapEntry} (h : e ∈ es.toList) : { e with val := .int .i32 (Zi0 w e.val) } ∈ Zi1 w es := List.mem_map.2 ⟨e, h, rfl⟩
theorem ZhK (l : List MapEntry) (seen : Array Nat) (h : ∀ e ∈ l, 0 <= valOf e.val) : 0 <= seenSum l seen /\ seenSum l seen <= (l.map fun e => valOf e.val).sum := by
 induction l with
 | nil => exact ⟨Int.le_refl _, Int.le_refl _⟩
 | cons x l ih =>
  obtain ⟨h1, h2⟩ := ih (fun e he => h e (List.mem_cons_of_mem _ he))
  have hx := h x List.mem_cons_self
  rw [List.map_cons, List.sum_cons]
  unfold seenSum
  split <;> omega
theorem ZhL {w : World} {o : Obj} {a : Addr} {v : Value} (h : w.cell? a = some v) : (w.alloc o).cell? a = some v := by
 have hb := World.block_lt_of_cell? w a h
 rw [World.cell?_of_block (w := w) (heap_alloc_old w o hb)]
 exact h
theorem Zi2 {w w' : World} (h : ZnB w' w) {a : Addr} {v : Value} (hc : w.cell? a = some v) : w'.cell? a = some v := by
 rw [World.cell?_of_block (w := w) (by rw [h.1])]
 exact hc
set_option maxHeartbeats 4000000 in
theorem ZnU (bb mb : Nat) (lv : Value) (size more : Int) (es : Array MapEntry) (clock : Nat) (w : World)
 (hd1 : w.cell? ⟨bb, 1, none⟩ = some (.map (some mb))) (hd2 : w.cell? ⟨bb, 2, none⟩ = some (.int .i64 size)) (hm : w.heap[mb]? = some (.map es clock)) (hst : (∀ x ∈ es.toList, x.born < clock) /\ (es.toList.map (·.born)).Nodup)
 (hf : ∀ x ∈ es.toList, ∃ fb A n c, x.val = .pointer (some ⟨fb, 0, none⟩) /\ w.cell? ⟨fb, 0, none⟩ = some (.slice A n c))
 (h0 : 0 <= more) (hb : more + ((Zi1 w es).map fun e => valOf e.val).sum <= 1000000000000) :
 Calls Tryz.prog 152 #[.pointer (some ⟨bb, 0, none⟩), .int .i64 more] w fun e w' => e = .returned (.bool (decide (size < 1 \/ more + ((Zi1 w es).map fun e => valOf e.val).sum <= size))) /\ ∃ (w1 : World) (seen : Array Nat), ZnB w1 w /\ w' = w1.alloc (.mapIter (some mb) clock seen clock) := by
 have hpos : ∀ e ∈ Zi1 w es, 0 <= valOf e.val := fun e he => by
  obtain ⟨x, hx, rfl⟩ := List.mem_map.1 he
  obtain ⟨fb, A, n, c, h1, h2⟩ := hf x hx
  show 0 <= Zi0 w x.val
  rw [h1, Zh9 h2]
  omega
 have hrg := run_range_map (P := Tryz.prog) w 123 9 141 mb es clock (by kernel_rfl) hm
 generalize hT : ((Zi1 w es).map fun e => valOf e.val).sum = T at hb ⊢
 go_enter Tryz.func152, Tryz.ntmps152
 go_wp2
 go_loopw [1] (fun s w' => ∃ (w1 : World) (seen : Array Nat), ZnB w1 w /\ w' = w1.alloc (.mapIter (some mb) clock seen clock) /\ s = .int .i64 (more + seenSum (Zi1 w es) seen)) (fun _ w' => (leftOf es (w'.iterSeen w.heap.size)).size)
 case atStart => exact ⟨w, #[], .refl _, rfl, by rw [seenSum_none, Int.add_zero]⟩
 case round =>
  obtain ⟨w1, seen, hal, rfl, rfl⟩ := hrel
  have hsz : w1.heap.size = w.heap.size := by rw [hal.1]
  have hb1 : w1.heap[mb]? = some (.map es clock) := by rw [hal.1]; exact hm
  have law := ZnS (P := Tryz.prog) w1 0 mb clock clock seen es clock hb1 hst.1 (Nat.le_refl _)
  obtain ⟨hs1, hs2⟩ := ZhK (Zi1 w es) seen hpos
  rw [hT] at hs2
  rw [hsz] at law
  rcases law with ⟨h0', hrun⟩ | ⟨e, he, w2, hal2, hrun⟩
  ·have hnx : ∀ ty, (Instr.next (.pointer (some ⟨w.heap.size, 0, none⟩)) false ty).run Tryz.prog (w1.alloc (.mapIter (some mb) clock seen clock)) = _ := fun _ => hrun
   have hc2 : (w1.alloc (.mapIter (some mb) clock seen clock)).cell? ⟨bb, 2, none⟩ = some (.int .i64 size) := ZhL (Zi2 hal hd2)
   have hall : seenSum (Zi1 w es) seen = T := by
    rw [<- hT]
    refine seenSum_full seen _ fun x hx => ?_
    obtain ⟨y, hy, rfl⟩ := List.mem_map.1 hx
    cases hq : seen.contains y.born with
    | true => rfl
    | false =>
     exfalso
     have : y ∈ leftOf es seen := by
      unfold leftOf
      rw [Array.mem_filter]
      exact ⟨Array.mem_toList_iff.1 hy, by rw [hq]; rfl⟩
     have := Array.size_pos_of_mem this
     omega
   rw [hall]
   go_wp2
   ·go_ret
    exact ⟨by simp, w1, seen, hal, rfl⟩
   ·go_ret
    exact ⟨rfl, w1, hal, seen, rfl⟩
  ·obtain ⟨fb, A, n, c, hval, hfc⟩ := hf e (mem_left he).1
   rw [hval] at hrun
   have hnx : ∀ ty, (Instr.next (.pointer (some ⟨w.heap.size, 0, none⟩)) false ty).run Tryz.prog (w1.alloc (.mapIter (some mb) clock seen clock)) = _ := fun _ => hrun
   have hal3 := hal2.trans hal
   have hsz2 : w2.heap.size = w.heap.size := by rw [hal3.1]
   have hb2 : w2.heap[mb]? = some (.map es clock) := by rw [hal3.1]; exact hm
   have hen := run_entry_map (P := Tryz.prog) w2 mb clock seen es clock e hb2 (mem_left he).1 hst.2
   rw [hsz2, hval] at hen
   have hc2 : (w2.alloc (.mapIter (some mb) clock (seen.push e.born) clock)).cell? ⟨fb, 0, none⟩ = some (.slice A n c) := ZhL (Zi2 hal3 hfc)
   have hpush : seenSum (Zi1 w es) (seen.push e.born) = seenSum (Zi1 w es) seen + (n : Int) := by
    have := seenSum_push seen { e with val := .int .i32 (Zi0 w e.val) } (mem_left he).2 (Zi1 w es) (by rw [Zmj]; exact hst.2) (ZnT (mem_left he).1)
    rw [hval, Zh9 hfc] at this
    exact this
   obtain ⟨hs3, hs4⟩ := ZhK (Zi1 w es) (seen.push e.born) hpos
   rw [hT] at hs4
   go_wp2
   go_roundw
   case rel =>
    refine ⟨w2, seen.push e.born, hal3, rfl, ?_⟩
    rw [hpush, Int.add_assoc]
   case measure =>
    rw [<- hsz2, World.iterSeen_alloc, hsz2, <- hsz, World.iterSeen_alloc]
    exact left_shrinks es seen e he
def Za9 (σ : St) (g : Nat) : Prop := σ.blk g = none /\ ¬ σ.used g
theorem Za9.of {σ τ : St} {g : Nat} (h : Za9 τ g) (k : Ext σ τ) : Za9 σ g := ⟨k.noneOf h.1, k.unused h.2⟩
section
variable {P : Program} {G : Nat -> Prop} {σ : St}
end
section
variable {P : Program} {O : Nat -> Prop} {ops : Array Oper} {env : Env} {σ τ : St} {K : Env -> St -> Prop} {d : Option Nat} {ty ty' t : TypeId} {pos : String} {af : Array Edge} {x y : Operand} {c c1 c2 : Code} {Q : Zdn} {lf cf ow : Nat -> Bool} {i j : Nat} {l : List Nat} {l' : List Oper} {Pres : Nat -> Prop} {op : Op} {v : AV} {want : Bool} {g : Option (Nat × Bool)}
theorem Zag (h : Zbz P ops l' (env.put d v) σ K) (hm : mvx op = some x := by rfl) (hx : ev env x = v := by simp only [EV,Nat.reduceEqDiff,↓reduceIte,he];try rfl) : Zbz P ops (⟨d, op, ty, pos, af, none⟩ :: l') env σ K := Zac (Zcb hm hx h)
theorem Zal {q : Nat} (h : Zbz P ops l' (env.put d (.raw undef)) σ K) (hd : (ops[j]?).bind (·.dst) = some q := by rfl) (hv : env q = vT (!want) := by simp only [EV,Nat.reduceEqDiff,↓reduceIte,he];try rfl) : Zbz P ops (⟨d, op, ty, pos, af, some (j, want)⟩ :: l') env σ K := Zac (ZjD (Zs0 hd hv) h)
theorem Zau {q : Nat} (h : aOp P ops ⟨d, op, ty, pos, af, none⟩ env σ fun env' σ' => Zbz P ops l' env' σ' K) (hd : (ops[j]?).bind (·.dst) = some q := by rfl) (hv : env q = vT want := by simp only [EV,Nat.reduceEqDiff,↓reduceIte,he];try rfl) : Zbz P ops (⟨d, op, ty, pos, af, some (j, want)⟩ :: l') env σ K := Zac (Zld (Zs0 hd hv) h)
theorem Zao {f : FuncId} {as_ : Array Operand} {ts : Array TypeId} (vs : List AV) (h : Zan P f vs σ fun r σ' => Zbz P ops l' (env.put d r) σ' K) (hv : as_.toList.map (ev env) = vs := by simp only [List.map_cons, List.map_nil, EV,Nat.reduceEqDiff,↓reduceIte,he];try rfl) : Zbz P ops (⟨d, .call ⟨.value (.func f), as_, ts⟩, ty, pos, af, none⟩ :: l') env σ K := Zac (Zay hv h)
theorem Zas (h : aOp P ops ⟨d, op, ty, pos, af, none⟩ env σ fun env' σ' => ((cf i && ZbC ⟨d, op, ty, pos, af, none⟩) = true -> Ext σ σ') /\ Zbc P ops (fun _ => True) lf cf ow l env' σ' K) (hi : ops[i]? = some ⟨d, op, ty, pos, af, g⟩ := by simp only [HIX]; try rfl) (hw : Region.wanted ⟨d, op, ty, pos, af, g⟩ (ZaE ops env) = true := by rfl) (how : ow i = false := by rfl) : Zbc P ops (fun _ => True) lf cf ow (i :: l) env σ K := Zri hi hw how h
theorem Zax (h : Zbc P ops (fun _ => True) lf cf ow l (env.put d v) σ K) (hi : ops[i]? = some ⟨d, op, ty, pos, af, g⟩ := by simp only [HIX]; try rfl) (hw : Region.wanted ⟨d, op, ty, pos, af, g⟩ (ZaE ops env) = true := by rfl) (how : ow i = false := by rfl) (hm : mvx op = some x := by rfl) (hx : ev env x = v := by simp only [EV,Nat.reduceEqDiff,↓reduceIte,he];try rfl) : Zbc P ops (fun _ => True) lf cf ow (i :: l) env σ K := Zri hi hw how (Zcb hm hx (Zaz h))
theorem Za2 (h : aOp P ops ⟨d, op, ty, pos, af, none⟩ env σ fun env' σ' => ((cf i && ZbC ⟨d, op, ty, pos, af, none⟩) = true -> Zgg Pres σ σ') /\ Zbc P ops Pres lf cf ow l env' σ' K) (hi : ops[i]? = some ⟨d, op, ty, pos, af, g⟩ := by simp only [HIX]; try rfl) (hw : Region.wanted ⟨d, op, ty, pos, af, g⟩ (ZaE ops env) = true := by rfl) (how : ow i = false := by rfl) (hl : (lf i && ZbA ⟨d, op, ty, pos, af, g⟩ == .load) = false := by rfl) : Zbc P ops Pres lf cf ow (i :: l) env σ K := Zo9 hi hw how hl h
theorem ZcT (h : Zbc P ops Pres lf cf ow l (env.put d v) σ K) (hi : ops[i]? = some ⟨d, op, ty, pos, af, g⟩ := by simp only [HIX]; try rfl) (hw : Region.wanted ⟨d, op, ty, pos, af, g⟩ (ZaE ops env) = true := by rfl) (how : ow i = false := by rfl) (hl : (lf i && ZbA ⟨d, op, ty, pos, af, g⟩ == .load) = false := by rfl) (hm : mvx op = some x := by rfl) (hx : ev env x = v := by simp only [EV,Nat.reduceEqDiff,↓reduceIte,he];try rfl) : Zbc P ops Pres lf cf ow (i :: l) env σ K := Zo9 hi hw how hl (Zcb hm hx (Zb5 h))
theorem Zaq (h : Zbc P ops (fun _ => True) lf cf ow l (env.put d (.raw undef)) σ K) (hi : ops[i]? = some ⟨d, op, ty, pos, af, some (j, want)⟩ := by simp only [HIX]; try rfl) (hg : ZaE ops env j = some (!want) := by rfl) (how : ow i = false := by rfl) : Zbc P ops (fun _ => True) lf cf ow (i :: l) env σ K := Zsl hi hg how h
theorem ZcU {b : Bool} (h : Zbz P ops l' (env.put d (vT (!b))) σ K) (hx : ev env x = vT b := by simp only [EV,Nat.reduceEqDiff,↓reduceIte,he];try rfl) : Zbz P ops (⟨d, .unOp .not t x, ty, pos, af, none⟩ :: l') env σ K := Zac (ZcR hx h)
theorem Zby {x y : Operand} (a b : Nat) (h : Zbz P ops l' (env.put d (vI ((a + b : Nat) : Int))) σ K) (hab : a + b < 4611686018427387904 := by omega) (hx : ev env x = vI a := by simp only [EV,Nat.reduceEqDiff,↓reduceIte,he];try rfl) (hy : ev env y = vI b := by simp only [EV,Nat.reduceEqDiff,↓reduceIte,he];try rfl) : Zbz P ops (⟨d, .binOp .add t x y ty', ty, pos, af, none⟩ :: l') env σ K := Zac (Zgc a b hx hy hab h)
theorem Zcf {x y : Operand} (a b : Nat) (h : Zbz P ops l' (env.put d (vT (decide (a < b)))) σ K) (hx : ev env x = vI a := by simp only [EV,Nat.reduceEqDiff,↓reduceIte,he];try rfl) (hy : ev env y = vI b := by simp only [EV,Nat.reduceEqDiff,↓reduceIte,he];try rfl) : Zbz P ops (⟨d, .binOp .lss t x y ty', ty, pos, af, none⟩ :: l') env σ K := Zac (ZiX a b hx hy h)
theorem ZaD {fn : Func} {t : Nat} {M : AV -> Prop} (h : M v) (hr : fn.results.toList = [.tmp t] := by rfl) (hv : env t = v := by simp only [EV,Nat.reduceEqDiff,↓reduceIte,he];try rfl) : ∃ r, ZaM P fn env σ r /\ M r := ⟨_, Ze1 hr hv, h⟩
theorem kp1 (i0 : Nat) {v0 : AV} (h : ∀ e : Env, e i0 = v0 -> ZaA P O c Q e σ) (hs : env i0 = v0 := by and_intros <;> simp only [EV,Nat.reduceEqDiff,↓reduceIte,he] <;> try rfl) : ZaA P O c Q env σ := h _ hs
theorem kp2 (i0 i1 : Nat) {v0 v1 : AV} (h : ∀ e : Env, e i0 = v0 /\ e i1 = v1 -> ZaA P O c Q e σ) (hs : env i0 = v0 /\ env i1 = v1 := by and_intros <;> simp only [EV,Nat.reduceEqDiff,↓reduceIte,he] <;> try rfl) : ZaA P O c Q env σ := h _ hs
theorem kp3 (i0 i1 i2 : Nat) {v0 v1 v2 : AV} (h : ∀ e : Env, e i0 = v0 /\ e i1 = v1 /\ e i2 = v2 -> ZaA P O c Q e σ) (hs : env i0 = v0 /\ env i1 = v1 /\ env i2 = v2 := by and_intros <;> simp only [EV,Nat.reduceEqDiff,↓reduceIte,he] <;> try rfl) : ZaA P O c Q env σ := h _ hs
theorem kp4 (i0 i1 i2 i3 : Nat) {v0 v1 v2 v3 : AV} (h : ∀ e : Env, e i0 = v0 /\ e i1 = v1 /\ e i2 = v2 /\ e i3 = v3 -> ZaA P O c Q e σ) (hs : env i0 = v0 /\ env i1 = v1 /\ env i2 = v2 /\ env i3 = v3 := by and_intros <;> simp only [EV,Nat.reduceEqDiff,↓reduceIte,he] <;> try rfl) : ZaA P O c Q env σ := h _ hs
theorem kp5 (i0 i1 i2 i3 i4 : Nat) {v0 v1 v2 v3 v4 : AV} (h : ∀ e : Env, e i0 = v0 /\ e i1 = v1 /\ e i2 = v2 /\ e i3 = v3 /\ e i4 = v4 -> ZaA P O c Q e σ) (hs : env i0 = v0 /\ env i1 = v1 /\ env i2 = v2 /\ env i3 = v3 /\ env i4 = v4 := by and_intros <;> simp only [EV,Nat.reduceEqDiff,↓reduceIte,he] <;> try rfl) : ZaA P O c Q env σ := h _ hs
theorem kp6 (i0 i1 i2 i3 i4 i5 : Nat) {v0 v1 v2 v3 v4 v5 : AV} (h : ∀ e : Env, e i0 = v0 /\ e i1 = v1 /\ e i2 = v2 /\ e i3 = v3 /\ e i4 = v4 /\ e i5 = v5 -> ZaA P O c Q e σ) (hs : env i0 = v0 /\ env i1 = v1 /\ env i2 = v2 /\ env i3 = v3 /\ env i4 = v4 /\ env i5 = v5 := by and_intros <;> simp only [EV,Nat.reduceEqDiff,↓reduceIte,he] <;> try rfl) : ZaA P O c Q env σ := h _ hs
theorem kp7 (i0 i1 i2 i3 i4 i5 i6 : Nat) {v0 v1 v2 v3 v4 v5 v6 : AV} (h : ∀ e : Env, e i0 = v0 /\ e i1 = v1 /\ e i2 = v2 /\ e i3 = v3 /\ e i4 = v4 /\ e i5 = v5 /\ e i6 = v6 -> ZaA P O c Q e σ) (hs : env i0 = v0 /\ env i1 = v1 /\ env i2 = v2 /\ env i3 = v3 /\ env i4 = v4 /\ env i5 = v5 /\ env i6 = v6 := by and_intros <;> simp only [EV,Nat.reduceEqDiff,↓reduceIte,he] <;> try rfl) : ZaA P O c Q env σ := h _ hs
theorem kp8 (i0 i1 i2 i3 i4 i5 i6 i7 : Nat) {v0 v1 v2 v3 v4 v5 v6 v7 : AV} (h : ∀ e : Env, e i0 = v0 /\ e i1 = v1 /\ e i2 = v2 /\ e i3 = v3 /\ e i4 = v4 /\ e i5 = v5 /\ e i6 = v6 /\ e i7 = v7 -> ZaA P O c Q e σ) (hs : env i0 = v0 /\ env i1 = v1 /\ env i2 = v2 /\ env i3 = v3 /\ env i4 = v4 /\ env i5 = v5 /\ env i6 = v6 /\ env i7 = v7 := by and_intros <;> simp only [EV,Nat.reduceEqDiff,↓reduceIte,he] <;> try rfl) : ZaA P O c Q env σ := h _ hs
theorem Zta (i0 i1 i2 i3 i4 i5 i6 i7 i8 i9 : Nat) {v0 v1 v2 v3 v4 v5 v6 v7 v8 v9 : AV} (h : ∀ e : Env, e i0 = v0 /\ e i1 = v1 /\ e i2 = v2 /\ e i3 = v3 /\ e i4 = v4 /\ e i5 = v5 /\ e i6 = v6 /\ e i7 = v7 /\ e i8 = v8 /\ e i9 = v9 -> ZaA P O c Q e σ) (hs : env i0 = v0 /\ env i1 = v1 /\ env i2 = v2 /\ env i3 = v3 /\ env i4 = v4 /\ env i5 = v5 /\ env i6 = v6 /\ env i7 = v7 /\ env i8 = v8 /\ env i9 = v9 := by and_intros <;> simp only [EV,Nat.reduceEqDiff,↓reduceIte,he] <;> try rfl) : ZaA P O c Q env σ := h _ hs
theorem Ztb (i0 i1 i2 i3 i4 i5 i6 i7 i8 i9 i10 i11 : Nat) {v0 v1 v2 v3 v4 v5 v6 v7 v8 v9 v10 v11 : AV} (h : ∀ e : Env, e i0 = v0 /\ e i1 = v1 /\ e i2 = v2 /\ e i3 = v3 /\ e i4 = v4 /\ e i5 = v5 /\ e i6 = v6 /\ e i7 = v7 /\ e i8 = v8 /\ e i9 = v9 /\ e i10 = v10 /\ e i11 = v11 -> ZaA P O c Q e σ) (hs : env i0 = v0 /\ env i1 = v1 /\ env i2 = v2 /\ env i3 = v3 /\ env i4 = v4 /\ env i5 = v5 /\ env i6 = v6 /\ env i7 = v7 /\ env i8 = v8 /\ env i9 = v9 /\ env i10 = v10 /\ env i11 = v11 := by and_intros <;> simp only [EV,Nat.reduceEqDiff,↓reduceIte,he] <;> try rfl) : ZaA P O c Q env σ := h _ hs
theorem Ztc (i0 i1 i2 i3 i4 i5 i6 i7 i8 i9 i10 i11 i12 i13 : Nat) {v0 v1 v2 v3 v4 v5 v6 v7 v8 v9 v10 v11 v12 v13 : AV} (h : ∀ e : Env, e i0 = v0 /\ e i1 = v1 /\ e i2 = v2 /\ e i3 = v3 /\ e i4 = v4 /\ e i5 = v5 /\ e i6 = v6 /\ e i7 = v7 /\ e i8 = v8 /\ e i9 = v9 /\ e i10 = v10 /\ e i11 = v11 /\ e i12 = v12 /\ e i13 = v13 -> ZaA P O c Q e σ) (hs : env i0 = v0 /\ env i1 = v1 /\ env i2 = v2 /\ env i3 = v3 /\ env i4 = v4 /\ env i5 = v5 /\ env i6 = v6 /\ env i7 = v7 /\ env i8 = v8 /\ env i9 = v9 /\ env i10 = v10 /\ env i11 = v11 /\ env i12 = v12 /\ env i13 = v13 := by and_intros <;> simp only [EV,Nat.reduceEqDiff,↓reduceIte,he] <;> try rfl) : ZaA P O c Q env σ := h _ hs
theorem Ztd (i0 i1 i2 i3 i4 i5 i6 i7 i8 i9 i10 i11 i12 i13 i14 i15 : Nat) {v0 v1 v2 v3 v4 v5 v6 v7 v8 v9 v10 v11 v12 v13 v14 v15 : AV} (h : ∀ e : Env, e i0 = v0 /\ e i1 = v1 /\ e i2 = v2 /\ e i3 = v3 /\ e i4 = v4 /\ e i5 = v5 /\ e i6 = v6 /\ e i7 = v7 /\ e i8 = v8 /\ e i9 = v9 /\ e i10 = v10 /\ e i11 = v11 /\ e i12 = v12 /\ e i13 = v13 /\ e i14 = v14 /\ e i15 = v15 -> ZaA P O c Q e σ) (hs : env i0 = v0 /\ env i1 = v1 /\ env i2 = v2 /\ env i3 = v3 /\ env i4 = v4 /\ env i5 = v5 /\ env i6 = v6 /\ env i7 = v7 /\ env i8 = v8 /\ env i9 = v9 /\ env i10 = v10 /\ env i11 = v11 /\ env i12 = v12 /\ env i13 = v13 /\ env i14 = v14 /\ env i15 = v15 := by and_intros <;> simp only [EV,Nat.reduceEqDiff,↓reduceIte,he] <;> try rfl) : ZaA P O c Q env σ := h _ hs
end
theorem Zam : Tryz.prog.follows .mixedOrders = true := by kernel_rfl
theorem ZdY : Za3 Tryz.prog 128 = some [(0, some 1, some true), (1, some 1, some false), (2, some 1, some false)] := by kernel_rfl
theorem Zej : Za3 Tryz.prog 126 = some [(0, some 1, some false)] := by kernel_rfl
theorem Zek : Za3 Tryz.prog 143 = some [(0, some 1, some false)] := by kernel_rfl
theorem ZgW : Za3 Tryz.prog 145 = some [(0, some 1, some false), (1, some 1, some false)] := by kernel_rfl
theorem Zck : ZaW Tryz.prog 124 = some 145 := by kernel_rfl
theorem Zia : ZaW Tryz.prog 160 = some 9 := by kernel_rfl
theorem Zel : ZaU Tryz.prog 124 = some 1 := by kernel_rfl
theorem ZfS : ZaU Tryz.prog 123 = some 1 := by kernel_rfl
theorem ZpG : ZaU Tryz.prog 141 = some 1 := by kernel_rfl
theorem Zb7 : ZaU Tryz.prog 145 = some 2 := by kernel_rfl
theorem ZfT : ZdB Tryz.prog 124 = some false := by kernel_rfl
theorem ZfU : ZdB Tryz.prog 123 = some false := by kernel_rfl
theorem ZpH : ZdB Tryz.prog 141 = some false := by kernel_rfl
theorem Zib : ZdB Tryz.prog 145 = some true := by kernel_rfl
theorem ZpI : Zba Tryz.prog 128 = some (.agg #[.slice none 0 0, .map none, .int .i64 0]) := by kernel_rfl
theorem Zic : Zba Tryz.prog 141 = some (.pointer none) := by kernel_rfl
theorem ZpJ : Zba Tryz.prog 143 = some (.agg #[.slice none 0 0]) := by kernel_rfl
theorem ZgX : Zba Tryz.prog 145 = some (.agg #[.pointer none, .int .i64 0]) := by kernel_rfl
theorem ZpK : ZbE Tryz.prog 128 = some [(0, 1), (1, 1), (2, 1)] := by kernel_rfl
theorem ZpL : ZbE Tryz.prog 143 = some [(0, 1)] := by kernel_rfl
theorem ZpM : ZbE Tryz.prog 145 = some [(0, 1), (1, 1)] := by kernel_rfl
theorem ZpN : Zdv Tryz.prog 145 = some 16 := by kernel_rfl
theorem ZgY : Program.underlying Tryz.prog 123 = some (.map 9 141) := by kernel_rfl
theorem ZjJ : Program.underlying Tryz.prog 9 = some .string := by kernel_rfl
theorem ZgZ : Program.underlying Tryz.prog 141 = some (.pointer (Program.pointee Tryz.prog 141)) := by kernel_rfl
structure Fl where
 nm : List UInt8
 b : Nat
 v : AV
 d : List UInt8
def pcC (l : List (Nat × Nat)) : List AV := l.flatMap fun p => [ptr p.1 0, .raw (.int .i64 (p.2 : Int))]
theorem ZpO (l : List (Nat × Nat)) : (pcC l).length = l.length * 2 := by
 induction l with
 | nil => rfl
 | cons p l ih =>
  show (pcC l).length + 1 + 1 = (l.length + 1) * 2
  omega
theorem Zid (l m : List (Nat × Nat)) : pcC (l ++ m) = pcC l ++ pcC m := by simp [pcC]
def Zec (fs : List Fl) : Nat := (fs.map (·.d.length)).sum
def ZcE (fs : List Fl) : Dir := fs.map fun f => (f.nm, f.b)
structure DAt (σ : St) (bb : Nat) (S : Nat -> Prop) (fs : List Fl) (pcs : List (Nat × Nat)) (size : Int) (mb : Nat) (pv : AV) : Prop where
 obj : σ.blk bb = some (.own 128 [pv, Zef mb, .raw (.int .i64 size)])
 used : σ.used bb
 map : σ.blk mb = some (.map (Zgr (ZcE fs)))
 umap : σ.used mb
 file : ∀ f ∈ fs, σ.blk f.b = some (.own 143 [f.v]) /\ σ.used f.b /\ Hd σ 5 1 f.v f.d.length (bys f.d)
 nd : (fs.map (·.b)).Nodup
 nn : (fs.map (·.nm)).Nodup
 far : ∀ f ∈ fs, ∀ g ∈ fs, ∀ x, hbk f.v = some x -> hbk g.v = some x -> f.b = g.b
 pc : Hd σ 145 2 pv pcs.length (pcC pcs)
 own : S bb /\ S mb /\ (∀ f ∈ fs, S f.b /\ ∀ x, hbk f.v = some x -> S x) /\ ∀ x, hbk pv = some x -> S x
 inn : ∀ p ∈ pcs, ∃ f ∈ fs, f.b = p.1
section
variable {σ τ : St} {bb mb : Nat} {S : Nat -> Prop} {fs : List Fl} {pcs : List (Nat × Nat)} {size : Int} {pv : AV}
theorem DAt.but {U : Nat -> Prop} (h : DAt σ bb S fs pcs size mb pv) (k : But U σ τ) (hU : ∀ b, S b -> ¬ U b) : DAt τ bb S fs pcs size mb pv := by
 obtain ⟨o1, o2, o3, o4⟩ := h.own
 exact ⟨k.keep _ _ (hU _ o1) h.obj, k.used _ h.used, k.keep _ _ (hU _ o2) h.map, k.used _ h.umap, fun f hf => ⟨k.keep _ _ (hU _ (o3 f hf).1) (h.file f hf).1, k.used _ (h.file f hf).2.1, (h.file f hf).2.2.but k fun b hb => hU _ ((o3 f hf).2 b hb)⟩, h.nd, h.nn, h.far, h.pc.but k fun b hb => hU _ (o4 b hb), h.own, h.inn⟩
theorem DAt.ext (h : DAt σ bb S fs pcs size mb pv) (k : Ext σ τ) : DAt τ bb S fs pcs size mb pv := h.but (U := fun _ => False) k.but fun _ _ => id
theorem Zgt : ∀ {fs : List Fl} {k : List UInt8} {n : Nat}, ZiY (ZcE fs) k = some n -> ∃ f ∈ fs, f.nm = k /\ f.b = n
 | f :: fs, k, n, h => by
  unfold ZcE ZiY at h
  simp only [List.map_cons] at h
  by_cases hk : k = f.nm
  ·rw [if_pos hk] at h
   injection h with h
   exact ⟨f, List.mem_cons_self, hk.symm, h⟩
  ·rw [if_neg hk] at h
   obtain ⟨g, hg, h1⟩ := Zgt (fs := fs) h
   exact ⟨g, List.mem_cons_of_mem _ hg, h1⟩
theorem Zft : ∀ {fs : List Fl} {k : List UInt8}, ZiY (ZcE fs) k = none ↔ ∀ f ∈ fs, f.nm ≠ k
 | [], k => by simp [ZcE, ZiY]
 | f :: fs, k => by
  show (if k = f.nm then some f.b else ZiY (ZcE fs) k) = none ↔ _
  by_cases hk : k = f.nm
  ·rw [if_pos hk]
   simp [hk]
  ·rw [if_neg hk, Zft (fs := fs)]
   simp only [List.mem_cons, forall_eq_or_imp]
   exact ⟨fun h => ⟨fun e => hk e.symm, h⟩, fun h => h.2⟩
theorem ZnV {fs : List Fl} {k : List UInt8} (n : Nat) (h : ∀ f ∈ fs, f.nm ≠ k) : Zpa (ZcE fs) k n = ZcE fs ++ [(k, n)] := by
 induction fs with
 | nil => rfl
 | cons f fs ih =>
  show (if k = f.nm then (k, n) :: ZcE fs else (f.nm, f.b) :: Zpa (ZcE fs) k n) = _
  rw [if_neg (fun e => h f List.mem_cons_self e.symm), ih (fun g hg => h g (List.mem_cons_of_mem _ hg))]
  rfl
theorem Zmk {w w' : World} {Z : Nat -> Prop} (hH : ZaG w σ Z) (hs : w.heap.size <= w'.heap.size) (hb : ∀ b, b < w.heap.size -> w'.heap[b]? = w.heap[b]?) (ho : w'.os = w.os /\ w'.output = w.output /\ w'.tape = w.tape) : ZaG w' σ Z /\ Grow w σ w' σ := by
 have hG : Grow w σ w' σ := ⟨ho.1, ho.2.2, ho.2.1, hs, fun b hb hu => hu, fun b hb' hn => ⟨hb b hb', hn⟩, fun b t k s hb' ht => ⟨fun j v _ hv => by rw [World.cell?_of_block (w := w) (hb b hb')]; exact hv, .inr ⟨t, k, s, ht, Nat.le_refl _⟩⟩, fun b hu => hu⟩
 refine ⟨⟨fun b hu => Nat.lt_of_lt_of_le (hH.used _ hu) hs, fun b hz => ?_, fun b t cs hb' => ?_, fun b t k s hb' => ?_, fun b es hb' => ?_⟩, hG⟩
 ·obtain ⟨z1, z2⟩ := hH.z _ hz
  exact ⟨Nat.lt_of_lt_of_le z1 hs, z2⟩
 ·obtain ⟨g1, g2, g3⟩ := hH.own _ _ _ hb'
  exact ⟨g1, (hb b (hH.used _ g1)).trans g2, fun c hc => hG.valid (g3 c hc)⟩
 ·obtain ⟨g1, cs, g2, g3⟩ := hH.tail _ _ _ _ hb'
  exact ⟨g1, cs, (hb b (hH.used _ g1)).trans g2, g3⟩
 ·obtain ⟨g1, a, c, g2, g3⟩ := hH.map _ _ hb'
  exact ⟨g1, a, c, (hb b (hH.used _ g1)).trans g2, g3⟩
theorem Zie {w : World} {Z : Nat -> Prop} (hH : ZaG w σ Z) {b : Nat} {t : TypeId} {cs : List AV} (hb : σ.blk b = some (.own t cs)) {j : Nat} {d : AV} (hd : cs[j]? = some d) : w.cell? ⟨b, j, none⟩ = some d.val := by
 have := Zfi hH hb 0 j (by rw [Nat.zero_add]; exact hd)
 rw [Zci, Nat.zero_add] at this
 exact this
theorem ZpP {more : Nat} (h : DAt σ bb S fs pcs size mb pv) (hm : more + Zec fs <= 1000000000) (K : AV -> St -> Prop) (hK : K (vT (decide (size < 1 \/ ((more + Zec fs : Nat) : Int) <= size))) σ) : Zan Tryz.prog 152 [ptr bb 0, vI more] σ K := by
 intro w Z hH hV
 refine .inl ⟨by kernel_rfl, ?_⟩
 obtain ⟨_, arr, c, hh, harr, hfr1, hfr2⟩ := hH.mapAt h.map (Zgs _)
 have hmem : ∀ x ∈ arr.toList, ∃ f ∈ fs, x.val = pV f.b := fun x hx => by
  have : (x.key, x.val) ∈ Zgr (ZcE fs) := by
   rw [<- harr]
   exact List.mem_map.2 ⟨x, hx, rfl⟩
  obtain ⟨p, hp, hpx⟩ := List.mem_map.1 this
  obtain ⟨f, hf, rfl⟩ := List.mem_map.1 hp
  injection hpx with _ h2
  exact ⟨f, hf, h2.symm⟩
 have hfile : ∀ f ∈ fs, ∃ A c, w.cell? ⟨f.b, 0, none⟩ = some (.slice A f.d.length c) := fun f hf => by
  obtain ⟨A, c, hv, _⟩ := (h.file f hf).2.2.val
  exact ⟨A, c, by rw [<- hv]; exact Zie hH (h.file f hf).1 rfl⟩
 have hsum : ((Zi1 w arr).map fun e => valOf e.val).sum = (Zec fs : Int) := by
  have h1 : (Zi1 w arr).map (fun e => valOf e.val) = (arr.toList.map fun e : MapEntry => (e.key, e.val)).map fun p => Zi0 w p.2 := by
   unfold Zi1
   rw [List.map_map, List.map_map]
   rfl
  rw [h1, harr]
  unfold Zgr ZcE Zec
  rw [List.map_map, List.map_map]
  clear h1 hmem harr hm hK
  have hfile2 := hfile
  clear hfile h
  induction fs with
  | nil => rfl
  | cons f fs ih =>
   obtain ⟨A, c, hc⟩ := hfile2 f List.mem_cons_self
   rw [List.map_cons, List.sum_cons, List.map_cons, List.sum_cons, ih (fun g hg => hfile2 g (List.mem_cons_of_mem _ hg))]
   show Zi0 w (pV f.b) + _ = _
   rw [Zh9 hc]
   omega
 have hc := ZnU bb mb pv.val size more arr c w (Zie hH h.obj (j := 1) rfl) (Zie hH h.obj (j := 2) rfl) hh ⟨fun x hx => hfr1 _ (List.mem_map.2 ⟨x, hx, rfl⟩), hfr2⟩ (fun x hx => by
  obtain ⟨f, hf, hxv⟩ := hmem x hx
  obtain ⟨A, c, hc⟩ := hfile f hf
  exact ⟨f.b, A, _, c, hxv, hc⟩) (by omega) (by rw [hsum]; omega)
 rw [hsum] at hc
 refine Calls.mono hc ?_
 rintro e w' ⟨rfl, w1, seen, hal, rfl⟩
 have hsz : w1.heap.size = w.heap.size := by rw [hal.1]
 obtain ⟨q1, q2⟩ := Zmk (w' := w1.alloc (.mapIter (some mb) c seen c)) hH (by simp only [World.size_alloc]; omega) (fun b hb => by rw [heap_alloc_old w1 _ (by omega), hal.1]) ⟨hal.2.1, hal.2.2.1, hal.2.2.2⟩
 refine ⟨vT (decide (size < 1 \/ ((more + Zec fs : Nat) : Int) <= size)), σ, ?_, hK, q1, Zbe _, q2⟩
 simp [vT]
end
section
variable {P : Program} {ops : Array Oper} {env : Env} {σ τ : St} {K : Env -> St -> Prop} {d : Option Nat} {ty ty' t kt et : TypeId} {pos : String} {af : Array Edge} {x y z : Operand} {b n : Nat}
theorem ZnW (ht : P.underlying t = some (.map kt et)) (hx : ev env x = Zef b) (hy : ev env y = .raw (.map none)) (h : K (env.put d (.raw (.bool true))) σ) : aOp P ops ⟨d, .binOp .neq t x y ty', ty, pos, af, none⟩ env σ K :=
 ZcP hx hy (fun w _ _ => by simp [Zef, eqGuard_at_map, run_neq_map_nil w t _ _ _ ht]) h
theorem Zml {p q : Nat} {m : Nat} {cp cq : Array Value} {tp tq : TypeId} (ht : P.underlying t = some (.pointer (P.pointee t))) (hs : ZaU P (P.pointee t) = some (m + 1)) (w : World) (hp : w.heap[p]? = some (.cells cp tp (0, 0))) (hq : w.heap[q]? = some (.cells cq tq (0, 0))) : (Op.equal t (.pointer (some ⟨p, 0, none⟩)) (.pointer (some ⟨q, 0, none⟩))).run P w = .ok (decide (p = q)) w := by
 have hsame : (sameAddr ⟨p, 0, none⟩ ⟨q, 0, none⟩).run P w = .ok (decide (p = q)) w := by
  by_cases hpq : p = q
  ·subst hpq
   rw [decide_eq_true rfl]
   exact run_sameAddr_same _ _
  ·rw [decide_eq_false hpq]
   exact run_sameAddr_other _ (fun h => hpq (by injection h)) hp hq
 show (Op.equalIn (9999 + 1) t (.pointer (some ⟨p, 0, none⟩)) (.pointer (some ⟨q, 0, none⟩))).run P w = _
 unfold Op.equalIn
 simp [run_underlying ht, ZbH hs, hsame]
theorem ZpQ {p q m : Nat} {tp tq : TypeId} {cp cq : List AV} {l : List Oper} (ht : P.underlying t = some (.pointer (P.pointee t))) (hs : ZaU P (P.pointee t) = some (m + 1)) (hx : ev env x = ptr p 0) (hy : ev env y = ptr q 0) (hp : σ.blk p = some (.own tp cp)) (hq : σ.blk q = some (.own tq cq)) (h : Zbz P ops l (env.put d (.raw (.bool (decide (p = q))))) σ K) : Zbz P ops (⟨d, .binOp .eql t x y ty', ty, pos, af, none⟩ :: l) env σ K := by
 refine .inr (.inr (.inr ⟨rfl, fun ρ hρ w Z hH hV => ⟨.raw (.bool (decide (p = q))), σ, w, .inl ?_, h, hH, Zbe _, .refl _ _⟩⟩))
 obtain ⟨_, hp2, _⟩ := hH.own _ _ _ hp
 obtain ⟨_, hq2, _⟩ := hH.own _ _ _ hq
 have hρ' := hρ
 simp [Op.operands, hx, hy, ptr] at hρ'
 simp only [execOp, hρ'.1, hρ'.2]
 simp [eqGuard_at_pointer, binOp, Zml ht hs w hp2 hq2]
theorem Zfu {A : Option Addr} {n c l u sz : Nat} {e : TypeId} {lo hi : Option Operand} {ix : List AV} (hx : ev env x = .raw (.slice A n c)) (hix : (lo.toList ++ hi.toList).map (ev env) = ix) (ht : ZaW P t = some e) (hs : ZaU P e = some sz) (he : Zcs n c lo.isSome hi.isSome false ix l u c) (hlu : l <= u) (huc : u <= c)
 (h : K (env.put d (.raw (.slice (if c = l then A else A.map (·.add (l * sz))) (u - l) (c - l)))) σ) : aOp P ops ⟨d, .slice t x lo hi none, ty, pos, af, none⟩ env σ K := by
 have hvs : (Op.slice t x lo hi none).operands.toList.map (ev env) = .raw (.slice A n c) :: ix := by
  rw [<- hix, <- hx]
  cases lo <;> cases hi <;> simp [Op.operands]
 refine Zdu (vs := .raw (.slice A n c) :: ix) rfl hvs (fun σ K h => h) (fun ρ hρ w B _ => ?_) h
 have h0 : ρ x = .slice A n c /\ (lo.toArray ++ hi.toArray ++ (none : Option Operand).toArray).toList.map ρ = ix.map AV.val := by
  cases lo <;> cases hi <;> simp [Op.operands] at hρ ⊢ <;> exact hρ
 have hr := ZgL (P := P) (w := w) (A := A) (mx := none) ht hs h0.2 he hlu huc (Nat.le_refl _)
 simp only [execOp, h0.1]
 rw [Sem.run_bind, hr]
 rfl
theorem ZnX {f : FuncId} {caps : Array Operand} {vs : List AV} (hv : caps.toList.map (ev env) = vs) (h : K (env.put d (.raw (.func (.func f) #[] (vs.map AV.val).toArray))) σ) : aOp P ops ⟨d, .makeFunc (.func f) #[] caps, ty, pos, af, none⟩ env σ K := by
 refine Zdu (vs := vs) rfl (by simpa [Op.operands] using hv) (fun σ K h => .inl h) (fun ρ hρ w B _ => ?_) h
 have hc : caps.map ρ = (vs.map AV.val).toArray := by
  apply Array.ext'
  simp [Op.operands] at hρ
  simpa using hρ
 simp [execOp, Instr.makeFunc, hc]
theorem ZjK {g : FuncId} {f : Operand} {caps : Array Value} {as_ : Array Operand} {ts : Array TypeId} {vs : List AV} (hf : ev env f = .raw (.func (.func g) #[] caps)) (hv : as_.toList.map (ev env) = vs) (h : Zan P g (vs ++ caps.toList.map .raw) σ fun r σ' => K (env.put d r) σ') : aOp P ops ⟨d, .call ⟨.value f, as_, ts⟩, ty, pos, af, none⟩ env σ K := by
 rw [ZaT rfl]
 have : (Op.call ⟨.value f, as_, ts⟩).operands.toList.map (ev env) = .raw (.func (.func g) #[] caps) :: vs := by rw [<- hv, <- hf]; simp [Op.operands, Call.operands]
 show Zc6 P _ ((Op.call ⟨.value f, as_, ts⟩).operands.toList.map (ev env)) σ _
 rw [this]
 exact ⟨g, #[], caps, rfl, h⟩
theorem Zmm {g : FuncId} {f : Operand} {fst caps : Array Value} {as_ : Array Operand} {ts : Array TypeId} {vs : List AV} (hf : ev env f = .raw (.func (.func g) fst caps)) (hv : as_.toList.map (ev env) = vs) (h : Zan P g (fst.toList.map .raw ++ vs ++ caps.toList.map .raw) σ fun r σ' => K (env.put d r) σ') : aOp P ops ⟨d, .call ⟨.value f, as_, ts⟩, ty, pos, af, none⟩ env σ K := by
 rw [ZaT rfl]
 have : (Op.call ⟨.value f, as_, ts⟩).operands.toList.map (ev env) = .raw (.func (.func g) fst caps) :: vs := by rw [<- hv, <- hf]; simp [Op.operands, Call.operands]
 show Zc6 P _ ((Op.call ⟨.value f, as_, ts⟩).operands.toList.map (ev env)) σ _
 rw [this]
 exact ⟨g, fst, caps, rfl, h⟩
theorem Zcw {f : FuncId} {fst caps : Array Operand} {us vs : List AV} (hu : fst.toList.map (ev env) = us) (hv : caps.toList.map (ev env) = vs) (h : K (env.put d (.raw (.func (.func f) (us.map AV.val).toArray (vs.map AV.val).toArray))) σ) : aOp P ops ⟨d, .makeFunc (.func f) fst caps, ty, pos, af, none⟩ env σ K := by
 refine Zdu (vs := us ++ vs) rfl (by simp [Op.operands, hu, hv]) (fun σ K h => .inl h) (fun ρ hρ w B _ => ?_) h
 simp [Op.operands] at hρ
 have hl : fst.toList.map ρ = us.map AV.val /\ caps.toList.map ρ = vs.map AV.val := by
  have hlen : (fst.toList.map ρ).length = (us.map AV.val).length := by rw [List.length_map, List.length_map, <- hu, List.length_map]
  exact List.append_inj (by simpa using hρ) hlen
 have hf : fst.map ρ = (us.map AV.val).toArray := by
  apply Array.ext'
  simpa using hl.1
 have hc : caps.map ρ = (vs.map AV.val).toArray := by
  apply Array.ext'
  simpa using hl.2
 simp [execOp, Instr.makeFunc, hf, hc]
theorem ZnY {e sz n c lo b : Nat} {cells : List AV} {zv : Value} (hx : ev env x = .raw (.slice (if c = lo then some ⟨b, 0, none⟩ else some ⟨b, lo * sz, none⟩) (n - lo) (c - lo))) (ht : ZaW P t = some e) (hz : Zba P e = some zv) (hzs : zv.cells.size = sz) (hsz : 0 < sz) (hz1 : ∀ i, i < sz -> (AV.ofV (zv.cells[i]!)).one = true)
 (hown : Hd σ e sz (hdr b n c) n cells) (hc : 0 < c) (hlo : lo <= n) (h : ∀ τ, Hd τ e sz (hdr b lo c) lo (cells.take (lo * sz)) -> But (fun g => g = b) σ τ -> K (env.put d (.raw (.tuple #[]))) τ) : aOp P ops ⟨d, .call ⟨.builtin .clear, #[x], #[t]⟩, ty, pos, af, none⟩ env σ K := by
 obtain ⟨c', all, q0, g1, g2, g3, g4, g5, g6⟩ := hown.at_ (ZcD hc)
 unfold hdr at q0
 injection q0 with q0
 injection q0 with _ _ q0
 subst q0
 rw [ZaT rfl]
 have hvs : ((.call ⟨.builtin .clear, #[x], #[t]⟩ : Op).operands.toList.map (ev env)) = [.raw (.slice (if c = lo then some ⟨b, 0, none⟩ else some ⟨b, lo * sz, none⟩) (n - lo) (c - lo))] := by simp [Op.operands, Call.operands, hx]
 show Zc6 P _ (Op.operands _ |>.toList.map (ev env)) σ _
 rw [hvs]
 refine .inr ⟨rfl, fun ρv hρ w Z hH hV => ?_⟩
 have hρ' := hρ
 simp [Op.operands, Call.operands] at hρ'
 have hv := Zfp zv (n - lo) (by omega)
 rw [hzs] at hv
 have hm1 : n * sz <= c * sz := Nat.mul_le_mul_right _ g5
 have hm2 : lo * sz <= n * sz := Nat.mul_le_mul_right _ hlo
 have hlen : ((List.replicate (n - lo) ((List.range sz).map fun i => AV.ofV (zv.cells[i % sz]!))).flatten).length = (n - lo) * sz := by rw [Zga, List.length_map, List.length_range]
 obtain ⟨ad, had⟩ : ∃ ad : Addr, (if c = lo then some (⟨b, 0, none⟩ : Addr) else some ⟨b, lo * sz, none⟩) = some ad := by
  split <;> exact ⟨_, rfl⟩
 have had2 : 0 < n - lo -> ad = ⟨b, lo * sz, none⟩ := fun h0 => by
  rw [if_neg (by omega)] at had
  injection had with had
  exact had.symm
 obtain ⟨w', r1, r2, r3⟩ := clear_ (P := P) (t := t) (ty := ty) (lo := lo) (n := n - lo) (c := c - lo) (ad := ad) hH ht hz hzs hsz g1 (by rw [show lo + (n - lo) = n by omega]; omega) had2 hv (fun a ha => by
  obtain ⟨q, hq, hal⟩ := List.mem_flatten.1 ha
  have hq := (List.mem_replicate.1 hq).2
  subst hq
  obtain ⟨j, hj, rfl⟩ := List.mem_map.1 hal
  rw [Nat.mod_eq_of_lt (List.mem_range.1 hj)]
  exact hz1 j (List.mem_range.1 hj)) (fun a ha => by
  obtain ⟨q, hq, hal⟩ := List.mem_flatten.1 ha
  have hq := (List.mem_replicate.1 hq).2
  subst hq
  obtain ⟨j, _, rfl⟩ := List.mem_map.1 hal
  exact Zdc _)
 generalize (List.replicate (n - lo) ((List.range sz).map fun i => AV.ofV (zv.cells[i % sz]!))).flatten = zs at hlen r2 r3
 have hmn : (n - lo) * sz = n * sz - lo * sz := by rw [Nat.sub_mul]
 rw [had] at hρ'
 refine ⟨.raw (.tuple #[]), σ.set b (.own e (ZaR all (lo * sz) zs)), w', .inl ?_, h _ ⟨?_, fun a ha => hown.one a (List.mem_of_mem_take ha), .inr ⟨b, c, _, hc, rfl, by show (if b = b then _ else σ.blk b) = _; rw [if_pos rfl], g2, ?_, ?_, by omega, g6⟩⟩ ⟨fun g k hg hk => ?_, fun g hg => hg⟩, r2, Zbe _, r3⟩
 ·simp [execOp, resolve, invoke, builtin, hρ', r1]
 ·rw [List.length_take, hown.len]
  omega
 ·unfold ZaR
  simp only [List.length_append, List.length_take, List.length_drop, hlen]
  omega
 ·unfold ZaR
  rw [List.append_assoc, List.take_append_of_le_length (by rw [List.length_take]; omega), List.take_take, Nat.min_self, <- g4, List.take_take, Nat.min_eq_left hm2]
 ·show (if g = b then _ else σ.blk g) = _
  rw [if_neg hg]
  exact hk
theorem Zko {e sz n b o : Nat} {v r : AV} {cells : List AV} (hx : ev env x = ptr b o) (hy : ev env y = r) (hs : ZaU P t = some 1) (hown : Hd σ e sz v n cells) (hb : hbk v = some b) (ho : o < n * sz) (h1 : Zbh r = true /\ r.cells = [r] /\ r.one = true)
 (h : ∀ τ, Hd τ e sz v n (cells.set o r) -> But (fun c => hbk v = some c) σ τ -> K (env.put d (.raw undef)) τ) : aOp P ops ⟨d, .store t x y, ty, pos, af, none⟩ env σ K := by
 obtain ⟨c, all, rfl, g1, g2, g3, g4, g5, g6⟩ := hown.at_ hb
 have q2 : n * sz <= c * sz := Nat.mul_le_mul_right _ g5
 have hsp : ZaR all o [r] = all.set o r := by
  unfold ZaR
  rw [List.set_eq_take_append_cons_drop, if_pos (by omega)]
  simp
 refine ZaB (cs' := all.set o r) hx hy g1 hs ?_ (by rw [h1.2.1, hsp]) fun τ k1 k2 => h τ ⟨by rw [List.length_set]; exact hown.len, fun a ha => ?_, .inr ⟨b, c, _, ?_, rfl, k1, k2.used _ g2, by rw [List.length_set]; exact g3, ?_, g5, g6⟩⟩ ⟨fun c' k hc hk => k2.keep _ _ (fun e => hc (by rw [e]; exact hb)) hk, k2.used⟩
 ·simp [h1.1, h1.2.1, h1.2.2]; omega
 ·rcases List.mem_or_eq_of_mem_set ha with ha | rfl
  ·exact hown.one a ha
  ·exact h1.2.2
 ·cases c with
  | zero => cases hb
  | succ c => omega
 ·rw [List.take_set, g4]
end
section
variable {P : Program} {ops : Array Oper} {env : Env} {σ τ : St} {K : Env -> St -> Prop} {d : Option Nat} {ty ty' t : TypeId} {pos : String} {af : Array Edge} {x y z : Operand}
theorem ZnZ {a c : List UInt8} (ht : P.underlying t = some .string) (hx : ev env x = .raw (.string ⟨a.toArray⟩)) (hy : ev env y = .raw (.string ⟨c.toArray⟩)) (h : K (env.put d (.raw (.bool (decide (a ≠ c))))) σ) : aOp P ops ⟨d, .binOp .neq t x y ty', ty, pos, af, none⟩ env σ K :=
 ZcP hx hy (fun w _ _ => by
  rw [AV.val_raw, AV.val_raw, eqGuard_at_string, pure_bind]
  simp only [binOp_string_neq, Zl6, ZnI]
  by_cases hac : a = c <;> simp [hac]) h
variable {d1 d2 d3 d4 : Nat} {ty1 ty2 ty3 ty4 : TypeId} {p1 p2 p3 p4 : String} {a1 a2 a3 a4 : Array Edge} {l : List Oper} {T T' : TypeId} {f off m : Nat} {g0 : Option Bool} {stl : List (Nat × Option Nat × Option Bool)}
theorem Zem {b : Nat} {cs : List AV} {r : AV} (hx : ev env x = ptr b 0) (hst : Za3 P T = some stl) (hf : stl[f]? = some (off, some (m + 1), g0)) (hb : σ.blk b = some (.own T' cs)) (hr : cs[off]? = some r) (ha : ZdB P t = some false) (hn : ZaU P t = some 1)
 (h : ∀ u1 u2 u3, Zbz P ops l ((((env.put (some d1) u1).put (some d2) u2).put (some d3) u3).put (some d4) r) σ K) :
 Zbz P ops (⟨some d1, .move x, ty1, p1, a1, none⟩ :: ⟨some d2, .nilCheck (.tmp d1), ty2, p2, a2, none⟩ :: ⟨some d3, .fieldAddr T (.tmp d2) f, ty3, p3, a3, none⟩ :: ⟨some d4, .load t (.tmp d3), ty4, p4, a4, none⟩ :: l) env σ K :=
 Zac (Zcb rfl hx (Zac (Zav (v := ptr b 0) (by simp only [EV]; rfl) rfl (Zac (Zae (b := b) (o := 0) (by simp only [EV]; rfl) hst hf (Zac (Zah (b := b) (o := 0 + off) (r := r) (by simp only [EV]; rfl) hb ha hn (by rw [Nat.zero_add]; exact hr) (h _ _ _))))))))
theorem ZdP {b : Nat} (hx : ev env x = ptr b 0) (hst : Za3 P T = some stl) (hf : stl[f]? = some (off, some (m + 1), g0))
 (h : ∀ u1, Zbz P ops l ((env.put (some d1) u1).put (some d2) (ptr b (0 + off))) σ K) :
 Zbz P ops (⟨some d1, .nilCheck x, ty1, p1, a1, none⟩ :: ⟨some d2, .fieldAddr T (.tmp d1) f, ty2, p2, a2, none⟩ :: l) env σ K :=
 Zac (Zav (v := ptr b 0) hx rfl (Zac (Zae (b := b) (o := 0) (by simp only [EV]; rfl) hst hf (h _))))
theorem Zn0 {e sz : TypeId} {zv : Value} {lt : TypeId} (ht : ZaW P lt = some e) (hs : ZaU P e = some sz) (hz : Zba P e = some zv) (hzs : zv.cells.size = sz) (h : ∀ ad τ, Ext σ τ -> Zbz P ops l (env.put d (.raw (.slice (some ad) 0 0))) τ K) : Zbz P ops (⟨d, .buildSlice lt 0 #[], ty, pos, af, none⟩ :: l) env σ K :=
 .inr (.inl ⟨rfl, lt, 0, #[], e, sz, zv, [], rfl, ht, hs, hz, hzs, by omega, by simp [Zcz, Op.operands], fun b hu hb => h ⟨b, 0, none⟩ _ (Ext.put _ hb)⟩)
theorem Zrk {e sz : Nat} (ad : Addr) : Hd σ e sz (.raw (.slice (some ad) 0 0)) 0 [] := ⟨by simp, by simp, .inl ⟨.inr ⟨ad, rfl⟩, rfl⟩⟩
end
end Go.Proofs.YtiienjjhlibopaaGreatDoor
