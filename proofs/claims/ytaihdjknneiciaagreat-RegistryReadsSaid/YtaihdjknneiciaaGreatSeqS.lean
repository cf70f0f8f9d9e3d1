/- slices.AppendSeq over what slices.Values tells, at texts: a walk. -/
import Derived.RangeFuncBox
import Derived.RangeFuncLeaves
import Derived.Shelf.Abstract
import Derived.WalkKit
import Derived.OwnWalkIn
import Derived.TacticsInMore
import Derived.LoopNIn
import Derived.LoopIn
import Derived.Maps.AppendAt
import Derived.Test.YtaihdjknneiciaaGreatChecked
namespace Go.Proofs.YtaihdjknneiciaaGreat.SeqS
open Go.RowKit Go.Shelf
set_option linter.unusedSimpArgs false
set_option linter.unusedVariables false
attribute [local go_sem] Oper.semAt_some
def tx (s : List UInt8) : Value := .string ⟨s.toArray⟩
theorem ZvW (ad : Addr) (k : Nat) : (ad.add k).block = ad.block := by unfold Addr.add; split <;> rfl
def Zxv {α : Type} (f : Nat -> α) (k : Nat) : List α := (List.range k).map f
theorem ZvX {α : Type} (f : Nat -> α) (k : Nat) : Zxv f (k + 1) = Zxv f k ++ [f k] := by simp [Zxv, List.range_succ]
theorem Zxw {α : Type} (f : Nat -> α) (k : Nat) : (Zxv f k).length = k := by simp [Zxv]
theorem ZCi (zs : List (List UInt8)) : Zxv (fun j => zs[j]?.getD []) zs.length = zs := by
 apply List.ext_getElem
 ·simp [Zxv]
 ·intro i h1 h2
  simp [Zxv, h2]
theorem ZA6 (zs : List (List UInt8)) {k : Nat} (hk : k <= zs.length) : Zxv (fun j => zs[j]?.getD []) k = zs.take k := by
 apply List.ext_getElem
 ·simp [Zxv, hk]
 ·intro i h1 h2
  have : i < zs.length := by simp [Zxv] at h1; omega
  simp [Zxv, this]
set_option maxRecDepth 100000 in
set_option maxHeartbeats 2000000 in
theorem ZzF (F : Fence) (n : Nat) (h7 : F.fn 268) (hro : F.round = none) (hn : 1 <= n) (l Bs n₀ len cap : Nat) (ad : Addr) (zs : List (List UInt8)) (hreach : len <= 140737488355328) (hb : 0 < len -> ad.block < n₀) (J Jx : List (List UInt8) -> World -> Prop)
 (hY : ∀ pre x W, J pre W -> pre.length < len -> YieldAt F (n - 1) Tryz.prog l #[tx x] W fun e W' =>
  (e = .returned (.bool true) /\ J (pre ++ [x]) W' /\ Below n₀ W W') \/ (e = .returned (.bool false) /\ Jx (pre ++ [x]) W'))
 (W : World) (hBs : W.cell? ⟨Bs, 0, none⟩ = some (.slice (some ad) len cap)) (hc : ∀ j, j < len -> W.cell? (ad.add j) = some (tx (zs[j]?.getD []))) (h0 : J [] W) :
 CallsIn F n Tryz.prog 268 #[.func (.yield l) #[] #[], .pointer (some ⟨Bs, 0, none⟩)] W fun e W' => (∃ v, e = .returned v) /\
  ((∃ ys, ys = Zxv (fun j => zs[j]?.getD []) len /\ J ys W') \/ (∃ pre, (∃ k, k <= len /\ pre = Zxv (fun j => zs[j]?.getD []) k) /\ Jx pre W')) := by
 refine callsIn_of_wp Tryz.func268 rfl h7 ?_ hro
 simp only [Tryz.ntmps268, List.size_toArray, List.length_cons, List.length_nil, Nat.reduceAdd, Nat.reduceSub, Array.replicate_succ, Array.replicate_zero, List.push_toArray, List.append_toArray, List.nil_append, List.cons_append]
 gi_wp2
 gi_loopw [7] (fun i wr => ∃ k : Nat, k <= len /\ i = .int .i64 k /\ J (Zxv (fun j => zs[j]?.getD []) k) wr /\ Below n₀ W wr)
  (fun i _ => len - (intOf i).toNat)
 case atStart => exact ⟨0, Nat.zero_le _, rfl, h0, Below.refl _ _⟩
 case round =>
  obtain ⟨k, hk, rfl, hJs, hnx⟩ := hrel
  have hcx : k < len -> wr.cell? (ad.add k) = some (tx (zs[k]?.getD [])) := fun h => (hnx.cell (p := ad.add k) (by rw [ZvW]; exact hb (by omega))).trans (hc k h)
  by_cases hlt : k < len
  ·obtain ⟨fn, tmps, assign, body, hy, hR⟩ := hY _ (zs[k]?.getD []) wr hJs (by rw [Zxw]; exact hlt)
   have hcx' := hcx hlt
   gi_wp2
   refine hR.mono ?_
   rintro e W3 (⟨rfl, hJ3, hk3⟩ | ⟨rfl, hJx3⟩)
   ·gi_wp2
    go_roundw
    case rel => exact ⟨k + 1, by omega, by simp, by rw [ZvX]; exact hJ3, hnx.trans hk3⟩
    case measure => simp [intOf]; omega
   ·gi_wp2
    refine bodyPost_ret (results_none rfl _ _ _) rfl ?_
    exact ⟨⟨_, rfl⟩, .inr ⟨_, ⟨k + 1, by omega, (ZvX _ _).symm⟩, hJx3⟩⟩
  ·obtain rfl : k = len := by omega
   gi_wp2
   go_end0
   exact ⟨⟨_, rfl⟩, .inl ⟨_, rfl, hJs⟩⟩
set_option maxRecDepth 100000 in
set_option maxHeartbeats 1000000 in
theorem ZsH (F : Fence) (n : Nat) (h7 : F.fn 268) (hro : F.round = none) (l Bs : Nat) (J : List (List UInt8) -> World -> Prop) (W : World) (hBs : W.cell? ⟨Bs, 0, none⟩ = some (.slice none 0 0)) (h0 : J [] W) :
 CallsIn F n Tryz.prog 268 #[.func (.yield l) #[] #[], .pointer (some ⟨Bs, 0, none⟩)] W fun e W' => (∃ v, e = .returned v) /\ J [] W' := by
 refine callsIn_of_wp Tryz.func268 rfl h7 ?_ hro
 simp only [Tryz.ntmps268, List.size_toArray, List.length_cons, List.length_nil, Nat.reduceAdd, Nat.reduceSub, Array.replicate_succ, Array.replicate_zero, List.push_toArray, List.append_toArray, List.nil_append, List.cons_append]
 gi_wp2
 gi_loopw [7] (fun i wr => i = .int .i64 0 /\ J [] wr) (fun _ _ => 0)
 case atStart => exact ⟨rfl, h0⟩
 case round =>
  obtain ⟨rfl, hJs⟩ := hrel
  gi_wp2
  go_end0
  exact ⟨⟨_, rfl⟩, hJs⟩
def Texts (n₀ : Nat) (W : World) (sv : Value) (zs : List (List UInt8)) : Prop :=
 (sv = .slice none 0 0 /\ zs = []) \/ ∃ (ad : Addr) (cap : Nat), sv = .slice (some ad) zs.length cap /\ (zs ≠ [] -> ad.block < n₀) /\ ∀ j, j < zs.length -> W.cell? (ad.add j) = some (tx (zs[j]?.getD []))
theorem Texts.below {n₀ : Nat} {A B : World} (h : Below n₀ A B) {sv : Value} {zs : List (List UInt8)} : Texts n₀ A sv zs -> Texts n₀ B sv zs
 | .inl e => .inl e
 | .inr ⟨ad, cap, e, hb, hc⟩ => .inr ⟨ad, cap, e, hb, fun j hj => (h.cell (p := ad.add j) (by rw [ZvW]; exact hb (by rintro rfl; exact absurd hj (Nat.not_lt_zero j)))).trans (hc j hj)⟩
theorem ZvY (F : Fence) (n : Nat) (h7 : F.fn 268) (hro : F.round = none) (hn : 1 <= n) (Bs n₀ : Nat) (sv : Value) (zs : List (List UInt8)) (hreach : zs.length <= 140737488355328) (w : World) (hBs : Bs < w.heap.size) (hn₀ : n₀ <= w.heap.size)
 (hc : w.cell? ⟨Bs, 0, none⟩ = some sv) (hI : Texts n₀ w sv zs) :
 SeqStopsK F n Tryz.prog 268 #[.pointer (some ⟨Bs, 0, none⟩)] (fun x : List UInt8 => #[tx x]) (Below n₀) (fun ys => ys = zs) (fun pre => pre <+: zs) zs.length w := fun l J Jx W hW _ _ hY h0 => by
 have hc' := (hW.cell (p := ⟨Bs, 0, none⟩) hBs).trans hc
 rcases hI.below (hW.mono hn₀) with ⟨rfl, rfl⟩ | ⟨ad, cap, rfl, hb, hcs⟩
 ·exact (ZsH F n h7 hro l Bs J W hc' h0).mono fun e W' ⟨he, hj⟩ => ⟨he, .inl ⟨_, rfl, hj⟩⟩
 ·refine (ZzF F n h7 hro hn l Bs n₀ zs.length cap ad zs hreach (fun h => hb (by rintro rfl; exact absurd h (Nat.lt_irrefl 0))) J Jx hY W hc' hcs h0).mono ?_
  rintro e W' ⟨he, ⟨ys, rfl, hj⟩ | ⟨pre, ⟨k, hk, rfl⟩, hj⟩⟩
  ·exact ⟨he, .inl ⟨_, ZCi zs, hj⟩⟩
  ·exact ⟨he, .inr ⟨_, by rw [ZA6 zs hk]; exact List.take_prefix _ _, hj⟩⟩
theorem ZGn : (Tryz.prog.info? 9).map (fun i => (i.zero, i.size, i.bytes)) = some (some (.string ⟨#[]⟩), 1, 16) := by kernel_rfl
set_option maxRecDepth 100000 in
set_option maxHeartbeats 2000000 in
theorem appendSeq_in (F : Fence) (n : Nat) (h4 : F.fn 269) (h5 : F.fn 268) (hro : F.round = none) (hn : 3 <= n) (Bs : Nat) (sv : Value) (zs : List (List UInt8)) (hlen : zs.length <= 8796093022208) (w : World) (hBs : Bs < w.heap.size) (hcs : w.cell? ⟨Bs, 0, none⟩ = some sv) (hI : Texts w.heap.size w sv zs) :
 CallsIn F n Tryz.prog 269 #[.slice none 0 0, .func (.func 268) #[] #[.pointer (some ⟨Bs, 0, none⟩)]] w fun e W' => ∃ v, e = .returned v /\ W'.ownsRow w.heap.size 9 1 v zs.length (zs.map tx) /\ (v = .slice none 0 0 ↔ zs = []) /\ Below w.heap.size w W' := by
 have h1 : 1 <= n := by omega
 have hml : zs.length <= maxLen := by unfold maxLen; omega
 obtain ⟨i0, hi, hz0, hz1, hz2⟩ := info_parts ZGn
 refine callsIn_of_wp_marks Tryz.func269 rfl h4 ?_ hro
 simp only [Tryz.ntmps269, List.size_toArray, List.length_cons, List.length_nil, Nat.reduceAdd, Nat.reduceSub, Array.replicate_succ, Array.replicate_zero, List.push_toArray, List.append_toArray, List.nil_append, List.cons_append]
 gi_wp2
 have bO := Boxed.new w 84 (.slice none 0 0)
 have hB0 : Below w.heap.size w (w.alloc (.cells #[.slice none 0 0] 84)) := (Below.refl _ w).alloc (Nat.le_refl _) _
 refine wpIn_rangeFunc_ownG hro h1 (gf := 268) (lb := #[.pointer (some ⟨Bs, 0, none⟩)]) rfl h5 (enters_of Tryz.func268 (by kernel_rfl) rfl)
  (ZvY F (n - 1) h5 hro (by omega) Bs w.heap.size sv zs (by omega) _ (by simp; omega) (by simp) ((hB0.cell (p := ⟨Bs, 0, none⟩) hBs).trans hcs) (hI.below hB0)) belowK_t (belowK_b (by simp)) (Below.refl _ _) (fun _ => rfl)
  (fun pre W => (∃ v, Boxed W w.heap.size 84 v /\ W.ownsRow w.heap.size 9 1 v pre.length (pre.map tx) /\ (v = .slice none 0 0 ↔ pre = [])) /\ Below w.heap.size w W)
  (fun _ _ _ => False)
  (OwnFrom.and (Own.from (holdsRow_own w.heap.size w.heap.size 84 9 1 (fun pre : List (List UInt8) => pre.length) (fun pre => pre.map tx) (fun pre v => v = .slice none 0 0 ↔ pre = [])) _) (ownFrom_below (Nat.le_refl _) (by simp)))
  (fun _ _ _ _ _ hs _ _ => hs)
  ⟨⟨_, bO, World.ownsRow_nil _ _ _ _, by simp⟩, hB0⟩
  (fun x => { tmps := #[.slice none 0 0, .func (.func 268) #[] #[.pointer (some ⟨Bs, 0, none⟩)], .pointer (some ⟨w.heap.size, 0, none⟩), undef, .slice none 0 0, tx x, .func (.func 268) #[] #[.pointer (some ⟨Bs, 0, none⟩)], tx x, undef, undef, undef, undef, undef], defers := [] }) ?assign ?body ?done ?stop
 case assign =>
  intro l x W K hK
  gi_wp2
  exact hK
 case body =>
  rintro l pre x W ⟨⟨v, hv, hrow, hnil⟩, hB⟩ hlt
  have hc := hv.cell
  gi_wp2_with (gi_at_builtin; refine wpListIn_append_own _ rfl _ _ 84 rfl w.heap.size 9 i0 (.string ⟨#[]⟩) 1 16 Tryz.underlying84 hi hz0 hz1 hz2 rfl (by decide) _ _ _ rfl (hrow.alloc _) ⟨W.heap.size, 0, none⟩ 1 1 [tx x] rfl rfl (cell_one_new _ _ _) (by simp [Value.oneCell', tx]) (by omega) (by omega) (by have := hB.size; simp; omega) ?_; intro v' w1 hown' hgrow _; obtain ⟨g', cap', rfl⟩ := ownsRow_succ hown'; obtain ⟨hv1, hv2, hr2, hk2, hb2⟩ := hv.appended (by decide) hrow hB.size (Nat.le_refl _) hown' hgrow; have hc1 := hv1.cell; have hf1 := hv1.frozen)
  all_goals first | exact ⟨hk2.from _, hb2, ⟨_, hv2, by simpa using hr2, by simp⟩, hB.trans hb2⟩ | (exfalso; have hno : ¬ ((decide ¬ (#[tx x] : Array Value).size = 1) = true \/ 1 < (#[tx x] : Array Value).size) := (by simp); exact hno ‹_›)
 case done =>
  rintro D ys W hD rfl ⟨⟨v, hv, hrow, hnil⟩, hB⟩ hK
  have hc := hv.cell
  gi_wp2
  refine ⟨by simp, .inl ⟨_, _, rfl, run_takeDeferred hK, ?_⟩⟩
  exact ⟨_, results_tmp rfl _ _ _, v, rfl, ownsRow_putObj hrow _ hK rfl, hnil, hB.trans (belowK_b (w := w) (Nat.le_refl _) W D _ _ (by simp at hD; omega) hK rfl rfl)⟩
 case stop =>
  rintro D c pre W _ _ h _
  exact h.elim
end Go.Proofs.YtaihdjknneiciaaGreat.SeqS
