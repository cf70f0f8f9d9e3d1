/- Clones: as arrays all of which is elements; of arrays of ours. -/
import Derived.Test.YtinpiaibhjmfaaaFz
import Derived.Test.YtinpiaibhjmfaaaTw
namespace Go.Proofs.Ytinpiaibhjmfaaa
open Go.RowKit
set_option linter.unusedSimpArgs false
set_option maxRecDepth 100000
set_option linter.unusedVariables false
set_option linter.unusedSectionVars false
variable {T : Nat -> Type}
section
variable {C : Zav T} {P : Program} {N N' : Nat} {ρ ρ' : Nat -> AV} {h : List (HI T)} {σ τ : St} {U U0 : Nat -> Prop}
theorem Zau.retype {f : FuncId} {args : List AV} {e : TypeId} {Q : AV -> St -> Prop} (hc : Zau P f args σ fun r τ => ∃ b, ¬ σ.used b /\ σ.blk b = none /\ τ = σ.put b (.tail e 0 0) /\ (∀ w B, Zaf w B r) /\ Q r (σ.put b (.own e []))) : Zau P f args σ Q := by
 intro w Z hH hV
 refine (hc w Z hH hV).mono ?_
 rintro y w' ⟨r, τ, rfl, ⟨b, hu, hn, rfl, hval, hq⟩, hH', _, hG⟩
 have hub : (σ.put b (.tail e 0 0)).used b := .inr rfl
 have hge : ¬ b < w.heap.size := fun hl => hu (hG.used b hl hub)
 have hfree : ∀ Z b' o, (σ.put b (.tail e 0 0)).free Z b' o -> (σ.put b (.own e [])).free Z b' o := by
  intro Z b' o ⟨h1, h2, h3⟩
  refine ⟨h1, h2, ?_⟩
  by_cases hb : b' = b
  ·subst hb; rw [ZaE] at h3; exact absurd h3 (Nat.not_lt_zero _)
  ·rw [Zal _ _ hb] at h3 ⊢; exact h3
 refine ⟨r, _, rfl, hq, ⟨hH'.used, fun b' hz => ?_, fun b' t cs hb => ?_, fun b' t k s hb => ?_, fun b' es hb => ?_⟩, hval _ _, ⟨hG.os, hG.tape, hG.output, hG.size, hG.used, fun b' hl hn' => ⟨(hG.rest b' hl hn').1, ?_⟩, fun b' t k s hl ht => ⟨(hG.tail b' t k s hl ht).1, ?_⟩, hG.more⟩⟩
 ·obtain ⟨h1, h2⟩ := hH'.z b' hz
  have hb : b' ≠ b := fun e => by subst e; rw [ZaE] at h2; cases h2
  rw [Zal _ _ hb] at h2
  exact ⟨h1, by rw [Zal _ _ hb]; exact h2⟩
 ·by_cases hbb : b' = b
  ·subst hbb
   rw [ZaE] at hb
   injection hb with hb
   injection hb with q1 q2
   subst q1 q2
   obtain ⟨_, cs, q3, q4, _⟩ := hH'.tail b' _ _ _ (ZaE _ _ _)
   have : cs = #[] := Array.eq_empty_of_size_eq_zero q4
   subst this
   exact ⟨.inr rfl, q3, fun c hc => by cases hc⟩
  ·rw [Zal _ _ hbb] at hb
   obtain ⟨q1, q2, q3⟩ := hH'.own b' t cs (by rw [Zal _ _ hbb]; exact hb)
   exact ⟨q1, q2, fun c hc => (q3 c hc).sub (hfree Z)⟩
 ·have hbb : b' ≠ b := fun e => by subst e; rw [ZaE] at hb; injection hb with hb; cases hb
  rw [Zal _ _ hbb] at hb
  exact hH'.tail b' t k s (by rw [Zal _ _ hbb]; exact hb)
 ·have hbb : b' ≠ b := fun e => by subst e; rw [ZaE] at hb; injection hb with hb; cases hb
  rw [Zal _ _ hbb] at hb
  exact hH'.map b' es (by rw [Zal _ _ hbb]; exact hb)
 ·rw [Zal _ _ (fun e => hge (by omega))]; exact hn'
 ·exact .inr ⟨t, k, s, by rw [Zal _ _ (fun e => hge (by omega))]; exact ht, Nat.le_refl _⟩
theorem Zpp {f : FuncId} {fn : Func} {t e t' t0 t1 tb t2 t3 t4 t5 t6 : TypeId} {p0 p1 p2 p3 p4 p5 p6 p7 : String} {a0 a1 a2 a3 a4 a5 a6 a7 : Array Edge} {i0 i1 i2 i3 : Nat} {zv : Value} {sz by_ E : Nat}
 (hm : P.follows .mixedOrders = true) (hf : P.funcs[f]? = some fn) (hok : Zsz P fn 1 = true) (hr : fn.results = #[.tmp 2])
 (hb : fn.body = some (.seq (.region i0 #[⟨some 2, .assign (.const (.slice none 0 0)), t0, p0, a0, none⟩] false) (.seq (.seq (.region i1 #[⟨some 3, .move (.tmp 0), t1, p1, a1, none⟩, ⟨some 4, .binOp .eql t (.tmp 3) (.const (.slice none 0 0)) t', tb, p2, a2, none⟩] false) (.cond (.tmp 4) (.seq (.region i2 #[⟨some 2, .assign (.const (.slice none 0 0)), t2, p3, a3, none⟩] false) .ret) .skip)) (.seq (.region i3 #[⟨some 5, .buildSlice t 0 #[], t3, p4, a4, none⟩, ⟨some 6, .move (.tmp 0), t4, p5, a5, none⟩, ⟨some 7, .call ⟨.builtin .append, #[.tmp 5, .tmp 6], #[t, t]⟩, t5, p6, a6, none⟩, ⟨some 2, .assign (.tmp 7), t6, p7, a7, none⟩] false) .ret))))
 (he : Zaw P t = some e) (hsz : Zax P e = some sz) (hz : ZaN P e = some zv) (hby : Zb5 P e = some by_) (hzs : zv.cells.size = sz) (hE : sz = C.sz E)
 {zt : T E} (xs : List (T E)) (hzt : ZkI C E sz zv some = some zt) (hroom : xs.length <= 140737488355328 /\ xs.length * by_ <= 140737488355328) : Tr C P (fun _ => True) f [.sl E xs none] [] (.as E 0 0 xs.length none) [.arr e E true xs] := by
 by_cases h0 : xs.length ≠ 0
 ·exact Zpn hm hf hok hr hb he hsz hz hby hzs hE xs xs hzt hE.symm rfl (fun _ _ _ h => h) h0 hroom
 have hx : xs = [] := List.eq_nil_of_length_eq_zero (by omega)
 subst hx
 intro ρ σ vs hs H
 obtain ⟨a, rfl, h3⟩ := Zc8.1 hs
 obtain ⟨A, c, cs, rest, rfl, l1, l2, l3, l4, l5⟩ := ZcC.1 h3
 have hok' := hok
 unfold Zsz at hok
 rw [hb] at hok
 simp only [Bool.and_eq_true] at hok
 obtain ⟨⟨o1, o2⟩, o3⟩ := hok
 have hpos := C.pos E
 have hres : fn.results.toList = [.tmp 2] := by rw [hr]
 cases A with
 | none =>
  refine ZaA hm hf hb o2 o1 (Nat.le_of_ble_eq_true o3) ?_
  refine Zaa (Zab (Zdn rfl (Zah ?_)))
  refine Zac (Zaa (Zab (ZiW rfl (Zab (ZjC he rfl rfl (Zah ?_))))))
  refine ZaX rfl (fun hA => ?_) (fun hA => by cases hA)
  refine Zac (Zaa (Zab (Zdn rfl (Zah (ZhV ?_)))))
  refine ZjB hres (ZeA rfl) ?_
  obtain ⟨g1, g2⟩ := H.newNil (U := fun _ => True) e E true
  exact ⟨_, Zbn.2 (.inr ⟨rfl, rfl, by simp, Zat _ _ _, fun c' hc => by cases hc⟩), g1, g2⟩
 | some ad =>
  refine Zau.retype (e := e) ?_
  refine ZaA hm hf hb o2 o1 (Nat.le_of_ble_eq_true o3) ?_
  refine Zaa (Zab (Zdn rfl (Zah ?_)))
  refine Zac (Zaa (Zab (ZiW rfl (Zab (ZjC he rfl rfl (Zah ?_))))))
  refine ZaX rfl (fun hA => by cases hA) (fun hA => ?_)
  refine Zbb (Zaa (Zab (ZeW (vs := []) (cells := []) rfl he hsz hz hzs (by omega) (by simp [ZcG]) fun b hu hn => ?_)))
  refine Zab (ZiW rfl ?_)
  refine Zab ?_
  rw [ZaH rfl]
  change ZcE P _ [AV.lst (some ⟨b, 0, none⟩) 0 0 [], AV.lst (some ad) 0 c (cs ++ rest)] _ _
  refine Zdq fun w Z hH hV1 hV2 => ?_
  have hty := ZaF he
  obtain ⟨ii, hii, hsi⟩ := Zgs hsz
  have hf1 := run_firstCells_some (P := P) w ii.size 0 ad 0 c [] (by simp) (fun j u hu => by simp at hu)
  refine ⟨.raw (.slice (some ⟨b, 0, none⟩) 0 0), _, w, ?_, ?_, hH, Zak _, Grow.refl _ _⟩
  ·simp [Builtin.append_, run_underlying hty, sizeOf, typeInfo, hii, Builtin.lenOf, hf1, storeCells]
  ·refine Zab (Zdn rfl (Zah (ZaW ?_)))
   refine ZjB hres (ZeA rfl) ?_
   have hz0 : (0 : Nat) * sz = 0 := Nat.zero_mul _
   rw [hz0]
   obtain ⟨g1, g2⟩ := H.newArr (U := fun _ => True) true hu hn e (E := E) (K := 0) (xs := []) (pre := []) (rest := []) (fun _ _ => .none) (by simp) (by unfold maxLen; omega) (fun _ => ⟨[], fun _ _ => .none⟩)
   exact ⟨b, hu, hn, rfl, fun w B => Zak _, _, Zbn.2 (.inl ⟨⟨b, 0, none⟩, 0, rfl, by simp, Nat.le_refl _, by unfold maxLen; omega, by simp, ⟨b, Zat _ _ _, fun h => absurd h (Nat.lt_irrefl _)⟩, fun c' hc => by cases hc⟩), g1, g2⟩
theorem Hp.kp0 {e E : Nat} {kp kp' : Bool} {xs : List (T E)} (H : Hp C ρ [.arr e E kp xs] σ) : Hp C ρ [.arr e E kp' xs] σ := ⟨fun i x hx => (by
 match i, hx with
 | 0, hx =>
  injection hx with hx
  subst hx
  have := H.it 0 (.arr e E kp xs) rfl
  exact this), fun i j x y b hx hy _ _ _ _ => (by
 match i, j, hx, hy with
 | 0, 0, _, _ => rfl)⟩
theorem Tr.kp0 {f : FuncId} {args : List (XV T)} {r : XV T} {e E : Nat} {kp kp' : Bool} {xs : List (T E)} (h : Tr C P U f args [] r [.arr e E kp xs]) : Tr C P U f args [] r [.arr e E kp' xs] := by
 intro ρ σ vs hs H
 refine (h ρ σ vs hs H).mono ?_
 rintro rv τ ⟨ρ', g1, g2, g3⟩
 refine ⟨ρ', g1, g2.kp0, ⟨by simp, g3.ext, g3.but, fun b ⟨i, x, hx, ax, bx⟩ => ?_⟩⟩
 match i, hx with
 | 0, hx => exact g3.born b ⟨0, _, rfl, rfl, bx⟩
noncomputable def ZiQ (σ τ : St) (g : Nat) : St := ⟨fun b => match σ.blk b with
 | some k => some k
 | none => if b = g then τ.blk b else none, τ.used, by
 obtain ⟨n, hn⟩ := σ.fin
 obtain ⟨m, hm⟩ := τ.fin
 refine ⟨n + m, fun b hb => ⟨(hm b (by omega)).1, ?_⟩⟩
 rw [(hn b (by omega)).2]
 dsimp only
 split
 ·exact (hm b (by omega)).2
 ·rfl⟩
theorem Zil {σ τ : St} {g b : Nat} {k : Bk} (h : σ.blk b = some k) : (ZiQ σ τ g).blk b = some k := by unfold ZiQ; dsimp only; rw [h]
theorem Zg3 {σ τ : St} {g : Nat} (h : σ.blk g = none) : (ZiQ σ τ g).blk g = τ.blk g := by unfold ZiQ; dsimp only; rw [h]; simp
theorem ZgC {σ τ : St} {g b : Nat} (h : σ.blk b = none) (hb : b ≠ g) : (ZiQ σ τ g).blk b = none := by unfold ZiQ; dsimp only; rw [h]; simp [hb]
end
end Go.Proofs.Ytinpiaibhjmfaaa
