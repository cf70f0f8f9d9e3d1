/- Clones: as arrays all of which is elements; of arrays of ours. -/
import Derived.Test.YtlmmpfbdgiokmaaGreatFz
import Derived.Test.YtlmmpfbdgiokmaaGreatTw
namespace Go.Proofs.YtlmmpfbdgiokmaaGreat
open Go.RowKit
set_option linter.unusedSimpArgs false
set_option maxRecDepth 100000
set_option linter.unusedVariables false
set_option linter.unusedSectionVars false
variable {T : Nat -> Type}
section
variable {C : Zau T} {P : Program} {N N' : Nat} {ρ ρ' : Nat -> AV} {h : List (HI T)} {σ τ : St} {U U0 : Nat -> Prop}
theorem ZaC.retype {f : FuncId} {args : List AV} {e : TypeId} {Q : AV -> St -> Prop} (hc : ZaC P f args σ fun r τ => ∃ b, ¬ σ.used b /\ σ.blk b = none /\ τ = σ.put b (.tail e 0 0) /\ (∀ w B, Zag w B r) /\ Q r (σ.put b (.own e []))) : ZaC P f args σ Q := by
 intro w Z hH hV
 refine (hc w Z hH hV).mono ?_
 rintro y w' ⟨r, τ, rfl, ⟨b, hu, hn, rfl, hval, hq⟩, hH', _, hG⟩
 have hub : (σ.put b (.tail e 0 0)).used b := .inr rfl
 have hge : ¬ b < w.heap.size := fun hl => hu (hG.used b hl hub)
 have hfree : ∀ Z b' o, (σ.put b (.tail e 0 0)).free Z b' o -> (σ.put b (.own e [])).free Z b' o := by
  intro Z b' o ⟨h1, h2, h3⟩
  refine ⟨h1, h2, ?_⟩
  by_cases hb : b' = b
  ·subst hb; rw [ZaT] at h3; exact absurd h3 (Nat.not_lt_zero _)
  ·rw [Zal _ _ hb] at h3 ⊢; exact h3
 refine ⟨r, _, rfl, hq, ⟨hH'.used, fun b' hz => ?_, fun b' t cs hb => ?_, fun b' t k s hb => ?_, fun b' es hb => ?_⟩, hval _ _, ⟨hG.os, hG.tape, hG.output, hG.size, hG.used, fun b' hl hn' => ⟨(hG.rest b' hl hn').1, ?_⟩, fun b' t k s hl ht => ⟨(hG.tail b' t k s hl ht).1, ?_⟩, hG.more⟩⟩
 ·obtain ⟨h1, h2⟩ := hH'.z b' hz
  have hb : b' ≠ b := fun e => by subst e; rw [ZaT] at h2; cases h2
  rw [Zal _ _ hb] at h2
  exact ⟨h1, by rw [Zal _ _ hb]; exact h2⟩
 ·by_cases hbb : b' = b
  ·subst hbb
   rw [ZaT] at hb
   injection hb with hb
   injection hb with q1 q2
   subst q1 q2
   obtain ⟨_, cs, q3, q4, _⟩ := hH'.tail b' _ _ _ (ZaT _ _ _)
   have : cs = #[] := Array.eq_empty_of_size_eq_zero q4
   subst this
   exact ⟨.inr rfl, q3, fun c hc => by cases hc⟩
  ·rw [Zal _ _ hbb] at hb
   obtain ⟨q1, q2, q3⟩ := hH'.own b' t cs (by rw [Zal _ _ hbb]; exact hb)
   exact ⟨q1, q2, fun c hc => (q3 c hc).sub (hfree Z)⟩
 ·have hbb : b' ≠ b := fun e => by subst e; rw [ZaT] at hb; injection hb with hb; cases hb
  rw [Zal _ _ hbb] at hb
  exact hH'.tail b' t k s (by rw [Zal _ _ hbb]; exact hb)
 ·have hbb : b' ≠ b := fun e => by subst e; rw [ZaT] at hb; injection hb with hb; cases hb
  rw [Zal _ _ hbb] at hb
  exact hH'.map b' es (by rw [Zal _ _ hbb]; exact hb)
 ·rw [Zal _ _ (fun e => hge (by omega))]; exact hn'
 ·exact .inr ⟨t, k, s, by rw [Zal _ _ (fun e => hge (by omega))]; exact ht, Nat.le_refl _⟩
theorem ZrF {f : FuncId} {fn : Func} {t e t' t0 t1 tb t2 t3 t4 t5 t6 : TypeId} {p0 p1 p2 p3 p4 p5 p6 p7 : String} {a0 a1 a2 a3 a4 a5 a6 a7 : Array Edge} {i0 i1 i2 i3 : Nat} {zv : Value} {sz by_ E : Nat}
 (hm : P.follows .mixedOrders = true) (hf : P.funcs[f]? = some fn) (hok : ZyK P fn 1 = true) (hr : fn.results = #[.tmp 2])
 (hb : fn.body = some (.seq (.region i0 #[⟨some 2, .assign (.const (.slice none 0 0)), t0, p0, a0, none⟩] false) (.seq (.seq (.region i1 #[⟨some 3, .move (.tmp 0), t1, p1, a1, none⟩, ⟨some 4, .binOp .eql t (.tmp 3) (.const (.slice none 0 0)) t', tb, p2, a2, none⟩] false) (.cond (.tmp 4) (.seq (.region i2 #[⟨some 2, .assign (.const (.slice none 0 0)), t2, p3, a3, none⟩] false) .ret) .skip)) (.seq (.region i3 #[⟨some 5, .buildSlice t 0 #[], t3, p4, a4, none⟩, ⟨some 6, .move (.tmp 0), t4, p5, a5, none⟩, ⟨some 7, .call ⟨.builtin .append, #[.tmp 5, .tmp 6], #[t, t]⟩, t5, p6, a6, none⟩, ⟨some 2, .assign (.tmp 7), t6, p7, a7, none⟩] false) .ret))))
 (he : ZaB P t = some e) (hsz : Zaw P e = some sz) (hz : Zbt P e = some zv) (hby : ZdE P e = some by_) (hzs : zv.cells.size = sz) (hE : sz = C.sz E)
 {zt : T E} (xs : List (T E)) (hzt : Zrh C E sz zv some = some zt) (hroom : xs.length <= 140737488355328 /\ xs.length * by_ <= 140737488355328) : Tr C P (fun _ => True) f [.sl E xs none] [] (.as E 0 0 xs.length none) [.arr e E true xs] := by
 by_cases h0 : xs.length ≠ 0
 ·exact Zxd hm hf hok hr hb he hsz hz hby hzs hE xs xs hzt hE.symm rfl (fun _ _ _ h => h) h0 hroom
 have hx : xs = [] := List.eq_nil_of_length_eq_zero (by omega)
 subst hx
 intro ρ σ vs hs H
 obtain ⟨a, rfl, h3⟩ := ZgU.1 hs
 obtain ⟨A, c, cs, rest, rfl, l1, l2, l3, l4, l5⟩ := ZfO.1 h3
 have hok' := hok
 unfold ZyK at hok
 rw [hb] at hok
 simp only [Bool.and_eq_true] at hok
 obtain ⟨⟨o1, o2⟩, o3⟩ := hok
 have hpos := C.pos E
 have hres : fn.results.toList = [.tmp 2] := by rw [hr]
 cases A with
 | none =>
  refine ZaR hm hf hb o2 o1 (Nat.le_of_ble_eq_true o3) ?_
  refine Zah (Zaa (Zas rfl (ZaD ?_)))
  refine Zcb (Zah (Zaa (Za0 rfl (Zaa (Znn he rfl rfl (ZaD ?_))))))
  refine ZgQ rfl (fun hA => ?_) (fun hA => by cases hA)
  refine Zcb (Zah (Zaa (Zas rfl (ZaD (ZBW ?_)))))
  refine Zlq hres (Zlp rfl) ?_
  obtain ⟨g1, g2⟩ := H.newNil (U := fun _ => True) e E true
  exact ⟨_, Zbz.2 (.inr ⟨rfl, rfl, by simp, Zar _ _ _, fun c' hc => by cases hc⟩), g1, g2⟩
 | some ad =>
  refine ZaC.retype (e := e) ?_
  refine ZaR hm hf hb o2 o1 (Nat.le_of_ble_eq_true o3) ?_
  refine Zah (Zaa (Zas rfl (ZaD ?_)))
  refine Zcb (Zah (Zaa (Za0 rfl (Zaa (Znn he rfl rfl (ZaD ?_))))))
  refine ZgQ rfl (fun hA => by cases hA) (fun hA => ?_)
  refine Zhv (Zah (Zaa (Zhu (vs := []) (cells := []) rfl he hsz hz hzs (by omega) (by simp [Zfg]) fun b hu hn => ?_)))
  refine Zaa (Za0 rfl ?_)
  refine Zaa ?_
  rw [Zcf rfl]
  change ZgJ P _ [AV.lst (some ⟨b, 0, none⟩) 0 0 [], AV.lst (some ad) 0 c (cs ++ rest)] _ _
  refine Zhy fun w Z hH hV1 hV2 => ?_
  have hty := ZaQ he
  obtain ⟨ii, hii, hsi⟩ := Zme hsz
  have hf1 := run_firstCells_some (P := P) w ii.size 0 ad 0 c [] (by simp) (fun j u hu => by simp at hu)
  refine ⟨.raw (.slice (some ⟨b, 0, none⟩) 0 0), _, w, ?_, ?_, hH, ZaE _, Grow.refl _ _⟩
  ·simp [Builtin.append_, run_underlying hty, sizeOf, typeInfo, hii, Builtin.lenOf, hf1, storeCells]
  ·refine Zaa (Zas rfl (ZaD (ZdD ?_)))
   refine Zlq hres (Zlp rfl) ?_
   have hz0 : (0 : Nat) * sz = 0 := Nat.zero_mul _
   rw [hz0]
   obtain ⟨g1, g2⟩ := H.newArr (U := fun _ => True) true hu hn e (E := E) (K := 0) (xs := []) (pre := []) (rest := []) (fun _ _ => .none) (by simp) (by unfold maxLen; omega) (fun _ => ⟨[], fun _ _ => .none⟩)
   exact ⟨b, hu, hn, rfl, fun w B => ZaE _, _, Zbz.2 (.inl ⟨⟨b, 0, none⟩, 0, rfl, by simp, Nat.le_refl _, by unfold maxLen; omega, by simp, ⟨b, Zar _ _ _, fun h => absurd h (Nat.lt_irrefl _)⟩, fun c' hc => by cases hc⟩), g1, g2⟩
theorem Hp.kp0 {e E : Nat} {kp kp' : Bool} {xs : List (T E)} (H : Hp C ρ [.arr e E kp xs] σ) : Hp C ρ [.arr e E kp' xs] σ := ⟨fun i x hx => (by
 match i, hx with
 | 0, hx =>
  injection hx with hx
  subst hx
  have := H.it 0 (.arr e E kp xs) rfl
  exact this), fun i j x y b hx hy _ _ _ _ => (by
 match i, j, hx, hy with
 | 0, 0, _, _ => rfl)⟩
theorem Tr.kp0 {f : FuncId} {args : List (XV T)} {r : XV T} {e E : Nat} {kp kp' : Bool} {xs : List (T E)} (h : Tr C P U f args [] r [.arr e E kp xs]) : Tr C P U f args [] r [.arr e E kp' xs] := by
 intro ρ σ vs hs H
 refine (h ρ σ vs hs H).mono ?_
 rintro rv τ ⟨ρ', g1, g2, g3⟩
 refine ⟨ρ', g1, g2.kp0, ⟨by simp, g3.ext, g3.but, fun b ⟨i, x, hx, ax, bx⟩ => ?_⟩⟩
 match i, hx with
 | 0, hx => exact g3.born b ⟨0, _, rfl, rfl, bx⟩
theorem ZtA {E lo n : Nat} {co : Option Nat} {e : TypeId} {kp : Bool} {xs : List (T E)} (h : lo + n <= xs.length) : ([XV.as E 0 lo n co] : List (XV T)).all (Zoi [.arr e E kp xs]) = true := by
 simp [Zoi, Ztz, h]
theorem Zqk {l : List (XV T)} {as_ : List AV} (hf : l.all XV.scal = true) (hs : SVs C N ρ l as_) : ∀ a ∈ as_, ∀ w B, Zag w B a := fun a ha w B => (Zqi (N' := N) (ρ' := ρ) hf hs).2 w B a ha
theorem Zql {E : Nat} (hE : ∀ x : T E, (C.enc E x).all XV.scal = true) (xs : List (T E)) : (xs.flatMap (C.enc E)).all XV.scal = true := by
 rw [List.all_eq_true]
 intro v hv
 obtain ⟨x, _, hx⟩ := List.mem_flatMap.1 hv
 exact List.all_eq_true.1 (hE x) v hx
noncomputable def Zmn (σ τ : St) (g : Nat) : St := ⟨fun b => match σ.blk b with
 | some k => some k
 | none => if b = g then τ.blk b else none, τ.used, by
 obtain ⟨n, hn⟩ := σ.fin
 obtain ⟨m, hm⟩ := τ.fin
 refine ⟨n + m, fun b hb => ⟨(hm b (by omega)).1, ?_⟩⟩
 rw [(hn b (by omega)).2]
 dsimp only
 split
 ·exact (hm b (by omega)).2
 ·rfl⟩
theorem Zmo {σ τ : St} {g b : Nat} {k : Bk} (h : σ.blk b = some k) : (Zmn σ τ g).blk b = some k := by unfold Zmn; dsimp only; rw [h]
theorem Zj2 {σ τ : St} {g : Nat} (h : σ.blk g = none) : (Zmn σ τ g).blk g = τ.blk g := by unfold Zmn; dsimp only; rw [h]; simp
theorem ZlA {σ τ : St} {g b : Nat} (h : σ.blk b = none) (hb : b ≠ g) : (Zmn σ τ g).blk b = none := by unfold Zmn; dsimp only; rw [h]; simp [hb]
theorem ZlB (H : Hp C ρ h σ) {w w' : World} {Z : Nat -> Prop} (hH : Zap w σ Z) {g : Nat} (hH' : Zap w' τ Z) (hG : Grow w (Zgu ρ h σ) w' τ) (hbut : ∀ b k, ¬ Zqj ρ h b -> σ.blk b = some k -> τ.blk b = some k) (hused : ∀ b, σ.used b -> τ.used b)
 (hgu : ¬ σ.used g) (hgn : σ.blk g = none) (hflat : ∀ t cs, τ.blk g = some (.own t cs) -> ∀ c ∈ cs, ∀ w B, Zag w B c) : Zap w' (Zmn σ τ g) Z /\ Grow w σ w' (Zmn σ τ g) /\ Ext σ (Zmn σ τ g) := by
 have hnarr : ∀ b t k s, σ.blk b = some (.tail t k s) -> ¬ Zqj ρ h b := fun b t k s hb hg => by
  obtain ⟨e, cs, q, _⟩ := Znt H hg
  rw [hb] at q; cases q
 have hge : τ.used g -> ¬ g < w.heap.size := fun hu hl => hgu (hG.used g hl hu)
 have hG2 : Grow w σ w' (Zmn σ τ g) := by
  refine ⟨hG.os, hG.tape, hG.output, hG.size, hG.used, fun b hb hn => ?_, fun b t k s hb ht => ⟨(hG.tail b t k s hb (by rw [Zfk (hnarr _ _ _ _ ht)]; exact ht)).1, .inr ⟨t, k, s, Zmo ht, Nat.le_refl _⟩⟩, hused⟩
  have hl : (Zgu ρ h σ).blk b = none := by
   by_cases hg : Zqj ρ h b
   ·exact Zj1 hg
   ·rw [Zfk hg]; exact hn
  obtain ⟨q1, q2⟩ := hG.rest b hb hl
  refine ⟨q1, ?_⟩
  by_cases hbg : b = g
  ·subst hbg; rw [Zj2 hn]; exact q2
  ·exact ZlA hn hbg
 refine ⟨⟨hH'.used, fun b hz => ⟨(hH'.z b hz).1, ?_⟩, fun b t cs hb => ?_, fun b t k s hb => ?_, fun b es hb => ?_⟩, hG2, ⟨fun b k hk => Zmo hk, hused⟩⟩
 ·have hn := (hH.z b hz).2
  by_cases hbg : b = g
  ·subst hbg; rw [Zj2 hn]; exact (hH'.z b hz).2
  ·exact ZlA hn hbg
 ·cases hs : σ.blk b with
  | some k =>
   rw [Zmo hs] at hb
   injection hb with hb
   subst hb
   obtain ⟨g1, g2, g3⟩ := hH.own _ _ _ hs
   refine ⟨hused _ g1, ?_, fun c hc => hG2.valid (g3 c hc)⟩
   by_cases hg : Zqj ρ h b
   ·exact (hG.rest b (hH.used _ g1) (Zj1 hg)).1.trans g2
   ·exact (hH'.own _ _ _ (hbut b _ hg hs)).2.1
  | none =>
   by_cases hbg : b = g
   ·subst hbg
    rw [Zj2 hs] at hb
    obtain ⟨g1, g2, _⟩ := hH'.own _ _ _ hb
    exact ⟨g1, g2, fun c hc => hflat _ _ hb c hc _ _⟩
   ·rw [ZlA hs hbg] at hb; cases hb
 ·cases hs : σ.blk b with
  | some k' =>
   rw [Zmo hs] at hb
   injection hb with hb
   subst hb
   obtain ⟨g1, g2⟩ := hH'.tail _ _ _ _ (hbut b _ (hnarr _ _ _ _ hs) hs)
   exact ⟨hused _ (hH.tail _ _ _ _ hs).1, g2⟩
  | none =>
   by_cases hbg : b = g
   ·subst hbg
    rw [Zj2 hs] at hb
    exact hH'.tail _ _ _ _ hb
   ·rw [ZlA hs hbg] at hb; cases hb
 ·cases hs : σ.blk b with
  | some k' =>
   rw [Zmo hs] at hb
   injection hb with hb
   subst hb
   have hna : ¬ Zqj ρ h b := fun hg => by
    obtain ⟨e, cs, q, _⟩ := Znt H hg
    rw [hs] at q; cases q
   obtain ⟨g1, g2⟩ := hH'.map _ _ (hbut b _ hna hs)
   exact ⟨hused _ (hH.map _ _ hs).1, g2⟩
  | none =>
   by_cases hbg : b = g
   ·subst hbg
    rw [Zj2 hs] at hb
    exact hH'.map _ _ hb
   ·rw [ZlA hs hbg] at hb; cases hb
theorem Tr.lendRow {f : FuncId} {args : List (XV T)} {E e sz : Nat} {xs : List (T E)} (hE : ∀ x : T E, (C.enc E x).all XV.scal = true) (hsz : sz = C.sz E) (h1 : Tr C P U0 f (args.map (Zxe h)) [] (.sl E xs (some 0)) [.row e sz]) (hok : args.all (Zoi h) = true) : Tr C P U f args h (.sl E xs (some h.length)) (h ++ [.row e sz]) := by
 intro ρ σ vs hs H w Z hH hV
 obtain ⟨bs, e1, e2, e3⟩ := Zok H hH hok hs hV
 have H0 : Hp C ρ ([] : List (HI T)) (Zgu ρ h σ) := ⟨fun i x hx => by simp at hx, fun i j x y b hx => by simp at hx⟩
 have hc := h1 ρ (Zgu ρ h σ) bs e2 H0 w Z (Zxf H hH) e3
 rw [e1] at hc
 refine hc.mono ?_
 rintro y w' ⟨rv, τ, rfl, ⟨ρ', hrv, H', R⟩, hH', hval, hG⟩
 obtain ⟨q1, q2, q3⟩ := Zgt.1 hrv
 subst q1
 obtain ⟨n, cells, ho⟩ := H'.it 0 _ rfl
 obtain ⟨A, c, cs, rest, q4, l1, l2, l3, l4, l5⟩ := ZfO.1 q3
 have hbut : ∀ b k, ¬ Zqj ρ h b -> σ.blk b = some k -> τ.blk b = some k := fun b k hb hk => R.but.keep b k (fun ⟨i, x, _, hx, _⟩ => by simp at hx) (by rw [Zfk hb]; exact hk)
 have hcs : ∀ a ∈ cs, ∀ w B, Zag w B a := Zqk (Zql hE xs) l5
 have hnew : ∀ g, (ρ' 0).owns g -> σ.blk g = none /\ ¬ σ.used g := fun g hg => by
  rcases R.born g ⟨0, _, rfl, rfl, hg⟩ with ⟨i, x, hx, _⟩ | ⟨h1, h2⟩
  ·simp at hx
  ·refine ⟨?_, h2⟩
   by_cases ha : Zqj ρ h g
   ·obtain ⟨e, cs, _, q⟩ := Znt H ha
    exact absurd q h2
   ·rw [Zfk ha] at h1; exact h1
 rcases ho.2 with ⟨hnil, hn0⟩ | ⟨g, c', hform, k1, k2, k3, k4⟩
 ·-- nothing
  obtain ⟨g1, hg1⟩ := σ.fin
  obtain ⟨g2, hg2⟩ := τ.fin
  have hx : xs = [] := by
   rw [hnil] at q4
   injection q4 with _ q5 _ _
   exact List.eq_nil_of_length_eq_zero q5.symm
  subst hx
  obtain ⟨p1, p2, p3⟩ := ZlB H hH (g := g1 + g2) hH' hG hbut R.but.used (hg1 _ (by omega)).1 (hg1 _ (by omega)).2 (fun t cs hq => by rw [(hg2 _ (by omega)).2] at hq; cases hq)
  have hO : Own (Zmn σ τ (g1 + g2)) e sz (.lst none 0 0 []) 0 [] := ⟨by simp, .inl ⟨rfl, rfl⟩⟩
  obtain ⟨r1, r2⟩ := H.newRow (U := U) p3 hO (fun g hg => by cases hg)
  refine ⟨_, _, rfl, ⟨_, Zgt.2 ⟨?_, by simp, ?_⟩, r1, r2⟩, p1, ?_, p2⟩
  ·rw [Zar]; exact hnil
  ·rw [hnil]; exact Zrn (xs := ([] : List (T E))) hO (Nat.zero_le _) .none
  ·rw [hnil]; exact Zd8
 ·have hn := hnew g (by rw [hform]; rfl)
  rw [hform] at q4
  injection q4 with _ q5 _ q6
  subst q5
  have hcl := l5.len
  rw [Zc2] at hcl
  have hl := ho.1
  rw [q6, List.length_append, hcl, hsz] at hl
  have hr : rest = [] := List.eq_nil_of_length_eq_zero (by omega)
  subst hr
  rw [List.append_nil] at q6
  subst q6
  obtain ⟨p1, p2, p3⟩ := ZlB H hH (g := g) hH' hG hbut R.but.used hn.2 hn.1 (fun t cs hq => by rw [k3] at hq; injection hq with hq; cases hq)
  have hO : Own (Zmn σ τ g) e sz (ρ' 0) xs.length cells := ⟨ho.1, .inr ⟨g, c', hform, k1, k2, (Zj2 hn.1).trans k3, k4⟩⟩
  obtain ⟨r1, r2⟩ := H.newRow (U := U) p3 hO (fun g' hg => hnew g' hg)
  refine ⟨_, _, rfl, ⟨_, Zgt.2 ⟨(Zar _ _ _).symm, by simp, Zrn hO l3 (l5.shut (ZcC xs))⟩, r1, r2⟩, p1, ?_, p2⟩
  rw [hform] at hval ⊢
  unfold Zag at hval ⊢
  refine ⟨hval.1, fun hA => (by cases hA), fun ad had => ?_⟩
  have hva := hval.2.2 ad had
  injection had with had
  subst had
  refine Zaz.mk fun i d hd => ?_
  obtain ⟨v1, v2, _⟩ := hva.get hd
  refine ⟨v1, ?_, hcs d (List.mem_of_getElem? hd) _ _⟩
  obtain ⟨f1, f2, f3⟩ := v2
  exact ⟨f1, f2, by rw [Zj2 hn.1]; exact f3⟩
theorem Tr.lendArr {f : FuncId} {args : List (XV T)} {E e lo n : Nat} {co : Option Nat} {kp : Bool} {xs : List (T E)} (hE : ∀ x : T E, (C.enc E x).all XV.scal = true) (h1 : Tr C P U0 f (args.map (Zxe h)) [] (.as E 0 lo n co) [.arr e E kp xs]) (hok : args.all (Zoi h) = true) (hfu : C.full E = true) : Tr C P U f args h (.as E h.length lo n co) (h ++ [.arr e E kp xs]) := by
 intro ρ σ vs hs H w Z hH hV
 obtain ⟨bs, e1, e2, e3⟩ := Zok H hH hok hs hV
 have H0 : Hp C ρ ([] : List (HI T)) (Zgu ρ h σ) := ⟨fun i x hx => by simp at hx, fun i j x y b hx => by simp at hx⟩
 have hc := h1 ρ (Zgu ρ h σ) bs e2 H0 w Z (Zxf H hH) e3
 rw [e1] at hc
 refine hc.mono ?_
 rintro y w' ⟨rv, τ, rfl, ⟨ρ', hrv, H', R⟩, hH', hval, hG⟩
 have hbut : ∀ b k, ¬ Zqj ρ h b -> σ.blk b = some k -> τ.blk b = some k := fun b k hb hk => R.but.keep b k (fun ⟨i, x, _, hx, _⟩ => by simp at hx) (by rw [Zfk hb]; exact hk)
 have hnew : ∀ g, (ρ' 0).owns g -> σ.blk g = none /\ ¬ σ.used g := fun g hg => by
  rcases R.born g ⟨0, _, rfl, rfl, hg⟩ with ⟨i, x, hx, _⟩ | ⟨h1, h2⟩
  ·simp at hx
  ·refine ⟨?_, h2⟩
   by_cases ha : Zqj ρ h g
   ·obtain ⟨e, cs, _, q⟩ := Znt H ha
    exact absurd q h2
   ·rw [Zfk ha] at h1; exact h1
 rcases H'.it 0 _ rfl with ⟨g, K, pre, rest, k1, k2, k3, k4, k5, k6, k7⟩ | ⟨k1, k2⟩
 ·have hn := hnew g (by rw [k1]; rfl)
  obtain ⟨zs, hzs⟩ := k7 hfu
  have hflat : ∀ c ∈ pre ++ rest, ∀ w B, Zag w B c := fun c hc w B => by
   rcases List.mem_append.1 hc with hc | hc
   ·exact Zqk (Zql hE xs) (k4 0 ρ) c hc w B
   ·exact Zqk (Zql hE zs) (hzs 0 ρ) c hc w B
  obtain ⟨p1, p2, p3⟩ := ZlB H hH (g := g) hH' hG hbut R.but.used hn.2 hn.1 (fun t cs hq => by
   rw [k2] at hq
   injection hq with hq
   injection hq with _ hq
   subst hq
   exact hflat)
  obtain ⟨r1, r2⟩ := H.newArr (U := U) kp hn.2 hn.1 e (E := E) (K := K) (xs := xs) (pre := pre) (rest := rest) k4 k5 k6 k7
  have hX : Ext (σ.put g (.own e (pre ++ rest))) (Zmn σ τ g) := ⟨fun b k hk => by
   by_cases hb : b = g
   ·subst hb
    rw [ZaT] at hk
    rw [Zj2 hn.1, k2]; exact hk
   ·rw [Zal _ _ hb] at hk
    exact Zmo hk, fun b hb => by
   rcases hb with hb | rfl
   ·exact R.but.used _ hb
   ·exact k3⟩
  refine ⟨rv, _, rfl, ⟨_, ?_, r1.toExt hX, ⟨r2.len, r2.ext, p3.but, r2.born⟩⟩, p1, ?_, p2⟩
  ·rcases Zbz.1 hrv with ⟨ad, c, rfl, hA⟩ | ⟨rfl, hn0, hi, hρ, hco⟩
   ·obtain ⟨b, q1, q2⟩ := hA.at_
    rw [k1] at q1
    obtain ⟨hb1, hb2⟩ := Zwt q1
    exact Zbz.2 (.inl ⟨ad, c, rfl, by simp, hA.le, hA.max, hA.len, ⟨b, by rw [Zar, hb1, hb2], q2⟩, hA.cap⟩)
   ·rw [k1] at hρ; cases hρ
  ·rcases Zbz.1 hrv with ⟨ad, c, rfl, hA⟩ | ⟨rfl, hn0, hi, hρ, hco⟩
   ·exact ZaE _
   ·exact Zd8
 ·subst k2
  obtain ⟨g1, hg1⟩ := σ.fin
  obtain ⟨g2, hg2⟩ := τ.fin
  obtain ⟨p1, p2, p3⟩ := ZlB H hH (g := g1 + g2) hH' hG hbut R.but.used (hg1 _ (by omega)).1 (hg1 _ (by omega)).2 (fun t cs hq => by rw [(hg2 _ (by omega)).2] at hq; cases hq)
  obtain ⟨r1, r2⟩ := H.newNil (U := U) e E kp
  rcases Zbz.1 hrv with ⟨ad, c, rfl, hA⟩ | ⟨rfl, hn0, hi, hρ, hco⟩
  ·obtain ⟨b, q1, q2⟩ := hA.at_
   rw [k1] at q1; cases q1
  ·refine ⟨_, _, rfl, ⟨_, Zbz.2 (.inr ⟨rfl, hn0, by simp, Zar _ _ _, hco⟩), r1.toExt p3, ⟨r2.len, r2.ext, p3.but, r2.born⟩⟩, p1, Zd8, p2⟩
end
end Go.Proofs.YtlmmpfbdgiokmaaGreat
