/- A list that is told becomes an array of ours, or an array a list; slices.Clone, as an array. -/
import Derived.Test.YtlmmpfbdgiokmaaGreatX16
namespace Go.Proofs.YtlmmpfbdgiokmaaGreat
open Go.RowKit
set_option linter.unusedSimpArgs false
set_option maxRecDepth 100000
set_option linter.unusedVariables false
variable {T : Nat -> Type}
section
variable {C : Zau T} {P : Program}
theorem ZaC.thaw {f : FuncId} {args : List AV} {σ : St} {e sz n : Nat} {cs : List AV} (hcs : ∀ w Z, Zap w σ Z -> (∀ a ∈ args, Zag w (σ.free Z) a) -> ∀ a ∈ cs, Zag w (σ.free Z) a) (hl : cs.length = n * sz)
 (h : ZaC P f args σ fun rv τ => ∃ b c, rv = .lst (some ⟨b, 0, none⟩) n c cs /\ n <= c /\ c <= maxLen /\ τ.blk b = some (.tail e (n * sz) (c * sz)) /\ Ext σ τ /\ σ.blk b = none /\ ¬ σ.used b) :
 ZaC P f args σ fun rv τ => ∃ b c rest, rv = .raw (.slice (some ⟨b, 0, none⟩) n c) /\ n <= c /\ c <= maxLen /\ τ = σ.put b (.own e (cs ++ rest)) /\ (cs ++ rest).length = c * sz /\ σ.blk b = none /\ ¬ σ.used b := by
 refine fun w Z hH hV => (h w Z hH hV).mono ?_
 rintro x w' ⟨r, τ, rfl, ⟨b, c, rfl, hnc, hcm, hb, hX, f1, f2⟩, hH', hV', hG⟩
 obtain ⟨hub, cur, hcur, hcz, hk⟩ := hH'.tail _ _ _ _ hb
 have hbl : b < w'.heap.size := (Array.getElem?_eq_some_iff.1 hcur).1
 have hbw : w.heap.size <= b := by
  rcases Nat.lt_or_ge b w.heap.size with hlt | hge
  ·exact absurd (hG.used b hlt hub) f2
  ·exact hge
 have hcv := hcs w Z hH hV
 unfold Zag at hV'
 have hat := hV'.2.2 _ rfl
 have hhead : cur.toList.take (n * sz) = cs.map AV.val := by
  apply List.ext_getElem?
  intro j
  rw [List.getElem?_take]
  split
  ·rename_i hj
   have hjl : j < cs.length := by omega
   have := (Zdw hat (List.getElem?_eq_getElem hjl)).1
   rw [ZdP, Nat.zero_add, cell_of_row w' b j cur e (0, 0) hcur] at this
   rw [List.getElem?_map, List.getElem?_eq_getElem hjl, Array.getElem?_toList, this]
   rfl
  ·rename_i hj
   rw [List.getElem?_map, List.getElem?_eq_none (by omega)]
   rfl
 have hall : cur = ((cs ++ (cur.toList.drop (n * sz)).map AV.raw).map AV.val).toArray := by
  apply Array.ext'
  rw [List.map_append, <- hhead]
  simp [Function.comp_def]
 have hlen : (cs ++ (cur.toList.drop (n * sz)).map AV.raw).length = c * sz := by
  have h9 := hcz.symm.trans (congrArg Array.size hall)
  rw [List.size_toArray, List.length_map] at h9
  exact h9.symm
 have hne : ∀ b', b' < w.heap.size -> b' ≠ b := fun b' h' => by omega
 have hG2 : Grow w σ w' (σ.put b (.own e (cs ++ (cur.toList.drop (n * sz)).map AV.raw))) := by
  refine ⟨hG.os, hG.tape, hG.output, hG.size, fun b' h1 h2 => ?_, fun b' h1 h2 => ⟨(hG.rest b' h1 h2).1, ?_⟩, fun b' t k s h1 h2 => ⟨(hG.tail b' t k s h1 h2).1, .inr ⟨t, k, s, ?_, Nat.le_refl _⟩⟩, fun b' h1 => .inl h1⟩
  ·rcases h2 with h2 | h2
   ·exact h2
   ·exact absurd h2 (hne b' h1)
  ·rw [Zal _ _ (hne b' h1)]; exact h2
  ·rw [Zal _ _ (hne b' h1)]; exact h2
 refine ⟨.raw (.slice (some ⟨b, 0, none⟩) n c), _, by simp, ⟨b, c, _, rfl, hnc, hcm, rfl, hlen, f1, f2⟩, ⟨fun b' hu => ?_, fun b' hz => ?_, fun b' t cs' hb' => ?_, fun b' t k s hb' => ?_, fun b' es hb' => ?_⟩, ZaE _, hG2⟩
 ·rcases hu with hu | hu
  ·exact Nat.lt_of_lt_of_le (hH.used _ hu) hG.size
  ·rw [hu]; exact hbl
 ·obtain ⟨z1, z2⟩ := hH.z _ hz
  exact ⟨Nat.lt_of_lt_of_le z1 hG.size, by rw [Zal _ _ (hne b' z1)]; exact z2⟩
 ·by_cases hbb : b' = b
  ·subst hbb
   rw [ZaT] at hb'
   injection hb' with hb'
   injection hb' with e1 e2
   subst e1 e2
   refine ⟨.inr rfl, by rw [<- hall]; exact hcur, fun q hq => ?_⟩
   rcases List.mem_append.1 hq with hq | hq
   ·exact hG2.valid (hcv q hq)
   ·obtain ⟨v, _, rfl⟩ := List.mem_map.1 hq
    exact ZaE _
  ·rw [Zal _ _ hbb] at hb'
   obtain ⟨q1, q2, q3⟩ := hH.own _ _ _ hb'
   obtain ⟨q4, q5, _⟩ := hH'.own _ _ _ (hX.keep _ _ hb')
   exact ⟨.inl q1, q5, fun q hq => hG2.valid (q3 q hq)⟩
 ·by_cases hbb : b' = b
  ·subst hbb
   rw [ZaT] at hb'
   injection hb' with hb'
   cases hb'
  ·rw [Zal _ _ hbb] at hb'
   obtain ⟨q1, _⟩ := hH.tail _ _ _ _ hb'
   obtain ⟨_, q2⟩ := hH'.tail _ _ _ _ (hX.keep _ _ hb')
   exact ⟨.inl q1, q2⟩
 ·by_cases hbb : b' = b
  ·subst hbb
   rw [ZaT] at hb'
   injection hb' with hb'
   cases hb'
  ·rw [Zal _ _ hbb] at hb'
   obtain ⟨q1, _⟩ := hH.map _ _ hb'
   obtain ⟨_, q2⟩ := hH'.map _ _ (hX.keep _ _ hb')
   exact ⟨.inl q1, q2⟩
theorem Zxd {f : FuncId} {fn : Func} {t e t' t0 t1 tb t2 t3 t4 t5 t6 : TypeId} {p0 p1 p2 p3 p4 p5 p6 p7 : String} {a0 a1 a2 a3 a4 a5 a6 a7 : Array Edge} {i0 i1 i2 i3 : Nat} {zv : Value} {sz by_ E : Nat}
 (hm : P.follows .mixedOrders = true) (hf : P.funcs[f]? = some fn) (hok : ZyK P fn 1 = true) (hr : fn.results = #[.tmp 2])
 (hb : fn.body = some (.seq (.region i0 #[⟨some 2, .assign (.const (.slice none 0 0)), t0, p0, a0, none⟩] false) (.seq (.seq (.region i1 #[⟨some 3, .move (.tmp 0), t1, p1, a1, none⟩, ⟨some 4, .binOp .eql t (.tmp 3) (.const (.slice none 0 0)) t', tb, p2, a2, none⟩] false) (.cond (.tmp 4) (.seq (.region i2 #[⟨some 2, .assign (.const (.slice none 0 0)), t2, p3, a3, none⟩] false) .ret) .skip)) (.seq (.region i3 #[⟨some 5, .buildSlice t 0 #[], t3, p4, a4, none⟩, ⟨some 6, .move (.tmp 0), t4, p5, a5, none⟩, ⟨some 7, .call ⟨.builtin .append, #[.tmp 5, .tmp 6], #[t, t]⟩, t5, p6, a6, none⟩, ⟨some 2, .assign (.tmp 7), t6, p7, a7, none⟩] false) .ret))))
 (he : ZaB P t = some e) (hsz : Zaw P e = some sz) (hz : Zbt P e = some zv) (hby : ZdE P e = some by_) (hzs : zv.cells.size = sz) (hE : sz = C.sz E)
 {F : Nat} {zt : T F} (xs : List (T E)) (ys : List (T F)) (hzt : Zrh C F sz zv some = some zt) (hF : C.sz F = sz) (hyl : ys.length = xs.length) (hen : ∀ N ρ cs, SVs C N ρ (xs.flatMap (C.enc E)) cs -> SVs C N ρ (ys.flatMap (C.enc F)) cs) (h0 : xs.length ≠ 0) (hroom : xs.length <= 140737488355328 /\ xs.length * by_ <= 140737488355328) : Tr C P (fun _ => True) f [.sl E xs none] [] (.as F 0 0 xs.length none) [.arr e F true ys] := by
 intro ρ σ vs hs H
 obtain ⟨a, rfl, h3⟩ := ZgU.1 hs
 obtain ⟨A, c, cs, rest, rfl, l1, l2, l3, l4, l5⟩ := ZfO.1 h3
 obtain ⟨zt', hq, hz2⟩ := ZgW hzt
 injection hq with hq
 subst hq
 unfold ZyK at hok
 rw [hb] at hok
 simp only [Bool.and_eq_true] at hok
 obtain ⟨⟨o1, o2⟩, o3⟩ := hok
 have hlen := l5.len
 rw [Zc2] at hlen
 have hpos := C.pos E
 have hres : fn.results.toList = [.tmp 2] := by rw [hr]
 cases A with
 | none => exact absurd (l4 rfl).1 h0
 | some ad =>
 refine ZaR hm hf hb o2 o1 (Nat.le_of_ble_eq_true o3) ?_
 refine Zah (Zaa (Zas rfl (ZaD ?_)))
 refine Zcb (Zah (Zaa (Za0 rfl (Zaa (Znn he rfl rfl (ZaD ?_))))))
 refine ZgQ rfl (fun hA => by cases hA) (fun hA => ?_)
 refine Zhv (Zah (Zaa (Zhu (vs := []) (cells := []) rfl he hsz hz hzs (by omega) (by simp [Zfg]) fun b hu hn => ?_)))
 refine Zaa (Za0 rfl ?_)
 refine Zaa ?_
 rw [Zcf rfl]
 change ZgJ P _ [AV.lst (some ⟨b, 0, none⟩) 0 0 [], AV.lst (some ad) xs.length c (cs ++ rest)] _ _
 have hX : Ext σ (σ.put b (.tail e (0 * sz) (0 * sz))) := Ext.put _ hn
 have hso : SV C 0 ρ (.sl E xs none) (.lst (some ad) xs.length c (cs ++ rest)) := h3
 refine Zhy fun w Z hH hV1 hV2 => ?_
 have srcx : Src (σ.put b (.tail e (0 * sz) (0 * sz))) sz (.lst (some ⟨b, 0, none⟩) 0 0 []) 0 [] := ⟨by simp, by simp, ⟨some ⟨b, 0, none⟩, 0, by simp, fun e => (by cases e)⟩, fun w Z hH hV => ⟨by simp, fun ad c hy j u hu => by simp at hu⟩⟩
 have src : Src (σ.put b (.tail e (0 * sz) (0 * sz))) sz (.lst (some ad) xs.length c (cs ++ rest)) xs.length cs := by
  refine ⟨by rw [hlen, hE], l5.ones fun v hv => Ze6 (ZcC xs v hv), ⟨some ad, c, by simp, fun e => (by cases e)⟩, fun w Z hH hV => ?_⟩
  unfold Zag at hV
  have hat := hV.2.2 ad rfl
  refine ⟨fun q hq => ?_, fun ad' c' hy j u hu => ?_⟩
  ·obtain ⟨j, hj⟩ := List.getElem?_of_mem hq
   exact (Zdw hat (by rw [List.getElem?_append_left (Zav hj)]; exact hj)).2.2
  ·rw [AV.val_lst] at hy
   injection hy with q1 _ _
   injection q1 with q1
   subst q1
   rw [List.getElem?_map] at hu
   cases hd : cs[j]? with
   | none => rw [hd] at hu; cases hu
   | some q =>
    rw [hd] at hu
    injection hu with hu
    subst hu
    exact (Zdw hat (by rw [List.getElem?_append_left (Zav hd)]; exact hd)).1
 obtain ⟨cap, w', rest', r0, r1, r2, r3, r4, f1, f2, f3, f4⟩ := ZjV (ty := _) (t := t) hH hV1 hV2 he hsz hz hby hzs (by omega) srcx (A := some ⟨b, 0, none⟩) (c := 0) (by simp) (fun e => (by cases e)) src (by omega) (Nat.le_refl _) (by unfold maxLen; omega) (by rw [Nat.zero_add]; exact hroom.2)
 rw [Nat.zero_add] at r1 r2
 rw [List.nil_append] at r4 f3 f4
 refine ⟨.raw (.slice (some ⟨w.heap.size, 0, none⟩) xs.length cap), _, w', by rw [r1]; simp, ?_, f3, ZaE _, f4⟩
 refine Zaa (Zas rfl (ZaD (ZdD ?_)))
 refine Zlq hres (Zlp rfl) ?_
 have hne : w.heap.size ≠ b := fun e => f1 (.inr e)
 have fu : ¬ σ.used w.heap.size := fun h => f1 (.inl h)
 have fb : σ.blk w.heap.size = none := by rw [<- f2, Zal _ _ hne]
 have H2 : Hp C ρ ([] : List (HI T)) (σ.put b (.tail e (0 * sz) (0 * sz))) := ⟨fun i x hx => by simp at hx, fun i j x y c hx => by simp at hx⟩
 obtain ⟨g1, g2⟩ := H2.newArr (U := fun _ => True) true f1 f2 e (E := F) (K := cap) (xs := ys) (pre := cs) (rest := rest') (fun N ρ => hen _ _ _ (l5.shut (ZcC xs))) (by rw [r4, hF]) r3 (fun _ => ⟨List.replicate (cap - (0 + xs.length)) zt', fun N ρ => by rw [r0, hzs]; exact hz2 _ N ρ⟩)
 refine ⟨_, Zbz.2 (.inl ⟨_, _, rfl, by simp, r2, r3, hroom.1, ⟨w.heap.size, by rw [Nat.zero_add]; exact Zar _ _ _, fun _ => by rw [Nat.zero_mul]⟩, fun c'' hc => by cases hc⟩), g1, ⟨g2.len, g2.ext, ⟨fun b' k' hb' hk' => ?_, fun b' hb' => .inl (.inl hb')⟩, fun b' hb' => ?_⟩⟩
 ·have h1 : b' ≠ b := fun e => by rw [e, hn] at hk'; cases hk'
  have h2 : b' ≠ w.heap.size := fun e => by rw [e, fb] at hk'; cases hk'
  rw [Zal _ _ h2, Zal _ _ h1]
  exact hk'
 ·rcases g2.born b' hb' with ⟨i, x, hx, _⟩ | ⟨h1, h2⟩
  ·simp at hx
  ·refine .inr ⟨?_, fun h => h2 (.inl h)⟩
   by_cases hbb : b' = b
   ·rw [hbb]; exact hn
   ·rw [Zal _ _ hbb] at h1
    exact h1
theorem Tr.freeze {f : FuncId} {args : List (XV T)} {x : HI T} {E n : Nat} {co : Option Nat} {e : TypeId} {kp : Bool} {xs : List (T E)} (hn0 : n ≠ 0) (hn : n <= xs.length) (h : Tr C P (fun _ => True) f args [x] (.as E 1 0 n co) [.dead, .arr e E kp xs]) :
 Tr C P (fun _ => True) f args [x] (.sl E (xs.take n) (some 1)) [.dead, .row e (C.sz E)] := by
 intro ρ σ vs hs H
 have h := h ρ σ vs hs H
 have hsz := C.pos E
 have hxl : (xs.take n).length = n := by rw [List.length_take]; omega
 refine fun w Z hH hV => (h w Z hH hV).mono ?_
 rintro y w' ⟨r, τ, rfl, ⟨ρ', hr, H', R⟩, hH', hV', hG⟩
 rcases Zbz.1 hr with ⟨ad, c, rfl, hA⟩ | ⟨rfl, hn1, hiN, hρi, hco⟩
 ·obtain ⟨b, q1, q2⟩ := hA.at_
  obtain ⟨pre, rest, hb2, hb3, hb4, hb5, hb6⟩ := H'.arrAt (i := 1) rfl q1
  rw [Nat.zero_add] at q1 hb5
  have hpl := (hb4 0 ρ).len
  rw [Zc2] at hpl
  have hm1 : n * C.sz E <= xs.length * C.sz E := Nat.mul_le_mul_right _ hn
  have hm2 : n * C.sz E <= c * C.sz E := Nat.mul_le_mul_right _ hA.le
  have hsv : ∀ N ρ, SVs C N ρ ((xs.take n).flatMap (C.enc E)) (pre.take (n * C.sz E)) := fun N ρ => by
   have := (hb4 N ρ).take (n * C.sz E)
   rw [Ze3] at this
   exact this
  have hpt : (pre.take (n * C.sz E)).length = n * C.sz E := by rw [List.length_take]; omega
  obtain ⟨o1, o2, o3⟩ := hH'.own _ _ _ hb2
  have hzb : ¬ Z b := fun hz => by have := (hH'.z _ hz).2; rw [hb2] at this; cases this
  have hset : (τ.set b (.tail e (n * C.sz E) (c * C.sz E))).blk b = some (.tail e (n * C.sz E) (c * C.sz E)) := by show (if b = b then _ else τ.blk b) = _; rw [if_pos rfl]
  have hoth : ∀ b', b' ≠ b -> (τ.set b (.tail e (n * C.sz E) (c * C.sz E))).blk b' = τ.blk b' := fun b' hb' => by show (if b' = b then _ else τ.blk b') = _; rw [if_neg hb']
  have hfree : ∀ b' o, τ.free Z b' o -> (τ.set b (.tail e (n * C.sz E) (c * C.sz E))).free Z b' o := fun b' o hf => by
   obtain ⟨z1, z2, z3⟩ := hf
   have hne : b' ≠ b := by rintro rfl; rw [hb2] at z3; exact z3
   refine ⟨z1, z2, ?_⟩
   rw [hoth b' hne]; exact z3
  have hHf : Zap w' (τ.set b (.tail e (n * C.sz E) (c * C.sz E))) Z := by
   refine ⟨hH'.used, fun b' hz => ?_, fun b' t cs' hb' => ?_, fun b' t k s hb' => ?_, fun b' es hb' => ?_⟩
   ·obtain ⟨z1, z2⟩ := hH'.z _ hz
    have hne : b' ≠ b := by rintro rfl; exact hzb hz
    exact ⟨z1, by rw [hoth b' hne]; exact z2⟩
   ·have hne : b' ≠ b := by rintro rfl; rw [hset] at hb'; injection hb' with hb'; cases hb'
    rw [hoth b' hne] at hb'
    obtain ⟨p1, p2, p3⟩ := hH'.own _ _ _ hb'
    exact ⟨p1, p2, fun q hq => (p3 q hq).sub hfree⟩
   ·by_cases hne : b' = b
    ·subst hne
     rw [hset] at hb'
     injection hb' with hb'
     injection hb' with e1 e2 e3
     subst e1 e2 e3
     exact ⟨o1, _, o2, by simp only [List.size_toArray, List.length_map]; exact hb5, hm2⟩
    ·rw [hoth b' hne] at hb'
     exact hH'.tail _ _ _ _ hb'
   ·by_cases hne : b' = b
    ·subst hne
     rw [hset] at hb'
     injection hb' with hb'
     cases hb'
    ·rw [hoth b' hne] at hb'
     exact hH'.map _ _ hb'
  have hGf : Grow w σ w' (τ.set b (.tail e (n * C.sz E) (c * C.sz E))) := by
   refine ⟨hG.os, hG.tape, hG.output, hG.size, hG.used, fun b' h1 h2 => ⟨(hG.rest b' h1 h2).1, ?_⟩, fun b' t k s h1 h2 => ⟨(hG.tail b' t k s h1 h2).1, ?_⟩, hG.more⟩
   ·have := (hG.rest b' h1 h2).2
    have hne : b' ≠ b := by rintro rfl; rw [hb2] at this; cases this
    rw [hoth b' hne]; exact this
   ·have := (hG.tail b' t k s h1 h2).2
    have hne : b' ≠ b := by
     rintro rfl
     rw [hb2] at this
     rcases this with h | ⟨_, _, _, h, _⟩
     ·cases h
     ·injection h with h; cases h
    rw [hoth b' hne]; exact this
  have hVf : Zag w' ((τ.set b (.tail e (n * C.sz E) (c * C.sz E))).free Z) (.lst (some ⟨b, 0, none⟩) n c (pre.take (n * C.sz E))) := by
   unfold Zag
   refine ⟨hA.le, (fun hq => by cases hq), fun ad' had' => ?_⟩
   injection had' with had'
   subst had'
   refine Zaz.mk fun j q hq => ?_
   have hjl : j < n * C.sz E := by rw [<- hpt]; exact Zav hq
   have hq' : (pre ++ rest)[j]? = some q := by
    rw [List.getElem?_take] at hq
    rw [if_pos hjl] at hq
    rw [List.getElem?_append_left (Zav hq)]
    exact hq
   have hcell := ZgL hH' hb2 0 j (by rw [Nat.zero_add]; exact hq')
   rw [Nat.zero_add]
   refine ⟨hcell, ?_, (o3 q (List.mem_of_getElem? hq')).sub hfree⟩
   refine ⟨hzb, o1, ?_⟩
   rw [hset]
   simpa using hjl
  have hval : AV.val (.raw (.slice (some ad) n c)) = (AV.lst (some ⟨b, 0, none⟩) n c (pre.take (n * C.sz E))).val \/ c = 0 := by
   by_cases h0 : c = 0
   ·exact .inr h0
   ·left
    have := q2 (by omega)
    rw [Nat.zero_mul] at this
    subst this
    simp
  rcases hval with hval | hc0
  ·have hext : ∀ j, j < ([x] : List (HI T)).length -> rup ρ' 1 (.lst (some ⟨b, 0, none⟩) n c (pre.take (n * C.sz E))) j = ρ j := fun j hj => by
    have : j ≠ 1 := by simp at hj; omega
    rw [ZfY this]
    exact R.ext j hj
   refine ⟨.lst (some ⟨b, 0, none⟩) n c (pre.take (n * C.sz E)), τ.set b (.tail e (n * C.sz E) (c * C.sz E)), by rw [hval], ⟨rup ρ' 1 (.lst (some ⟨b, 0, none⟩) n c (pre.take (n * C.sz E))), ?_, ⟨fun i y hy => ?_, fun i j y y' b' hy hy' ay ay' by_ by_' => ?_⟩, ⟨R.len, hext, ⟨fun b' k hb' hk => ?_, R.but.used⟩, fun b' ⟨i, y, hy, ay, by_⟩ => ?_⟩⟩, hHf, hVf, hGf⟩
   ·have hs1 : SV C 2 (rup ρ' 1 (.lst (some ⟨b, 0, none⟩) n c (pre.take (n * C.sz E)))) (.sl E (xs.take n) none) (.lst (some ⟨b, 0, none⟩) n c (pre.take (n * C.sz E))) := by
     have := ZfO (C := C) (N := 2) (ρ := rup ρ' 1 (.lst (some ⟨b, 0, none⟩) n c (pre.take (n * C.sz E)))) (E := E) (xs := xs.take n) (a := .lst (some ⟨b, 0, none⟩) n c (pre.take (n * C.sz E)))
     rw [hxl] at this
     exact this.2 ⟨_, c, _, [], by rw [List.append_nil], hA.le, hA.max, hA.len, (fun hq => by cases hq), hsv _ _⟩
    exact Zgt.2 ⟨(Zar _ _ _).symm, by simp, hs1⟩
   ·match i, hy with
    | 0, hy => injection hy with hy; subst hy; trivial
    | 1, hy =>
     injection hy with hy
     subst hy
     exact ⟨n, pre.take (n * C.sz E), by rw [Zar]; exact ⟨hpt, .inr ⟨b, c, rfl, hA.le, hA.max, hset, o1⟩⟩⟩
   ·have hi1 : ∀ i (y : HI T), ([HI.dead, .row e (C.sz E)] : List (HI T))[i]? = some y -> y.alive = true -> i = 1 := fun i y hy ay => by
     match i, hy with
     | 0, hy => injection hy with hy; subst hy; cases ay
     | 1, _ => rfl
    rw [hi1 i y hy ay, hi1 j y' hy' ay']
   ·have hb0 := R.but.keep b' k hb' hk
    have hne : b' ≠ b := by
     rintro rfl
     rcases R.born b' ⟨1, _, rfl, rfl, by rw [q1]; rfl⟩ with hl | ⟨hl, _⟩
     ·obtain ⟨i, y, p1, p2, p3⟩ := hl
      exact hb' ⟨i, y, trivial, p1, p2, p3⟩
     ·rw [hl] at hk; cases hk
    rw [hoth b' hne]; exact hb0
   ·match i, hy with
    | 0, hy => injection hy with hy; subst hy; cases ay
    | 1, hy =>
     rw [Zar] at by_
     exact R.born b' ⟨1, _, rfl, rfl, by rw [q1]; exact by_⟩
  ·exact absurd hA.le (by omega)
 ·exact absurd hn1 hn0
end
end Go.Proofs.YtlmmpfbdgiokmaaGreat
