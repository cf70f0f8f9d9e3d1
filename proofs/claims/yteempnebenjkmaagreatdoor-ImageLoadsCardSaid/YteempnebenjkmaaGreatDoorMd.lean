/- XFz, XTw, XCl, XLe in one. -/
import Derived.Test.YteempnebenjkmaaGreatDoorMc
/- A list that is told becomes an array of ours, or an array a list; slices.Clone, as an array. -/
namespace Go.Proofs.YteempnebenjkmaaGreatDoor
open Go.RowKit
set_option linter.unusedSimpArgs false
set_option maxRecDepth 100000
set_option linter.unusedVariables false
variable {T : Nat -> Type}
section
variable {C : ZaA T} {P : Program}
theorem Zal.thaw {f : FuncId} {args : List AV} {σ : St} {e sz n : Nat} {cs : List AV} (hcs : ∀ w Z, Zan w σ Z -> (∀ a ∈ args, Zag w (σ.free Z) a) -> ∀ a ∈ cs, Zag w (σ.free Z) a) (hl : cs.length = n * sz)
 (h : Zal P f args σ fun rv τ => ∃ b c, rv = .lst (some ⟨b, 0, none⟩) n c cs /\ n <= c /\ c <= maxLen /\ τ.blk b = some (.tail e (n * sz) (c * sz)) /\ Ext σ τ /\ σ.blk b = none /\ ¬ σ.used b) :
 Zal P f args σ fun rv τ => ∃ b c rest, rv = .raw (.slice (some ⟨b, 0, none⟩) n c) /\ n <= c /\ c <= maxLen /\ τ = σ.put b (.own e (cs ++ rest)) /\ (cs ++ rest).length = c * sz /\ σ.blk b = none /\ ¬ σ.used b := by
 refine fun w Z hH hV => (h w Z hH hV).mono ?_
 rintro x w' ⟨r, τ, rfl, ⟨b, c, rfl, hnc, hcm, hb, hX, f1, f2⟩, hH', hV', hG⟩
 obtain ⟨hub, cur, hcur, hcz, hk⟩ := hH'.tail _ _ _ _ hb
 have hbl : b < w'.heap.size := (Array.getElem?_eq_some_iff.1 hcur).1
 have hbw : w.heap.size <= b := by
  rcases Nat.lt_or_ge b w.heap.size with hlt | hge
  ·exact absurd (hG.used b hlt hub) f2
  ·exact hge
 have hcv := hcs w Z hH hV
 unfold Zag at hV'
 have hat := hV'.2.2 _ rfl
 have hhead : cur.toList.take (n * sz) = cs.map AV.val := by
  apply List.ext_getElem?
  intro j
  rw [List.getElem?_take]
  split
  ·rename_i hj
   have hjl : j < cs.length := by omega
   have := (Zcs hat (List.getElem?_eq_getElem hjl)).1
   rw [Zbl, Nat.zero_add, cell_of_row w' b j cur e (0, 0) hcur] at this
   rw [List.getElem?_map, List.getElem?_eq_getElem hjl, Array.getElem?_toList, this]
   rfl
  ·rename_i hj
   rw [List.getElem?_map, List.getElem?_eq_none (by omega)]
   rfl
 have hall : cur = ((cs ++ (cur.toList.drop (n * sz)).map AV.raw).map AV.val).toArray := by
  apply Array.ext'
  rw [List.map_append, <- hhead]
  simp [Function.comp_def]
 have hlen : (cs ++ (cur.toList.drop (n * sz)).map AV.raw).length = c * sz := by
  have h9 := hcz.symm.trans (congrArg Array.size hall)
  rw [List.size_toArray, List.length_map] at h9
  exact h9.symm
 have hne : ∀ b', b' < w.heap.size -> b' ≠ b := fun b' h' => by omega
 have hG2 : Grow w σ w' (σ.put b (.own e (cs ++ (cur.toList.drop (n * sz)).map AV.raw))) := by
  refine ⟨hG.os, hG.tape, hG.output, hG.size, fun b' h1 h2 => ?_, fun b' h1 h2 => ⟨(hG.rest b' h1 h2).1, ?_⟩, fun b' t k s h1 h2 => ⟨(hG.tail b' t k s h1 h2).1, .inr ⟨t, k, s, ?_, Nat.le_refl _⟩⟩, fun b' h1 => .inl h1⟩
  ·rcases h2 with h2 | h2
   ·exact h2
   ·exact absurd h2 (hne b' h1)
  ·rw [Zaz _ _ (hne b' h1)]; exact h2
  ·rw [Zaz _ _ (hne b' h1)]; exact h2
 refine ⟨.raw (.slice (some ⟨b, 0, none⟩) n c), _, by simp, ⟨b, c, _, rfl, hnc, hcm, rfl, hlen, f1, f2⟩, ⟨fun b' hu => ?_, fun b' hz => ?_, fun b' t cs' hb' => ?_, fun b' t k s hb' => ?_, fun b' es hb' => ?_⟩, ZaL _, hG2⟩
 ·rcases hu with hu | hu
  ·exact Nat.lt_of_lt_of_le (hH.used _ hu) hG.size
  ·rw [hu]; exact hbl
 ·obtain ⟨z1, z2⟩ := hH.z _ hz
  exact ⟨Nat.lt_of_lt_of_le z1 hG.size, by rw [Zaz _ _ (hne b' z1)]; exact z2⟩
 ·by_cases hbb : b' = b
  ·subst hbb
   rw [ZaW] at hb'
   injection hb' with hb'
   injection hb' with e1 e2
   subst e1 e2
   refine ⟨.inr rfl, by rw [<- hall]; exact hcur, fun q hq => ?_⟩
   rcases List.mem_append.1 hq with hq | hq
   ·exact hG2.valid (hcv q hq)
   ·obtain ⟨v, _, rfl⟩ := List.mem_map.1 hq
    exact ZaL _
  ·rw [Zaz _ _ hbb] at hb'
   obtain ⟨q1, q2, q3⟩ := hH.own _ _ _ hb'
   obtain ⟨q4, q5, _⟩ := hH'.own _ _ _ (hX.keep _ _ hb')
   exact ⟨.inl q1, q5, fun q hq => hG2.valid (q3 q hq)⟩
 ·by_cases hbb : b' = b
  ·subst hbb
   rw [ZaW] at hb'
   injection hb' with hb'
   cases hb'
  ·rw [Zaz _ _ hbb] at hb'
   obtain ⟨q1, _⟩ := hH.tail _ _ _ _ hb'
   obtain ⟨_, q2⟩ := hH'.tail _ _ _ _ (hX.keep _ _ hb')
   exact ⟨.inl q1, q2⟩
 ·by_cases hbb : b' = b
  ·subst hbb
   rw [ZaW] at hb'
   injection hb' with hb'
   cases hb'
  ·rw [Zaz _ _ hbb] at hb'
   obtain ⟨q1, _⟩ := hH.map _ _ hb'
   obtain ⟨_, q2⟩ := hH'.map _ _ (hX.keep _ _ hb')
   exact ⟨.inl q1, q2⟩
theorem Tr.freeze {f : FuncId} {args : List (XV T)} {x : HI T} {E n : Nat} {co : Option Nat} {e : TypeId} {kp : Bool} {xs : List (T E)} (hn0 : n ≠ 0) (hn : n <= xs.length) (h : Tr C P (fun _ => True) f args [x] (.as E 1 0 n co) [.dead, .arr e E kp xs]) :
 Tr C P (fun _ => True) f args [x] (.sl E (xs.take n) (some 1)) [.dead, .row e (C.sz E)] := by
 intro ρ σ vs hs H
 have h := h ρ σ vs hs H
 have hsz := C.pos E
 have hxl : (xs.take n).length = n := by rw [List.length_take]; omega
 refine fun w Z hH hV => (h w Z hH hV).mono ?_
 rintro y w' ⟨r, τ, rfl, ⟨ρ', hr, H', R⟩, hH', hV', hG⟩
 rcases ZbQ.1 hr with ⟨ad, c, rfl, hA⟩ | ⟨rfl, hn1, hiN, hρi, hco⟩
 ·obtain ⟨b, q1, q2⟩ := hA.at_
  obtain ⟨pre, rest, hb2, hb3, hb4, hb5, hb6⟩ := H'.arrAt (i := 1) rfl q1
  rw [Nat.zero_add] at q1 hb5
  have hpl := (hb4 0 ρ).len
  rw [Zcl] at hpl
  have hm1 : n * C.sz E <= xs.length * C.sz E := Nat.mul_le_mul_right _ hn
  have hm2 : n * C.sz E <= c * C.sz E := Nat.mul_le_mul_right _ hA.le
  have hsv : ∀ N ρ, SVs C N ρ ((xs.take n).flatMap (C.enc E)) (pre.take (n * C.sz E)) := fun N ρ => by
   have := (hb4 N ρ).take (n * C.sz E)
   rw [Zer] at this
   exact this
  have hpt : (pre.take (n * C.sz E)).length = n * C.sz E := by rw [List.length_take]; omega
  obtain ⟨o1, o2, o3⟩ := hH'.own _ _ _ hb2
  have hzb : ¬ Z b := fun hz => by have := (hH'.z _ hz).2; rw [hb2] at this; cases this
  have hset : (τ.set b (.tail e (n * C.sz E) (c * C.sz E))).blk b = some (.tail e (n * C.sz E) (c * C.sz E)) := by show (if b = b then _ else τ.blk b) = _; rw [if_pos rfl]
  have hoth : ∀ b', b' ≠ b -> (τ.set b (.tail e (n * C.sz E) (c * C.sz E))).blk b' = τ.blk b' := fun b' hb' => by show (if b' = b then _ else τ.blk b') = _; rw [if_neg hb']
  have hfree : ∀ b' o, τ.free Z b' o -> (τ.set b (.tail e (n * C.sz E) (c * C.sz E))).free Z b' o := fun b' o hf => by
   obtain ⟨z1, z2, z3⟩ := hf
   have hne : b' ≠ b := by rintro rfl; rw [hb2] at z3; exact z3
   refine ⟨z1, z2, ?_⟩
   rw [hoth b' hne]; exact z3
  have hHf : Zan w' (τ.set b (.tail e (n * C.sz E) (c * C.sz E))) Z := by
   refine ⟨hH'.used, fun b' hz => ?_, fun b' t cs' hb' => ?_, fun b' t k s hb' => ?_, fun b' es hb' => ?_⟩
   ·obtain ⟨z1, z2⟩ := hH'.z _ hz
    have hne : b' ≠ b := by rintro rfl; exact hzb hz
    exact ⟨z1, by rw [hoth b' hne]; exact z2⟩
   ·have hne : b' ≠ b := by rintro rfl; rw [hset] at hb'; injection hb' with hb'; cases hb'
    rw [hoth b' hne] at hb'
    obtain ⟨p1, p2, p3⟩ := hH'.own _ _ _ hb'
    exact ⟨p1, p2, fun q hq => (p3 q hq).sub hfree⟩
   ·by_cases hne : b' = b
    ·subst hne
     rw [hset] at hb'
     injection hb' with hb'
     injection hb' with e1 e2 e3
     subst e1 e2 e3
     exact ⟨o1, _, o2, by simp only [List.size_toArray, List.length_map]; exact hb5, hm2⟩
    ·rw [hoth b' hne] at hb'
     exact hH'.tail _ _ _ _ hb'
   ·by_cases hne : b' = b
    ·subst hne
     rw [hset] at hb'
     injection hb' with hb'
     cases hb'
    ·rw [hoth b' hne] at hb'
     exact hH'.map _ _ hb'
  have hGf : Grow w σ w' (τ.set b (.tail e (n * C.sz E) (c * C.sz E))) := by
   refine ⟨hG.os, hG.tape, hG.output, hG.size, hG.used, fun b' h1 h2 => ⟨(hG.rest b' h1 h2).1, ?_⟩, fun b' t k s h1 h2 => ⟨(hG.tail b' t k s h1 h2).1, ?_⟩, hG.more⟩
   ·have := (hG.rest b' h1 h2).2
    have hne : b' ≠ b := by rintro rfl; rw [hb2] at this; cases this
    rw [hoth b' hne]; exact this
   ·have := (hG.tail b' t k s h1 h2).2
    have hne : b' ≠ b := by
     rintro rfl
     rw [hb2] at this
     rcases this with h | ⟨_, _, _, h, _⟩
     ·cases h
     ·injection h with h; cases h
    rw [hoth b' hne]; exact this
  have hVf : Zag w' ((τ.set b (.tail e (n * C.sz E) (c * C.sz E))).free Z) (.lst (some ⟨b, 0, none⟩) n c (pre.take (n * C.sz E))) := by
   unfold Zag
   refine ⟨hA.le, (fun hq => by cases hq), fun ad' had' => ?_⟩
   injection had' with had'
   subst had'
   refine Zay.mk fun j q hq => ?_
   have hjl : j < n * C.sz E := by rw [<- hpt]; exact Zat hq
   have hq' : (pre ++ rest)[j]? = some q := by
    rw [List.getElem?_take] at hq
    rw [if_pos hjl] at hq
    rw [List.getElem?_append_left (Zat hq)]
    exact hq
   have hcell := Zdl hH' hb2 0 j (by rw [Nat.zero_add]; exact hq')
   rw [Nat.zero_add]
   refine ⟨hcell, ?_, (o3 q (List.mem_of_getElem? hq')).sub hfree⟩
   refine ⟨hzb, o1, ?_⟩
   rw [hset]
   simpa using hjl
  have hval : AV.val (.raw (.slice (some ad) n c)) = (AV.lst (some ⟨b, 0, none⟩) n c (pre.take (n * C.sz E))).val \/ c = 0 := by
   by_cases h0 : c = 0
   ·exact .inr h0
   ·left
    have := q2 (by omega)
    rw [Nat.zero_mul] at this
    subst this
    simp
  rcases hval with hval | hc0
  ·have hext : ∀ j, j < ([x] : List (HI T)).length -> rup ρ' 1 (.lst (some ⟨b, 0, none⟩) n c (pre.take (n * C.sz E))) j = ρ j := fun j hj => by
    have : j ≠ 1 := by simp at hj; omega
    rw [ZeF this]
    exact R.ext j hj
   refine ⟨.lst (some ⟨b, 0, none⟩) n c (pre.take (n * C.sz E)), τ.set b (.tail e (n * C.sz E) (c * C.sz E)), by rw [hval], ⟨rup ρ' 1 (.lst (some ⟨b, 0, none⟩) n c (pre.take (n * C.sz E))), ?_, ⟨fun i y hy => ?_, fun i j y y' b' hy hy' ay ay' by_ by_' => ?_⟩, ⟨R.len, hext, ⟨fun b' k hb' hk => ?_, R.but.used⟩, fun b' ⟨i, y, hy, ay, by_⟩ => ?_⟩⟩, hHf, hVf, hGf⟩
   ·have hs1 : SV C 2 (rup ρ' 1 (.lst (some ⟨b, 0, none⟩) n c (pre.take (n * C.sz E)))) (.sl E (xs.take n) none) (.lst (some ⟨b, 0, none⟩) n c (pre.take (n * C.sz E))) := by
     have := Zb8 (C := C) (N := 2) (ρ := rup ρ' 1 (.lst (some ⟨b, 0, none⟩) n c (pre.take (n * C.sz E)))) (E := E) (xs := xs.take n) (a := .lst (some ⟨b, 0, none⟩) n c (pre.take (n * C.sz E)))
     rw [hxl] at this
     exact this.2 ⟨_, c, _, [], by rw [List.append_nil], hA.le, hA.max, hA.len, (fun hq => by cases hq), hsv _ _⟩
    exact ZfK.2 ⟨(ZaD _ _ _).symm, by simp, hs1⟩
   ·match i, hy with
    | 0, hy => injection hy with hy; subst hy; trivial
    | 1, hy =>
     injection hy with hy
     subst hy
     exact ⟨n, pre.take (n * C.sz E), by rw [ZaD]; exact ⟨hpt, .inr ⟨b, c, rfl, hA.le, hA.max, hset, o1⟩⟩⟩
   ·have hi1 : ∀ i (y : HI T), ([HI.dead, .row e (C.sz E)] : List (HI T))[i]? = some y -> y.alive = true -> i = 1 := fun i y hy ay => by
     match i, hy with
     | 0, hy => injection hy with hy; subst hy; cases ay
     | 1, _ => rfl
    rw [hi1 i y hy ay, hi1 j y' hy' ay']
   ·have hb0 := R.but.keep b' k hb' hk
    have hne : b' ≠ b := by
     rintro rfl
     rcases R.born b' ⟨1, _, rfl, rfl, by rw [q1]; rfl⟩ with hl | ⟨hl, _⟩
     ·obtain ⟨i, y, p1, p2, p3⟩ := hl
      exact hb' ⟨i, y, trivial, p1, p2, p3⟩
     ·rw [hl] at hk; cases hk
    rw [hoth b' hne]; exact hb0
   ·match i, hy with
    | 0, hy => injection hy with hy; subst hy; cases ay
    | 1, hy =>
     rw [ZaD] at by_
     exact R.born b' ⟨1, _, rfl, rfl, by rw [q1]; exact by_⟩
  ·exact absurd hA.le (by omega)
 ·exact absurd hn1 hn0
end
end Go.Proofs.YteempnebenjkmaaGreatDoor
/- Arrays of ours are lent to a call that only reads; rows that a call tells, as arrays. -/
namespace Go.Proofs.YteempnebenjkmaaGreatDoor
open Go.RowKit
set_option linter.unusedSimpArgs false
set_option maxRecDepth 100000
set_option linter.unusedVariables false
variable {T : Nat -> Type}
def ZqP (h : List (HI T)) : XV T -> XV T
 | .as E i lo n co => match h[i]? with
  | some (.arr _ E' _ zs) => if hE : E' = E then .sl E (((hE ▸ zs : List (T E)).drop lo).take n) none else .junk
  | _ => .junk
 | v => v
def Zw6 (h : List (HI T)) : XV T -> XV T
 | .agg l => .agg (l.map (ZqP h))
 | v => ZqP h v
def Zs9 (h : List (HI T)) : XV T -> Bool
 | .as E i lo n co => match h[i]? with
  | some (.arr _ E' _ zs) => Nat.beq E' E && Nat.ble (lo + n) zs.length
  | _ => false
 | v => v.closed
def ZrS (h : List (HI T)) : XV T -> Bool
 | .agg l => l.all (Zs9 h)
 | v => Zs9 h v
def XV.scal : XV T -> Bool
 | .int _ _ | .bool _ | .str _ | .nilptr | .fn _ => true
 | _ => false
def XV.scal2 : XV T -> Bool
 | .agg l => l.all XV.scal
 | v => v.scal
def XV.scal3 : XV T -> Bool
 | .tup l => l.all XV.scal2
 | v => v.scal2
section
variable {C : ZaA T} {P : Program} {N N' : Nat} {ρ ρ' : Nat -> AV} {h : List (HI T)} {σ τ : St} {U U0 : Nat -> Prop}
theorem ZuS {v : XV T} {a : AV} (hs : v.scal = true) (h : SV C N ρ v a) : SV C N' ρ' v a /\ ∀ w B, Zag w B a := by
 cases v with
 | int k n => rw [Zaw.1 h]; exact ⟨Zaw.2 rfl, fun w B => ZaL _⟩
 | bool b => rw [Za7.1 h]; exact ⟨Za7.2 rfl, fun w B => ZaL _⟩
 | str s => rw [ZgH.1 h]; exact ⟨ZgH.2 rfl, fun w B => ZaL _⟩
 | nilptr => rw [ZbU.1 h]; exact ⟨ZbU.2 rfl, fun w B => ZaL _⟩
 | fn f => rw [Zju.1 h]; exact ⟨Zju.2 rfl, fun w B => ZaL _⟩
 | _ => cases hs
theorem ZrT : ∀ {l : List (XV T)} {as_ : List AV}, l.all XV.scal = true -> SVs C N ρ l as_ -> SVs C N' ρ' l as_ /\ ∀ w B, ∀ a ∈ as_, Zag w B a
 | [], as_, _, h => by rw [ZbA.1 h]; exact ⟨.none, by simp⟩
 | v :: l, as_, hs, h => by
  rw [List.all_cons, Bool.and_eq_true] at hs
  obtain ⟨a, bs, rfl, h1, h2⟩ := h.to
  obtain ⟨g1, g2⟩ := ZuS (N' := N') (ρ' := ρ') hs.1 h1
  obtain ⟨g3, g4⟩ := ZrT hs.2 h2
  exact ⟨.cons g1 g3, fun w B x hx => by
   rcases List.mem_cons.1 hx with rfl | hx
   ·exact g2 w B
   ·exact g4 w B x hx⟩
theorem ZrU {v : XV T} {a : AV} (hs : v.scal2 = true) (h : SV C N ρ v a) : SV C N' ρ' v a /\ ∀ w B, Zag w B a := by
 by_cases hv : ∃ l, v = .agg l
 ·obtain ⟨l, rfl⟩ := hv
  obtain ⟨ls, rfl, h1⟩ := ZcE.1 h
  obtain ⟨g1, g2⟩ := ZrT (N' := N') (ρ' := ρ') hs h1
  exact ⟨ZcE.2 ⟨ls, rfl, g1⟩, fun w B => by unfold Zag; exact ZaM.iff.2 (g2 w B)⟩
 ·refine ZuS ?_ h
  cases v <;> first | exact hs | exact absurd ⟨_, rfl⟩ hv
theorem Zpp : ∀ {l : List (XV T)} {as_ : List AV}, l.all XV.scal2 = true -> SVs C N ρ l as_ -> SVs C N' ρ' l as_ /\ ∀ w B, ∀ a ∈ as_, Zag w B a
 | [], as_, _, h => by rw [ZbA.1 h]; exact ⟨.none, by simp⟩
 | v :: l, as_, hs, h => by
  rw [List.all_cons, Bool.and_eq_true] at hs
  obtain ⟨a, bs, rfl, h1, h2⟩ := h.to
  obtain ⟨g1, g2⟩ := ZrU (N' := N') (ρ' := ρ') hs.1 h1
  obtain ⟨g3, g4⟩ := Zpp hs.2 h2
  exact ⟨.cons g1 g3, fun w B x hx => by
   rcases List.mem_cons.1 hx with rfl | hx
   ·exact g2 w B
   ·exact g4 w B x hx⟩
theorem Zw7 {v : XV T} {a : AV} (hs : v.scal3 = true) (h : SV C N ρ v a) : SV C N' ρ' v a /\ ∀ w B, Zag w B a := by
 by_cases hv : ∃ l, v = .tup l
 ·obtain ⟨l, rfl⟩ := hv
  obtain ⟨ls, rfl, h1⟩ := Ze7.1 h
  obtain ⟨g1, g2⟩ := Zpp (N' := N') (ρ' := ρ') hs h1
  exact ⟨Ze7.2 ⟨ls, rfl, g1⟩, fun w B => by unfold Zag; exact ZaM.iff.2 (g2 w B)⟩
 ·refine ZrU ?_ h
  cases v <;> first | exact hs | exact absurd ⟨_, rfl⟩ hv
theorem Hp.toExt (H : Hp C ρ h σ) (hX : Ext σ τ) : Hp C ρ h τ := by
 refine ⟨fun i x hx => ?_, H.dist⟩
 have := H.it i x hx
 cases x with
 | obj t' cs' =>
  obtain ⟨b', acs', h1, h2, h3, h4⟩ := this
  exact ⟨b', acs', h1, hX.keep _ _ h2, hX.used _ h3, h4⟩
 | mmap K V es =>
  obtain ⟨b', h1, h2, h3⟩ := this
  exact ⟨b', h1, hX.keep _ _ h2, hX.used _ h3⟩
 | arr e E kp xs =>
  rcases this with ⟨b', K', pre, rest, h1, h2, h3, h4⟩ | ⟨h1, h2⟩
  ·exact .inl ⟨b', K', pre, rest, h1, hX.keep _ _ h2, hX.used _ h3, h4⟩
  ·exact .inr ⟨h1, h2⟩
 | row e sz =>
  obtain ⟨n, cs', ho⟩ := this
  exact ⟨n, cs', ho.ext hX⟩
 | gen E x => exact C.gsh_but _ _ _ _ _ (fun _ => False) this hX.but (fun _ _ hf => hf)
 | dead => trivial
def ZqQ (ρ : Nat -> AV) (h : List (HI T)) (b : Nat) : Prop := ∃ i e E kp zs, h[i]? = some (.arr e E kp zs) /\ (ρ i).owns b
theorem ZrV (H : Hp C ρ h σ) {b : Nat} (hb : ZqQ ρ h b) : ∃ e cs, σ.blk b = some (.own e cs) /\ σ.used b := by
 obtain ⟨i, e, E, kp, zs, hi, hρ⟩ := hb
 rcases H.it i _ hi with ⟨b', K', pre, rest, h1, h2, h3, h4⟩ | ⟨h1, h2⟩
 ·rw [h1] at hρ; injection hρ with hρ; subst hρ; exact ⟨_, _, h2, h3⟩
 ·rw [h1] at hρ; cases hρ
open Classical in
noncomputable def Zgu (ρ : Nat -> AV) (h : List (HI T)) (σ : St) : St := ⟨fun b => if ZqQ ρ h b then none else σ.blk b, σ.used, by
 obtain ⟨n, hn⟩ := σ.fin
 refine ⟨n, fun b hb => ⟨(hn b hb).1, ?_⟩⟩
 rw [(hn b hb).2]; simp⟩
theorem ZgO {b : Nat} (hb : ZqQ ρ h b) : (Zgu ρ h σ).blk b = none := by unfold Zgu; dsimp only; rw [if_pos hb]
theorem Ze9 {b : Nat} (hb : ¬ ZqQ ρ h b) : (Zgu ρ h σ).blk b = σ.blk b := by unfold Zgu; dsimp only; rw [if_neg hb]
theorem ZlJ (H : Hp C ρ h σ) {Z : Nat -> Prop} {b o : Nat} (hf : σ.free Z b o) : (Zgu ρ h σ).free Z b o := by
 obtain ⟨h1, h2, h3⟩ := hf
 refine ⟨h1, h2, ?_⟩
 by_cases hb : ZqQ ρ h b
 ·rw [ZgO hb]; trivial
 ·rw [Ze9 hb]; exact h3
theorem Zzh (H : Hp C ρ h σ) {w : World} {Z : Nat -> Prop} (hH : Zan w σ Z) : Zan w (Zgu ρ h σ) Z := by
 refine ⟨hH.used, fun b hz => ⟨(hH.z b hz).1, ?_⟩, fun b t cs hb => ?_, fun b t k s hb => ?_, fun b es hb => ?_⟩
 ·by_cases hb : ZqQ ρ h b
  ·exact ZgO hb
  ·rw [Ze9 hb]; exact (hH.z b hz).2
 ·by_cases hg : ZqQ ρ h b
  ·rw [ZgO hg] at hb; cases hb
  ·rw [Ze9 hg] at hb
   obtain ⟨g1, g2, g3⟩ := hH.own _ _ _ hb
   exact ⟨g1, g2, fun c hc => (g3 c hc).sub fun b o => ZlJ H⟩
 ·by_cases hg : ZqQ ρ h b
  ·rw [ZgO hg] at hb; cases hb
  ·rw [Ze9 hg] at hb
   exact hH.tail _ _ _ _ hb
 ·by_cases hg : ZqQ ρ h b
  ·rw [ZgO hg] at hb; cases hb
  ·rw [Ze9 hg] at hb
   exact hH.map _ _ hb
theorem ZrW (H : Hp C ρ h σ) {w : World} {Z : Nat -> Prop} (hH : Zan w σ Z) {v : XV T} {a : AV} (hb : Zs9 h v = true) (hs : SV C h.length ρ v a) (hv : Zag w (σ.free Z) a) :
 ∃ a', a'.val = a.val /\ SV C 0 ρ (ZqP h v) a' /\ Zag w ((Zgu ρ h σ).free Z) a' := by
 by_cases hc : ∃ E i lo n co, v = .as E i lo n co
 ·obtain ⟨E, i, lo, n, co, rfl⟩ := hc
  simp only [Zs9] at hb
  simp only [ZqP]
  split at hb
  ·rename_i e E' kp zs hi
   rw [Bool.and_eq_true] at hb
   have hE := Nat.eq_of_beq_eq_true hb.1
   have hle := Nat.le_of_ble_eq_true hb.2
   subst hE
   rw [dif_pos rfl]
   have hlen : ((zs.drop lo).take n).length = n := by rw [List.length_take, List.length_drop]; omega
   rcases ZbQ.1 hs with ⟨ad, c, rfl, hA⟩ | ⟨rfl, rfl, hiN, hρi, hco⟩
   ·obtain ⟨b, q1, q2⟩ := hA.at_
    obtain ⟨pre, rest, hb2, hb3, hb4, hb5, hb6⟩ := H.arrAt hi q1
    have hsz := C.pos E'
    have hsl : ∀ a, SV C 0 ρ (.sl E' ((zs.drop lo).take n) none) a ↔ _ := fun a => Zb8 (C := C) (N := 0) (ρ := ρ) (E := E') (xs := (zs.drop lo).take n) (a := a)
    rw [hlen] at hsl
    by_cases hc0 : c = 0
    ·have hn0 : n = 0 := by have := hA.le; omega
     subst hn0
     refine ⟨.lst (some ad) 0 c [], by simp, (hsl _).2 ⟨some ad, c, [], [], rfl, hA.le, hA.max, hA.len, (fun e => by cases e), by simp only [List.take_zero]; exact .none⟩, ?_⟩
     unfold Zag
     exact ⟨hA.le, (fun e => by cases e), fun ad' _ => Zay.mk fun j q hq => by simp at hq⟩
    ·have had := q2 (by omega)
     subst had
     have hpl := (hb4 0 ρ).len
     rw [Zcl] at hpl
     have hG : ZqQ ρ h b := ⟨i, e, E', kp, zs, hi, by rw [q1]; rfl⟩
     have hsv : SVs C 0 ρ (((zs.drop lo).take n).flatMap (C.enc E')) ((pre.drop (lo * C.sz E')).take (n * C.sz E')) := by
      have := ((hb4 0 ρ).drop (lo * C.sz E')).take (n * C.sz E')
      rw [Zeq, Zer] at this
      exact this
     refine ⟨.lst (some ⟨b, lo * C.sz E', none⟩) n c (((pre.drop (lo * C.sz E')).take (n * C.sz E')) ++ []), by simp, (hsl _).2 ⟨_, c, _, [], rfl, hA.le, hA.max, hA.len, (fun e => by cases e), hsv⟩, ?_⟩
     unfold Zag
     refine ⟨hA.le, (fun e => by cases e), fun ad' had' => ?_⟩
     injection had' with had'
     subst had'
     rw [List.append_nil]
     refine Zay.mk fun j q hq => ?_
     rw [Nat.zero_add]
     have hq1 : (pre ++ rest)[lo * C.sz E' + j]? = some q := by
      rw [List.getElem?_take] at hq
      split at hq
      ·rw [List.getElem?_drop] at hq
       rw [List.getElem?_append_left (Zat hq)]
       exact hq
      ·cases hq
     obtain ⟨o1, o2, o3⟩ := hH.own _ _ _ hb2
     have hcell := Zdl hH hb2 (lo * C.sz E') j hq1
     refine ⟨hcell, ⟨fun hz => ?_, o1, ?_⟩, (o3 q (List.mem_of_getElem? hq1)).sub fun b o => ZlJ H⟩
     ·have := (hH.z _ hz).2
      rw [hb2] at this; cases this
     ·rw [ZgO hG]; trivial
   ·refine ⟨.lst none 0 0 [], rfl, ?_, Zde⟩
    rw [List.take_zero]
    exact Zb8.2 ⟨none, 0, [], [], rfl, Nat.le_refl _, Nat.zero_le _, Nat.zero_le _, fun _ => ⟨rfl, rfl⟩, .none⟩
  ·cases hb
 ·have hcl : v.closed = true := by
   cases v <;> first | exact hb | exact absurd ⟨_, _, _, _, _, rfl⟩ hc
  have hsame : ZqP h v = v := by
   cases v <;> first | rfl | exact absurd ⟨_, _, _, _, _, rfl⟩ hc
  rw [hsame]
  exact ⟨a, rfl, SVs.shut hs (by intro x hx; simp at hx; subst hx; exact hcl), hv.sub fun b o => ZlJ H⟩
theorem Zpq (H : Hp C ρ h σ) {w : World} {Z : Nat -> Prop} (hH : Zan w σ Z) : ∀ {l : List (XV T)} {as_ : List AV}, l.all (Zs9 h) = true -> SVs C h.length ρ l as_ -> (∀ a ∈ as_, Zag w (σ.free Z) a) ->
 ∃ bs : List AV, bs.map AV.val = as_.map AV.val /\ SVs C 0 ρ (l.map (ZqP h)) bs /\ ∀ a ∈ bs, Zag w ((Zgu ρ h σ).free Z) a
 | [], as_, _, hs, _ => by rw [ZbA.1 hs]; exact ⟨[], rfl, .none, by simp⟩
 | v :: l, as_, hb, hs, hv => by
  rw [List.all_cons, Bool.and_eq_true] at hb
  obtain ⟨a, cs, rfl, h1, h2⟩ := hs.to
  obtain ⟨a', g1, g2, g3⟩ := ZrW H hH hb.1 h1 (hv a List.mem_cons_self)
  obtain ⟨bs, q1, q2, q3⟩ := Zpq H hH hb.2 h2 (fun x hx => hv x (List.mem_cons_of_mem _ hx))
  refine ⟨a' :: bs, by rw [List.map_cons, List.map_cons, g1, q1], .cons g2 q2, fun x hx => ?_⟩
  rcases List.mem_cons.1 hx with rfl | hx
  ·exact g3
  ·exact q3 x hx
theorem Zw8 (H : Hp C ρ h σ) {w : World} {Z : Nat -> Prop} (hH : Zan w σ Z) {v : XV T} {a : AV} (hb : ZrS h v = true) (hs : SV C h.length ρ v a) (hv : Zag w (σ.free Z) a) :
 ∃ a', a'.val = a.val /\ SV C 0 ρ (Zw6 h v) a' /\ Zag w ((Zgu ρ h σ).free Z) a' := by
 by_cases hc : ∃ l, v = .agg l
 ·obtain ⟨l, rfl⟩ := hc
  obtain ⟨ls, rfl, h1⟩ := ZcE.1 hs
  unfold Zag at hv
  obtain ⟨bs, q1, q2, q3⟩ := Zpq H hH hb h1 (ZaM.iff.1 hv)
  exact ⟨.agg bs, by simp [q1], ZcE.2 ⟨bs, rfl, q2⟩, by unfold Zag; exact ZaM.iff.2 q3⟩
 ·have e1 : ZrS h v = Zs9 h v := by cases v <;> first | rfl | exact absurd ⟨_, rfl⟩ hc
  have e2 : Zw6 h v = ZqP h v := by cases v <;> first | rfl | exact absurd ⟨_, rfl⟩ hc
  rw [e1] at hb
  rw [e2]
  exact ZrW H hH hb hs hv
theorem Zpr (H : Hp C ρ h σ) {w : World} {Z : Nat -> Prop} (hH : Zan w σ Z) : ∀ {l : List (XV T)} {as_ : List AV}, l.all (ZrS h) = true -> SVs C h.length ρ l as_ -> (∀ a ∈ as_, Zag w (σ.free Z) a) ->
 ∃ bs : List AV, bs.map AV.val = as_.map AV.val /\ SVs C 0 ρ (l.map (Zw6 h)) bs /\ ∀ a ∈ bs, Zag w ((Zgu ρ h σ).free Z) a
 | [], as_, _, hs, _ => by rw [ZbA.1 hs]; exact ⟨[], rfl, .none, by simp⟩
 | v :: l, as_, hb, hs, hv => by
  rw [List.all_cons, Bool.and_eq_true] at hb
  obtain ⟨a, cs, rfl, h1, h2⟩ := hs.to
  obtain ⟨a', g1, g2, g3⟩ := Zw8 H hH hb.1 h1 (hv a List.mem_cons_self)
  obtain ⟨bs, q1, q2, q3⟩ := Zpr H hH hb.2 h2 (fun x hx => hv x (List.mem_cons_of_mem _ hx))
  refine ⟨a' :: bs, by rw [List.map_cons, List.map_cons, g1, q1], .cons g2 q2, fun x hx => ?_⟩
  rcases List.mem_cons.1 hx with rfl | hx
  ·exact g3
  ·exact q3 x hx
theorem Tr.lend {f : FuncId} {args : List (XV T)} {r : XV T} (h1 : Tr C P U0 f (args.map (Zw6 h)) [] r []) (hok : args.all (ZrS h) = true) (hr : r.scal3 = true) : Tr C P U f args h r h := by
 intro ρ σ vs hs H w Z hH hV
 obtain ⟨bs, e1, e2, e3⟩ := Zpr H hH hok hs hV
 have H0 : Hp C ρ ([] : List (HI T)) (Zgu ρ h σ) := ⟨fun i x hx => by simp at hx, fun i j x y b hx => by simp at hx⟩
 have hc := h1 ρ (Zgu ρ h σ) bs e2 H0 w Z (Zzh H hH) e3
 rw [e1] at hc
 refine hc.mono ?_
 rintro y w' ⟨rv, τ, rfl, ⟨ρ', hrv, _, R⟩, hH', _, hG⟩
 obtain ⟨s1, s2⟩ := Zw7 (N' := h.length) (ρ' := ρ) hr hrv
 have hused : ∀ b, σ.used b -> τ.used b := R.but.used
 have hkeep : ∀ b k, ¬ ZqQ ρ h b -> σ.blk b = some k -> τ.blk b = some k := fun b k hb hk => R.but.keep b k (fun ⟨i, x, _, hx, _⟩ => by simp at hx) (by rw [Ze9 hb]; exact hk)
 have hnarr : ∀ b t k s, σ.blk b = some (.tail t k s) -> ¬ ZqQ ρ h b := fun b t k s hb hg => by
  obtain ⟨e, cs, q, _⟩ := ZrV H hg
  rw [hb] at q; cases q
 let υ : St := ⟨σ.blk, τ.used, by
  obtain ⟨n, hn⟩ := σ.fin
  obtain ⟨m, hm⟩ := τ.fin
  exact ⟨n + m, fun b hb => ⟨(hm b (by omega)).1, (hn b (by omega)).2⟩⟩⟩
 have hG2 : Grow w σ w' υ := by
  refine ⟨hG.os, hG.tape, hG.output, hG.size, hG.used, fun b hb hn => ⟨(hG.rest b hb ?_).1, hn⟩, fun b t k s hb ht => ⟨(hG.tail b t k s hb (by rw [Ze9 (hnarr _ _ _ _ ht)]; exact ht)).1, .inr ⟨t, k, s, ht, Nat.le_refl _⟩⟩, hused⟩
  by_cases hg : ZqQ ρ h b
  ·exact ZgO hg
  ·rw [Ze9 hg]; exact hn
 have hX : Ext σ υ := ⟨fun _ _ h => h, hused⟩
 refine ⟨rv, υ, rfl, ⟨ρ, s1, H.toExt hX, ⟨Nat.le_refl _, fun _ _ => rfl, hX.but, fun b hb => .inl hb⟩⟩, ⟨hH'.used, fun b hz => ⟨(hH'.z b hz).1, (hH.z b hz).2⟩, fun b t cs hb => ?_, fun b t k s hb => ?_, fun b es hb => ?_⟩, s2 _ _, hG2⟩
 ·obtain ⟨g1, g2, g3⟩ := hH.own _ _ _ hb
  refine ⟨hused _ g1, ?_, fun c hc => hG2.valid (g3 c hc)⟩
  by_cases hg : ZqQ ρ h b
  ·exact (hG.rest b (hH.used _ g1) (ZgO hg)).1.trans g2
  ·exact (hH'.own _ _ _ (hkeep b _ hg hb)).2.1
 ·obtain ⟨g1, g2⟩ := hH'.tail _ _ _ _ (hkeep b _ (hnarr _ _ _ _ hb) hb)
  exact ⟨hused _ (hH.tail _ _ _ _ hb).1, g2⟩
 ·have hna : ¬ ZqQ ρ h b := fun hg => by
   obtain ⟨e, cs, q, _⟩ := ZrV H hg
   rw [hb] at q; cases q
  obtain ⟨g1, g2⟩ := hH'.map _ _ (hkeep b _ hna hb)
  exact ⟨hused _ (hH.map _ _ hb).1, g2⟩
section
variable {n m : Nat}
end
end
end Go.Proofs.YteempnebenjkmaaGreatDoor
/- Clones: as arrays all of which is elements; of arrays of ours. -/
namespace Go.Proofs.YteempnebenjkmaaGreatDoor
open Go.RowKit
set_option linter.unusedSimpArgs false
set_option maxRecDepth 100000
set_option linter.unusedVariables false
set_option linter.unusedSectionVars false
variable {T : Nat -> Type}
section
variable {C : ZaA T} {P : Program} {N N' : Nat} {ρ ρ' : Nat -> AV} {h : List (HI T)} {σ τ : St} {U U0 : Nat -> Prop}
noncomputable def ZmJ (σ τ : St) (g : Nat) : St := ⟨fun b => match σ.blk b with
 | some k => some k
 | none => if b = g then τ.blk b else none, τ.used, by
 obtain ⟨n, hn⟩ := σ.fin
 obtain ⟨m, hm⟩ := τ.fin
 refine ⟨n + m, fun b hb => ⟨(hm b (by omega)).1, ?_⟩⟩
 rw [(hn b (by omega)).2]
 dsimp only
 split
 ·exact (hm b (by omega)).2
 ·rfl⟩
theorem ZlK {σ τ : St} {g b : Nat} {k : Bk} (h : σ.blk b = some k) : (ZmJ σ τ g).blk b = some k := by unfold ZmJ; dsimp only; rw [h]
theorem ZlL {σ τ : St} {g : Nat} (h : σ.blk g = none) : (ZmJ σ τ g).blk g = τ.blk g := by unfold ZmJ; dsimp only; rw [h]; simp
theorem ZiJ {σ τ : St} {g b : Nat} (h : σ.blk b = none) (hb : b ≠ g) : (ZmJ σ τ g).blk b = none := by unfold ZmJ; dsimp only; rw [h]; simp [hb]
end
end Go.Proofs.YteempnebenjkmaaGreatDoor
/- Objects of ours are lent to a call that only reads. -/
namespace Go.Proofs.YteempnebenjkmaaGreatDoor
open Go.RowKit
set_option linter.unusedSimpArgs false
set_option maxRecDepth 100000
set_option linter.unusedVariables false
set_option linter.unusedSectionVars false
variable {T : Nat -> Type}
section
variable {C : ZaA T} {P : Program} {N N' : Nat} {ρ ρ' : Nat -> AV} {h : List (HI T)} {σ τ : St} {U U0 G : Nat -> Prop}
open Classical in
noncomputable def Zfq (G : Nat -> Prop) (σ : St) : St := ⟨fun b => if G b then none else σ.blk b, σ.used, by
 obtain ⟨n, hn⟩ := σ.fin
 refine ⟨n, fun b hb => ⟨(hn b hb).1, ?_⟩⟩
 rw [(hn b hb).2]; simp⟩
theorem Zdr {b : Nat} (hb : G b) : (Zfq G σ).blk b = none := by unfold Zfq; dsimp only; rw [if_pos hb]
theorem Zcg {b : Nat} (hb : ¬ G b) : (Zfq G σ).blk b = σ.blk b := by unfold Zfq; dsimp only; rw [if_neg hb]
theorem ZjD {Z : Nat -> Prop} {b o : Nat} (hf : σ.free Z b o) : (Zfq G σ).free Z b o := by
 obtain ⟨h1, h2, h3⟩ := hf
 refine ⟨h1, h2, ?_⟩
 by_cases hb : G b
 ·rw [Zdr hb]; trivial
 ·rw [Zcg hb]; exact h3
theorem Zhp {w : World} {Z : Nat -> Prop} (hH : Zan w σ Z) : Zan w (Zfq G σ) Z := by
 refine ⟨hH.used, fun b hz => ⟨(hH.z b hz).1, ?_⟩, fun b t cs hb => ?_, fun b t k s hb => ?_, fun b es hb => ?_⟩
 ·by_cases hb : G b
  ·exact Zdr hb
  ·rw [Zcg hb]; exact (hH.z b hz).2
 ·by_cases hg : G b
  ·rw [Zdr hg] at hb; cases hb
  ·rw [Zcg hg] at hb
   obtain ⟨g1, g2, g3⟩ := hH.own _ _ _ hb
   exact ⟨g1, g2, fun c hc => (g3 c hc).sub fun b o => ZjD⟩
 ·by_cases hg : G b
  ·rw [Zdr hg] at hb; cases hb
  ·rw [Zcg hg] at hb
   exact hH.tail _ _ _ _ hb
 ·by_cases hg : G b
  ·rw [Zdr hg] at hb; cases hb
  ·rw [Zcg hg] at hb
   exact hH.map _ _ hb
theorem Zta (hown : ∀ b, G b -> ∃ e cs, σ.blk b = some (.own e cs) /\ σ.used b) {w w' : World} {Z : Nat -> Prop} (hH : Zan w σ Z) {g : Nat} (hH' : Zan w' τ Z) (hG : Grow w (Zfq G σ) w' τ) (hbut : ∀ b k, ¬ G b -> σ.blk b = some k -> τ.blk b = some k) (hused : ∀ b, σ.used b -> τ.used b)
 (hgu : ¬ σ.used g) (hgn : σ.blk g = none) (hflat : ∀ t cs, τ.blk g = some (.own t cs) -> ∀ c ∈ cs, ∀ w B, Zag w B c) : Zan w' (ZmJ σ τ g) Z /\ Grow w σ w' (ZmJ σ τ g) /\ Ext σ (ZmJ σ τ g) := by
 have hnarr : ∀ b t k s, σ.blk b = some (.tail t k s) -> ¬ G b := fun b t k s hb hg => by
  obtain ⟨e, cs, q, _⟩ := hown b hg
  rw [hb] at q; cases q
 have hge : τ.used g -> ¬ g < w.heap.size := fun hu hl => hgu (hG.used g hl hu)
 have hG2 : Grow w σ w' (ZmJ σ τ g) := by
  refine ⟨hG.os, hG.tape, hG.output, hG.size, hG.used, fun b hb hn => ?_, fun b t k s hb ht => ⟨(hG.tail b t k s hb (by rw [Zcg (hnarr _ _ _ _ ht)]; exact ht)).1, .inr ⟨t, k, s, ZlK ht, Nat.le_refl _⟩⟩, hused⟩
  have hl : (Zfq G σ).blk b = none := by
   by_cases hg : G b
   ·exact Zdr hg
   ·rw [Zcg hg]; exact hn
  obtain ⟨q1, q2⟩ := hG.rest b hb hl
  refine ⟨q1, ?_⟩
  by_cases hbg : b = g
  ·subst hbg; rw [ZlL hn]; exact q2
  ·exact ZiJ hn hbg
 refine ⟨⟨hH'.used, fun b hz => ⟨(hH'.z b hz).1, ?_⟩, fun b t cs hb => ?_, fun b t k s hb => ?_, fun b es hb => ?_⟩, hG2, ⟨fun b k hk => ZlK hk, hused⟩⟩
 ·have hn := (hH.z b hz).2
  by_cases hbg : b = g
  ·subst hbg; rw [ZlL hn]; exact (hH'.z b hz).2
  ·exact ZiJ hn hbg
 ·cases hs : σ.blk b with
  | some k =>
   rw [ZlK hs] at hb
   injection hb with hb
   subst hb
   obtain ⟨g1, g2, g3⟩ := hH.own _ _ _ hs
   refine ⟨hused _ g1, ?_, fun c hc => hG2.valid (g3 c hc)⟩
   by_cases hg : G b
   ·exact (hG.rest b (hH.used _ g1) (Zdr hg)).1.trans g2
   ·exact (hH'.own _ _ _ (hbut b _ hg hs)).2.1
  | none =>
   by_cases hbg : b = g
   ·subst hbg
    rw [ZlL hs] at hb
    obtain ⟨g1, g2, _⟩ := hH'.own _ _ _ hb
    exact ⟨g1, g2, fun c hc => hflat _ _ hb c hc _ _⟩
   ·rw [ZiJ hs hbg] at hb; cases hb
 ·cases hs : σ.blk b with
  | some k' =>
   rw [ZlK hs] at hb
   injection hb with hb
   subst hb
   obtain ⟨g1, g2⟩ := hH'.tail _ _ _ _ (hbut b _ (hnarr _ _ _ _ hs) hs)
   exact ⟨hused _ (hH.tail _ _ _ _ hs).1, g2⟩
  | none =>
   by_cases hbg : b = g
   ·subst hbg
    rw [ZlL hs] at hb
    exact hH'.tail _ _ _ _ hb
   ·rw [ZiJ hs hbg] at hb; cases hb
 ·cases hs : σ.blk b with
  | some k' =>
   rw [ZlK hs] at hb
   injection hb with hb
   subst hb
   have hna : ¬ G b := fun hg => by
    obtain ⟨e, cs, q, _⟩ := hown b hg
    rw [hs] at q; cases q
   obtain ⟨g1, g2⟩ := hH'.map _ _ (hbut b _ hna hs)
   exact ⟨hused _ (hH.map _ _ hs).1, g2⟩
  | none =>
   by_cases hbg : b = g
   ·subst hbg
    rw [ZlL hs] at hb
    exact hH'.map _ _ hb
   ·rw [ZiJ hs hbg] at hb; cases hb
end
end Go.Proofs.YteempnebenjkmaaGreatDoor
