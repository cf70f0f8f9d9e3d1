/- XFz, XTw, XCl, XLe, XHd, XHw, XLy, XHx in one. -/
import Derived.Test.YtinpiaibhjmfaaaMc
import Derived.Test.YtinpiaibhjmfaaaMb
namespace Go.Proofs.Ytinpiaibhjmfaaa
open Go.RowKit
set_option linter.unusedSimpArgs false
set_option maxRecDepth 100000
set_option linter.unusedVariables false
variable {T : Nat -> Type}
section
variable {C : Zbg T} {P : Program}
theorem Zat.thaw {f : FuncId} {args : List AV} {σ : St} {e sz n : Nat} {cs : List AV} (hcs : ∀ w Z, Zau w σ Z -> (∀ a ∈ args, Zap w (σ.free Z) a) -> ∀ a ∈ cs, Zap w (σ.free Z) a) (hl : cs.length = n * sz)
 (h : Zat P f args σ fun rv τ => ∃ b c, rv = .lst (some ⟨b, 0, none⟩) n c cs /\ n <= c /\ c <= maxLen /\ τ.blk b = some (.tail e (n * sz) (c * sz)) /\ Ext σ τ /\ σ.blk b = none /\ ¬ σ.used b) :
 Zat P f args σ fun rv τ => ∃ b c rest, rv = .raw (.slice (some ⟨b, 0, none⟩) n c) /\ n <= c /\ c <= maxLen /\ τ = σ.put b (.own e (cs ++ rest)) /\ (cs ++ rest).length = c * sz /\ σ.blk b = none /\ ¬ σ.used b := by
 refine fun w Z hH hV => (h w Z hH hV).mono ?_
 rintro x w' ⟨r, τ, rfl, ⟨b, c, rfl, hnc, hcm, hb, hX, f1, f2⟩, hH', hV', hG⟩
 obtain ⟨hub, cur, hcur, hcz, hk⟩ := hH'.tail _ _ _ _ hb
 have hbl : b < w'.heap.size := (Array.getElem?_eq_some_iff.1 hcur).1
 have hbw : w.heap.size <= b := by
  rcases Nat.lt_or_ge b w.heap.size with hlt | hge
  ·exact absurd (hG.used b hlt hub) f2
  ·exact hge
 have hcv := hcs w Z hH hV
 unfold Zap at hV'
 have hat := hV'.2.2 _ rfl
 have hhead : cur.toList.take (n * sz) = cs.map AV.val := by
  apply List.ext_getElem?
  intro j
  rw [List.getElem?_take]
  split
  ·rename_i hj
   have hjl : j < cs.length := by omega
   have := (Zjh hat (List.getElem?_eq_getElem hjl)).1
   rw [Zcr, Nat.zero_add, cell_of_row w' b j cur e (0, 0) hcur] at this
   rw [List.getElem?_map, List.getElem?_eq_getElem hjl, Array.getElem?_toList, this]
   rfl
  ·rename_i hj
   rw [List.getElem?_map, List.getElem?_eq_none (by omega)]
   rfl
 have hall : cur = ((cs ++ (cur.toList.drop (n * sz)).map AV.raw).map AV.val).toArray := by
  apply Array.ext'
  rw [List.map_append, <- hhead]
  simp [Function.comp_def]
 have hlen : (cs ++ (cur.toList.drop (n * sz)).map AV.raw).length = c * sz := by
  have h9 := hcz.symm.trans (congrArg Array.size hall)
  rw [List.size_toArray, List.length_map] at h9
  exact h9.symm
 have hne : ∀ b', b' < w.heap.size -> b' ≠ b := fun b' h' => by omega
 have hG2 : Grow w σ w' (σ.put b (.own e (cs ++ (cur.toList.drop (n * sz)).map AV.raw))) := by
  refine ⟨hG.os, hG.tape, hG.output, hG.size, fun b' h1 h2 => ?_, fun b' h1 h2 => ⟨(hG.rest b' h1 h2).1, ?_⟩, fun b' t k s h1 h2 => ⟨(hG.tail b' t k s h1 h2).1, .inr ⟨t, k, s, ?_, Nat.le_refl _⟩⟩, fun b' h1 => .inl h1⟩
  ·rcases h2 with h2 | h2
   ·exact h2
   ·exact absurd h2 (hne b' h1)
  ·rw [ZaB _ _ (hne b' h1)]; exact h2
  ·rw [ZaB _ _ (hne b' h1)]; exact h2
 refine ⟨.raw (.slice (some ⟨b, 0, none⟩) n c), _, by simp, ⟨b, c, _, rfl, hnc, hcm, rfl, hlen, f1, f2⟩, ⟨fun b' hu => ?_, fun b' hz => ?_, fun b' t cs' hb' => ?_, fun b' t k s hb' => ?_, fun b' es hb' => ?_⟩, ZaY _, hG2⟩
 ·rcases hu with hu | hu
  ·exact Nat.lt_of_lt_of_le (hH.used _ hu) hG.size
  ·rw [hu]; exact hbl
 ·obtain ⟨z1, z2⟩ := hH.z _ hz
  exact ⟨Nat.lt_of_lt_of_le z1 hG.size, by rw [ZaB _ _ (hne b' z1)]; exact z2⟩
 ·by_cases hbb : b' = b
  ·subst hbb
   rw [Za7] at hb'
   injection hb' with hb'
   injection hb' with e1 e2
   subst e1 e2
   refine ⟨.inr rfl, by rw [<- hall]; exact hcur, fun q hq => ?_⟩
   rcases List.mem_append.1 hq with hq | hq
   ·exact hG2.valid (hcv q hq)
   ·obtain ⟨v, _, rfl⟩ := List.mem_map.1 hq
    exact ZaY _
  ·rw [ZaB _ _ hbb] at hb'
   obtain ⟨q1, q2, q3⟩ := hH.own _ _ _ hb'
   obtain ⟨q4, q5, _⟩ := hH'.own _ _ _ (hX.keep _ _ hb')
   exact ⟨.inl q1, q5, fun q hq => hG2.valid (q3 q hq)⟩
 ·by_cases hbb : b' = b
  ·subst hbb
   rw [Za7] at hb'
   injection hb' with hb'
   cases hb'
  ·rw [ZaB _ _ hbb] at hb'
   obtain ⟨q1, _⟩ := hH.tail _ _ _ _ hb'
   obtain ⟨_, q2⟩ := hH'.tail _ _ _ _ (hX.keep _ _ hb')
   exact ⟨.inl q1, q2⟩
 ·by_cases hbb : b' = b
  ·subst hbb
   rw [Za7] at hb'
   injection hb' with hb'
   cases hb'
  ·rw [ZaB _ _ hbb] at hb'
   obtain ⟨q1, _⟩ := hH.map _ _ hb'
   obtain ⟨_, q2⟩ := hH'.map _ _ (hX.keep _ _ hb')
   exact ⟨.inl q1, q2⟩
theorem Tr.freeze {f : FuncId} {args : List (XV T)} {x : HI T} {E n : Nat} {co : Option Nat} {e : TypeId} {kp : Bool} {xs : List (T E)} (hn0 : n ≠ 0) (hn : n <= xs.length) (h : Tr C P (fun _ => True) f args [x] (.as E 1 0 n co) [.dead, .arr e E kp xs]) :
 Tr C P (fun _ => True) f args [x] (.sl E (xs.take n) (some 1)) [.dead, .row e (C.sz E)] := by
 intro ρ σ vs hs H
 have h := h ρ σ vs hs H
 have hsz := C.pos E
 have hxl : (xs.take n).length = n := by rw [List.length_take]; omega
 refine fun w Z hH hV => (h w Z hH hV).mono ?_
 rintro y w' ⟨r, τ, rfl, ⟨ρ', hr, H', R⟩, hH', hV', hG⟩
 rcases ZmN.1 hr with ⟨ad, c, rfl, hA⟩ | ⟨rfl, hn1, hiN, hρi, hco⟩
 ·obtain ⟨b, q1, q2⟩ := hA.at_
  obtain ⟨pre, rest, hb2, hb3, hb4, hb5, hb6⟩ := H'.arrAt (i := 1) rfl q1
  rw [Nat.zero_add] at q1 hb5
  have hpl := (hb4 0 ρ).len
  rw [Zli] at hpl
  have hm1 : n * C.sz E <= xs.length * C.sz E := Nat.mul_le_mul_right _ hn
  have hm2 : n * C.sz E <= c * C.sz E := Nat.mul_le_mul_right _ hA.le
  have hsv : ∀ N ρ, SVs C N ρ ((xs.take n).flatMap (C.enc E)) (pre.take (n * C.sz E)) := fun N ρ => by
   have := (hb4 N ρ).take (n * C.sz E)
   rw [ZjP] at this
   exact this
  have hpt : (pre.take (n * C.sz E)).length = n * C.sz E := by rw [List.length_take]; omega
  obtain ⟨o1, o2, o3⟩ := hH'.own _ _ _ hb2
  have hzb : ¬ Z b := fun hz => by have := (hH'.z _ hz).2; rw [hb2] at this; cases this
  have hset : (τ.set b (.tail e (n * C.sz E) (c * C.sz E))).blk b = some (.tail e (n * C.sz E) (c * C.sz E)) := by show (if b = b then _ else τ.blk b) = _; rw [if_pos rfl]
  have hoth : ∀ b', b' ≠ b -> (τ.set b (.tail e (n * C.sz E) (c * C.sz E))).blk b' = τ.blk b' := fun b' hb' => by show (if b' = b then _ else τ.blk b') = _; rw [if_neg hb']
  have hfree : ∀ b' o, τ.free Z b' o -> (τ.set b (.tail e (n * C.sz E) (c * C.sz E))).free Z b' o := fun b' o hf => by
   obtain ⟨z1, z2, z3⟩ := hf
   have hne : b' ≠ b := by rintro rfl; rw [hb2] at z3; exact z3
   refine ⟨z1, z2, ?_⟩
   rw [hoth b' hne]; exact z3
  have hHf : Zau w' (τ.set b (.tail e (n * C.sz E) (c * C.sz E))) Z := by
   refine ⟨hH'.used, fun b' hz => ?_, fun b' t cs' hb' => ?_, fun b' t k s hb' => ?_, fun b' es hb' => ?_⟩
   ·obtain ⟨z1, z2⟩ := hH'.z _ hz
    have hne : b' ≠ b := by rintro rfl; exact hzb hz
    exact ⟨z1, by rw [hoth b' hne]; exact z2⟩
   ·have hne : b' ≠ b := by rintro rfl; rw [hset] at hb'; injection hb' with hb'; cases hb'
    rw [hoth b' hne] at hb'
    obtain ⟨p1, p2, p3⟩ := hH'.own _ _ _ hb'
    exact ⟨p1, p2, fun q hq => (p3 q hq).sub hfree⟩
   ·by_cases hne : b' = b
    ·subst hne
     rw [hset] at hb'
     injection hb' with hb'
     injection hb' with e1 e2 e3
     subst e1 e2 e3
     exact ⟨o1, _, o2, by simp only [List.size_toArray, List.length_map]; exact hb5, hm2⟩
    ·rw [hoth b' hne] at hb'
     exact hH'.tail _ _ _ _ hb'
   ·by_cases hne : b' = b
    ·subst hne
     rw [hset] at hb'
     injection hb' with hb'
     cases hb'
    ·rw [hoth b' hne] at hb'
     exact hH'.map _ _ hb'
  have hGf : Grow w σ w' (τ.set b (.tail e (n * C.sz E) (c * C.sz E))) := by
   refine ⟨hG.os, hG.tape, hG.output, hG.size, hG.used, fun b' h1 h2 => ⟨(hG.rest b' h1 h2).1, ?_⟩, fun b' t k s h1 h2 => ⟨(hG.tail b' t k s h1 h2).1, ?_⟩, hG.more⟩
   ·have := (hG.rest b' h1 h2).2
    have hne : b' ≠ b := by rintro rfl; rw [hb2] at this; cases this
    rw [hoth b' hne]; exact this
   ·have := (hG.tail b' t k s h1 h2).2
    have hne : b' ≠ b := by
     rintro rfl
     rw [hb2] at this
     rcases this with h | ⟨_, _, _, h, _⟩
     ·cases h
     ·injection h with h; cases h
    rw [hoth b' hne]; exact this
  have hVf : Zap w' ((τ.set b (.tail e (n * C.sz E) (c * C.sz E))).free Z) (.lst (some ⟨b, 0, none⟩) n c (pre.take (n * C.sz E))) := by
   unfold Zap
   refine ⟨hA.le, (fun hq => by cases hq), fun ad' had' => ?_⟩
   injection had' with had'
   subst had'
   refine ZaI.mk fun j q hq => ?_
   have hjl : j < n * C.sz E := by rw [<- hpt]; exact Zbr hq
   have hq' : (pre ++ rest)[j]? = some q := by
    rw [List.getElem?_take] at hq
    rw [if_pos hjl] at hq
    rw [List.getElem?_append_left (Zbr hq)]
    exact hq
   have hcell := ZeE hH' hb2 0 j (by rw [Nat.zero_add]; exact hq')
   rw [Nat.zero_add]
   refine ⟨hcell, ?_, (o3 q (List.mem_of_getElem? hq')).sub hfree⟩
   refine ⟨hzb, o1, ?_⟩
   rw [hset]
   simpa using hjl
  have hval : AV.val (.raw (.slice (some ad) n c)) = (AV.lst (some ⟨b, 0, none⟩) n c (pre.take (n * C.sz E))).val \/ c = 0 := by
   by_cases h0 : c = 0
   ·exact .inr h0
   ·left
    have := q2 (by omega)
    rw [Nat.zero_mul] at this
    subst this
    simp
  rcases hval with hval | hc0
  ·have hext : ∀ j, j < ([x] : List (HI T)).length -> rup ρ' 1 (.lst (some ⟨b, 0, none⟩) n c (pre.take (n * C.sz E))) j = ρ j := fun j hj => by
    have : j ≠ 1 := by simp at hj; omega
    rw [Zdz this]
    exact R.ext j hj
   refine ⟨.lst (some ⟨b, 0, none⟩) n c (pre.take (n * C.sz E)), τ.set b (.tail e (n * C.sz E) (c * C.sz E)), by rw [hval], ⟨rup ρ' 1 (.lst (some ⟨b, 0, none⟩) n c (pre.take (n * C.sz E))), ?_, ⟨fun i y hy => ?_, fun i j y y' b' hy hy' ay ay' by_ by_' => ?_⟩, ⟨R.len, hext, ⟨fun b' k hb' hk => ?_, R.but.used⟩, fun b' ⟨i, y, hy, ay, by_⟩ => ?_⟩⟩, hHf, hVf, hGf⟩
   ·have hs1 : SV C 2 (rup ρ' 1 (.lst (some ⟨b, 0, none⟩) n c (pre.take (n * C.sz E)))) (.sl E (xs.take n) none) (.lst (some ⟨b, 0, none⟩) n c (pre.take (n * C.sz E))) := by
     have := Zd2 (C := C) (N := 2) (ρ := rup ρ' 1 (.lst (some ⟨b, 0, none⟩) n c (pre.take (n * C.sz E)))) (E := E) (xs := xs.take n) (a := .lst (some ⟨b, 0, none⟩) n c (pre.take (n * C.sz E)))
     rw [hxl] at this
     exact this.2 ⟨_, c, _, [], by rw [List.append_nil], hA.le, hA.max, hA.len, (fun hq => by cases hq), hsv _ _⟩
    exact Zpn.2 ⟨(Za6 _ _ _).symm, by simp, hs1⟩
   ·match i, hy with
    | 0, hy => injection hy with hy; subst hy; trivial
    | 1, hy =>
     injection hy with hy
     subst hy
     exact ⟨n, pre.take (n * C.sz E), by rw [Za6]; exact ⟨hpt, .inr ⟨b, c, rfl, hA.le, hA.max, hset, o1⟩⟩⟩
   ·have hi1 : ∀ i (y : HI T), ([HI.dead, .row e (C.sz E)] : List (HI T))[i]? = some y -> y.alive = true -> i = 1 := fun i y hy ay => by
     match i, hy with
     | 0, hy => injection hy with hy; subst hy; cases ay
     | 1, _ => rfl
    rw [hi1 i y hy ay, hi1 j y' hy' ay']
   ·have hb0 := R.but.keep b' k hb' hk
    have hne : b' ≠ b := by
     rintro rfl
     rcases R.born b' ⟨1, _, rfl, rfl, by rw [q1]; rfl⟩ with hl | ⟨hl, _⟩
     ·obtain ⟨i, y, p1, p2, p3⟩ := hl
      exact hb' ⟨i, y, trivial, p1, p2, p3⟩
     ·rw [hl] at hk; cases hk
    rw [hoth b' hne]; exact hb0
   ·match i, hy with
    | 0, hy => injection hy with hy; subst hy; cases ay
    | 1, hy =>
     rw [Za6] at by_
     exact R.born b' ⟨1, _, rfl, rfl, by rw [q1]; exact by_⟩
  ·exact absurd hA.le (by omega)
 ·exact absurd hn1 hn0
end
end Go.Proofs.Ytinpiaibhjmfaaa
namespace Go.Proofs.Ytinpiaibhjmfaaa
open Go.RowKit
set_option linter.unusedSimpArgs false
set_option maxRecDepth 100000
set_option linter.unusedVariables false
variable {T : Nat -> Type}
section
variable {C : Zbg T} {P : Program} {N N' : Nat} {ρ ρ' : Nat -> AV} {h : List (HI T)} {σ τ : St} {U U0 : Nat -> Prop}
open Classical in
section
variable {n m : Nat}
end
end
end Go.Proofs.Ytinpiaibhjmfaaa
namespace Go.Proofs.Ytinpiaibhjmfaaa
open Go.RowKit
set_option linter.unusedSimpArgs false
set_option maxRecDepth 100000
set_option linter.unusedVariables false
set_option linter.unusedSectionVars false
variable {T : Nat -> Type}
section
variable {C : Zbg T} {P : Program} {N N' : Nat} {ρ ρ' : Nat -> AV} {h : List (HI T)} {σ τ : St} {U U0 : Nat -> Prop}
end
end Go.Proofs.Ytinpiaibhjmfaaa
namespace Go.Proofs.Ytinpiaibhjmfaaa
open Go.RowKit
set_option linter.unusedSimpArgs false
set_option maxRecDepth 100000
set_option linter.unusedVariables false
set_option linter.unusedSectionVars false
variable {T : Nat -> Type}
section
variable {C : Zbg T} {P : Program} {N N' : Nat} {ρ ρ' : Nat -> AV} {h : List (HI T)} {σ τ : St} {U U0 G : Nat -> Prop}
open Classical in
noncomputable def ZfC (G : Nat -> Prop) (σ : St) : St := ⟨fun b => if G b then none else σ.blk b, σ.used, by
 obtain ⟨n, hn⟩ := σ.fin
 refine ⟨n, fun b hb => ⟨(hn b hb).1, ?_⟩⟩
 rw [(hn b hb).2]; simp⟩
theorem ZdR {b : Nat} (hb : G b) : (ZfC G σ).blk b = none := by unfold ZfC; dsimp only; rw [if_pos hb]
theorem ZeJ {b : Nat} (hb : ¬ G b) : (ZfC G σ).blk b = σ.blk b := by unfold ZfC; dsimp only; rw [if_neg hb]
theorem Zg6 {Z : Nat -> Prop} {b o : Nat} (hf : σ.free Z b o) : (ZfC G σ).free Z b o := by
 obtain ⟨h1, h2, h3⟩ := hf
 refine ⟨h1, h2, ?_⟩
 by_cases hb : G b
 ·rw [ZdR hb]; trivial
 ·rw [ZeJ hb]; exact h3
theorem ZjR {w : World} {Z : Nat -> Prop} (hH : Zau w σ Z) : Zau w (ZfC G σ) Z := by
 refine ⟨hH.used, fun b hz => ⟨(hH.z b hz).1, ?_⟩, fun b t cs hb => ?_, fun b t k s hb => ?_, fun b es hb => ?_⟩
 ·by_cases hb : G b
  ·exact ZdR hb
  ·rw [ZeJ hb]; exact (hH.z b hz).2
 ·by_cases hg : G b
  ·rw [ZdR hg] at hb; cases hb
  ·rw [ZeJ hg] at hb
   obtain ⟨g1, g2, g3⟩ := hH.own _ _ _ hb
   exact ⟨g1, g2, fun c hc => (g3 c hc).sub fun b o => Zg6⟩
 ·by_cases hg : G b
  ·rw [ZdR hg] at hb; cases hb
  ·rw [ZeJ hg] at hb
   exact hH.tail _ _ _ _ hb
 ·by_cases hg : G b
  ·rw [ZdR hg] at hb; cases hb
  ·rw [ZeJ hg] at hb
   exact hH.map _ _ hb
end
end Go.Proofs.Ytinpiaibhjmfaaa
namespace Go.Proofs.Ytinpiaibhjmfaaa
open Go.RowKit
set_option maxRecDepth 100000
set_option linter.unusedVariables false
set_option linter.unusedSimpArgs false
def hbk : AV -> Option Nat
 | .raw (.slice (some ad) _ (_ + 1)) => some ad.block
 | _ => none
def hdr (b n c : Nat) : AV := .raw (.slice (some ⟨b, 0, none⟩) n c)
theorem ZcU {b n c : Nat} (hc : 0 < c) : hbk (hdr b n c) = some b := by
 cases c with
 | zero => omega
 | succ c => rfl
theorem ZdB {b b' n c : Nat} (h : hbk (hdr b n c) = some b') : b = b' := by
 cases c with
 | zero => cases h
 | succ c => injection h
@[simp] theorem Zqv : hbk (.lst none 0 0 []) = none := rfl
def Hd (σ : St) (e sz : Nat) (v : AV) (n : Nat) (cells : List AV) : Prop :=
 cells.length = n * sz /\ (∀ a ∈ cells, a.one = true) /\ (((v = .lst none 0 0 [] \/ ∃ ad, v = .raw (.slice (some ad) 0 0)) /\ n = 0) \/ ∃ b c all, 0 < c /\ v = hdr b n c /\ σ.blk b = some (.own e all) /\ σ.used b /\ all.length = c * sz /\ all.take (n * sz) = cells /\ n <= c /\ c <= maxLen)
section
variable {P : Program} {O : Nat -> Prop} {ops : Array Oper} {rest : List Oper} {env : Env} {σ τ : St} {K : Env -> St -> Prop} {d : Option Nat} {ty ty' t : TypeId} {pos : String} {af : Array Edge} {x y : Operand} {e e' sz sz' n m : Nat} {v u : AV} {cells cs ds : List AV} {b : Nat}
theorem Hd.len (h : Hd σ e sz v n cells) : cells.length = n * sz := h.1
theorem Hd.one (h : Hd σ e sz v n cells) : ∀ a ∈ cells, a.one = true := h.2.1
theorem Hd.at_ (h : Hd σ e sz v n cells) (hb : hbk v = some b) : ∃ c all, v = hdr b n c /\ σ.blk b = some (.own e all) /\ σ.used b /\ all.length = c * sz /\ all.take (n * sz) = cells /\ n <= c /\ c <= maxLen := by
 rcases h.2.2 with ⟨rfl | ⟨ad, rfl⟩, _⟩ | ⟨b', c, all, hc, rfl, h1⟩
 ·cases hb
 ·cases hb
 ·obtain rfl := ZdB hb
  exact ⟨c, all, rfl, h1⟩
theorem Hd.blk (h : Hd σ e sz v n cells) (hb : hbk v = some b) : ∃ all, σ.blk b = some (.own e all) := by
 obtain ⟨_, all, _, h1, _⟩ := h.at_ hb
 exact ⟨all, h1⟩
theorem Hd.used (h : Hd σ e sz v n cells) (hb : hbk v = some b) : σ.used b := by
 obtain ⟨_, all, _, _, h1, _⟩ := h.at_ hb
 exact h1
theorem Hd.val (h : Hd σ e sz v n cells) : ∃ A c, v.val = .slice A n c /\ (A = none -> n = 0 /\ c = 0) /\ n <= c := by
 rcases h.2.2 with ⟨rfl | ⟨ad, rfl⟩, rfl⟩ | ⟨b, c, all, _, rfl, _, _, _, _, h1, _⟩
 ·exact ⟨none, 0, by simp, fun _ => ⟨rfl, rfl⟩, Nat.le_refl _⟩
 ·exact ⟨some ad, 0, rfl, (fun h => by cases h), Nat.le_refl _⟩
 ·exact ⟨some ⟨b, 0, none⟩, c, rfl, (fun h => by cases h), h1⟩
theorem Hd.oneV (h : Hd σ e sz v n cells) : v.one = true /\ Zbi v = true /\ v.cells = [v] := by
 rcases h.2.2 with ⟨rfl | ⟨ad, rfl⟩, rfl⟩ | ⟨b, c, all, _, rfl, _⟩ <;> exact ⟨rfl, rfl, rfl⟩
theorem Hd.some_ (h : Hd σ e sz v n cells) (hn : 0 < n) : ∃ b, hbk v = some b := by
 rcases h.2.2 with ⟨_, rfl⟩ | ⟨b, c, all, hc, rfl, _⟩
 ·omega
 ·exact ⟨b, ZcU hc⟩
theorem Hd.src (h : Hd σ e sz v n cells) (hsz : 0 < sz) : Src σ sz v n cells := by
 obtain ⟨h1, h2, h3⟩ := h
 rcases h3 with ⟨rfl | ⟨ad, rfl⟩, rfl⟩ | ⟨b, c, all, _, rfl, g1, g2, g3, g4, g5, g6⟩
 ·rw [List.eq_nil_of_length_eq_zero (by rw [h1, Nat.zero_mul] : cells.length = 0)]
  exact Zlj
 ·rw [List.eq_nil_of_length_eq_zero (by rw [h1, Nat.zero_mul] : cells.length = 0)]
  exact ⟨by simp, by simp, ⟨some ad, 0, rfl, fun _ => rfl⟩, fun w Z hH hV => ⟨by simp, fun ad c hy j u hu => by simp at hu⟩⟩
 ·have hm : n * sz <= c * sz := Nat.mul_le_mul_right _ g5
  have hs := ZjQ (σ := σ) (sz := sz) (off := 0) (m := n) (y := hdr b n c) (ad := ⟨b, 0, none⟩) (c := c) rfl g1 (fun _ => rfl) hsz (by omega) (by rw [List.drop_zero, g4]; exact h2)
  rw [List.drop_zero, g4] at hs
  exact hs
theorem Hd.but {S : Nat -> Prop} (h : Hd σ e sz v n cells) (k : But S σ τ) (hS : ∀ b, hbk v = some b -> ¬ S b) : Hd τ e sz v n cells := by
 refine ⟨h.1, h.2.1, ?_⟩
 rcases h.2.2 with h3 | ⟨b, c, all, hc, rfl, g1, g2, g3⟩
 ·exact .inl h3
 ·exact .inr ⟨b, c, all, hc, rfl, k.keep _ _ (hS _ (ZcU hc)) g1, k.used _ g2, g3⟩
theorem Hd.ext (h : Hd σ e sz v n cells) (k : Ext σ τ) : Hd τ e sz v n cells := h.but (S := fun _ => False) k.but fun _ _ => id
theorem Hd.ne (h : Hd σ e sz v n cs) (k : Hd σ e' sz' u m ds) (hne : e ≠ e') (hb : hbk v = some b) : hbk u ≠ some b := fun hu => by
 obtain ⟨_, h1⟩ := h.blk hb
 obtain ⟨_, h2⟩ := k.blk hu
 rw [h1] at h2
 injection h2 with h2
 injection h2 with h2
 exact hne h2
theorem Hd.old (h : Hd σ e sz v n cs) (hb : hbk v = some b) (hn : σ.blk b = none) : False := by
 obtain ⟨_, h1⟩ := h.blk hb
 rw [h1] at hn
 cases hn
theorem Zbb {k : IntKind} {j : Nat} (hx : ev env x = v) (hy : ev env y = .raw (.int k j)) (ht : ZaX P t = some e) (hs : ZaO P e = some sz) (hown : Hd σ e sz v n cells) (hj : j < n) (h : ∀ b, hbk v = some b -> K (env.put d (ptr b (j * sz))) σ) : aOp P ops ⟨d, .indexAddr t x y, ty, pos, af, none⟩ env σ K := by
 obtain ⟨b, hb⟩ := hown.some_ (by omega)
 obtain ⟨c, all, rfl, h1⟩ := hown.at_ hb
 refine Zd9 (vs := [hdr b n c, .raw (.int k j)]) rfl (by simp [Op.operands, hx, hy]) (fun _ _ h => .inl h) (fun ρ hρ w _ _ => ?_) (h b hb)
 simp [Op.operands] at hρ
 have hr := Zgm (P := P) (w := w) (ad := ⟨b, 0, none⟩) (n := n) (c := c) (k := k) (j := j) ht hs hj
 simp only [execOp, hρ.1, hρ.2, hdr, AV.val_raw, Sem.run_bind, hr, Result.andThen_ok, Sem.run_pure]
 rw [Zcr, Nat.zero_add]
theorem Hd.load {j : Nat} (h : Hd σ e sz v n cells) (hb : hbk v = some b) (hj : j < n) (ha : Zek P t = some true) (hs : ZaO P t = some sz) : ZdM P t σ (ptr b (j * sz)) = some (.agg ((cells.drop (j * sz)).take sz)) := by
 obtain ⟨c, all, rfl, g1, g2, g3, g4, g5, g6⟩ := h.at_ hb
 unfold ZdM ptr
 dsimp only
 rw [g1, ha, hs]
 dsimp only [Zch]
 have h1 : (j + 1) * sz <= n * sz := Nat.mul_le_mul_right _ hj
 have h2 : n * sz <= c * sz := Nat.mul_le_mul_right _ g5
 rw [Nat.succ_mul] at h1
 rw [if_pos (by omega), <- g4, List.drop_take, List.take_take, Nat.min_eq_left (by omega)]
theorem Hd.load1 {j : Nat} {r : AV} (h : Hd σ e 1 v n cells) (hb : hbk v = some b) (hj : j < n) (hr : cells[j]? = some r) (ha : Zek P t = some false) (hs : ZaO P t = some 1) : ZdM P t σ (ptr b (j * 1)) = some r := by
 obtain ⟨c, all, rfl, g1, g2, g3, g4, g5, g6⟩ := h.at_ hb
 unfold ZdM ptr
 dsimp only
 rw [g1, ha, hs]
 dsimp only [Zch]
 rw [Nat.mul_one] at *
 rw [<- g4, List.getElem?_take_of_lt (by omega)] at hr
 exact hr
theorem ZjS {j : Nat} {r : AV} (hx : ev env x = ptr b (j * sz)) (hy : ev env y = r) (hs : ZaO P t = some sz) (hown : Hd σ e sz v n cells) (hb : hbk v = some b) (hj : j < n) (h1 : Zbi r = true /\ r.cells.length = sz /\ ∀ a ∈ r.cells, a.one = true)
 (h : ∀ τ, Hd τ e sz v n (ZaR cells (j * sz) r.cells) -> But (fun c => hbk v = some c) σ τ -> K (env.put d (.raw undef)) τ) : aOp P ops ⟨d, .store t x y, ty, pos, af, none⟩ env σ K := by
 obtain ⟨c, all, rfl, g1, g2, g3, g4, g5, g6⟩ := hown.at_ hb
 have q1 : (j + 1) * sz <= n * sz := Nat.mul_le_mul_right _ hj
 have q2 : n * sz <= c * sz := Nat.mul_le_mul_right _ g5
 rw [Nat.succ_mul] at q1
 have hl := hown.len
 refine Zd1 hx hy g1 hs ?_ rfl fun τ k1 k2 => h τ ⟨?_, ?_, .inr ⟨b, c, _, by omega, rfl, k1, k2.used _ g2, ?_, ?_, g5, g6⟩⟩ ⟨fun c' k hc hk => k2.keep _ _ (fun e => hc (by rw [e]; exact hb)) hk, k2.used⟩
 ·simp [h1.1, h1.2.1, List.all_eq_true.2 h1.2.2]; omega
 ·unfold ZaR
  simp only [List.length_append, List.length_take, List.length_drop, h1.2.1]
  omega
 ·intro a ha
  unfold ZaR at ha
  simp only [List.mem_append] at ha
  rcases ha with (ha | ha) | ha
  ·exact hown.one a (List.mem_of_mem_take ha)
  ·exact h1.2.2 a ha
  ·exact hown.one a (List.mem_of_mem_drop ha)
 ·unfold ZaR
  simp only [List.length_append, List.length_take, List.length_drop, h1.2.1]
  omega
 ·unfold ZaR
  rw [<- g4, h1.2.1]
  apply List.ext_getElem?
  intro q
  simp only [List.getElem?_take, List.getElem?_append, List.getElem?_drop, List.length_append, List.length_take, h1.2.1]
  repeat' split
  all_goals first | rfl | (exfalso; omega) | (congr 1; omega) | skip
theorem Zln {r : AV} {bytes : Nat} {z : Value} {news : List AV} (hx : ev env x = v) (hy : ev env y = r) (ht : ZaX P t = some e) (hs : ZaO P e = some sz) (hz : ZbL P e = some z) (hby : ZcT P e = some bytes) (hzs : z.cells.size = sz) (hsz : 0 < sz)
 (hown : Hd σ e sz v n cells) (src : Src σ sz r m news) (hm0 : 0 < m) (h63 : n + m <= maxLen) (hbb : (n + m) * bytes <= 140737488355328)
 (h : ∀ v' τ, Hd τ e sz v' (n + m) (cells ++ news) -> (∀ u k ds, Hd σ e sz u k ds -> (∀ b, hbk v = some b -> hbk u = some b -> k <= n) -> Hd τ e sz u k ds) -> But (fun c => hbk v = some c) σ τ -> (∀ c, hbk v' = some c -> hbk v = some c \/ (σ.blk c = none /\ ¬ σ.used c)) -> K (env.put d v') τ) :
 aOp P ops ⟨d, .call ⟨.builtin .append, #[x, y], #[t, t]⟩, ty, pos, af, none⟩ env σ K := by
 rw [ZaQ rfl]
 have hvs : ((.call ⟨.builtin .append, #[x, y], #[t, t]⟩ : Op).operands.toList.map (ev env)) = [v, r] := by simp [Op.operands, Call.operands, hx, hy]
 show Zc8 P _ (Op.operands _ |>.toList.map (ev env)) σ _
 rw [hvs]
 refine Zhs fun w Z hH hV1 hV2 => ?_
 obtain ⟨A, c, hv, hA, hnc⟩ := hown.val
 have hone := src.one
 have hnl := src.len
 by_cases hroom : n + m <= c
 ·rcases hown.2.2 with ⟨rfl | ⟨ad, rfl⟩, rfl⟩ | ⟨b, c', all, hc0, rfl, g1, g2, g3, g4, g5, g6⟩
  ·injection hv with q1 q2 q3
   omega
  ·injection hv with q1 q2 q3
   omega
  ·injection hv with q1 q2 q3
   subst q1 q3
   obtain ⟨w', r1, r2, r3⟩ := Zij (lo := 0) (ty := ty) (ad := ⟨b, 0, none⟩) hH hV2 ht hs hsz g1 (by rw [Nat.zero_add]; omega) (fun _ => by rw [Nat.zero_mul]) src hroom
   have q2 : (n + m) * sz <= c' * sz := Nat.mul_le_mul_right _ hroom
   rw [Nat.zero_add] at r2 r3
   rw [Nat.add_mul] at q2
   have hspl : (ZaR all (n * sz) news).length = c' * sz := by
    unfold ZaR
    simp only [List.length_append, List.length_take, List.length_drop]
    omega
   have hset : (σ.set b (.own e (ZaR all (n * sz) news))).blk b = some (.own e (ZaR all (n * sz) news)) := by
    show (if b = b then _ else σ.blk b) = _
    rw [if_pos rfl]
   have hbut : But (fun c => hbk (hdr b n c') = some c) σ (σ.set b (.own e (ZaR all (n * sz) news))) := ⟨fun c k hc hk => by
    show (if c = b then _ else σ.blk c) = _
    rw [if_neg (fun e => hc (by rw [e]; exact ZcU hc0))]
    exact hk, fun c hc => hc⟩
   have hbb : hbk (hdr b (n + m) c') = some b := ZcU hc0
   refine ⟨hdr b (n + m) c', σ.set b (.own e (ZaR all (n * sz) news)), w', ?_, ?_, r2, ZaY _, r3⟩
   ·exact r1
   refine h _ _ ⟨by rw [List.length_append, hown.1, hnl, Nat.add_mul], fun a ha => by
    rcases List.mem_append.1 ha with ha | ha
    ·exact hown.one a ha
    ·exact hone a ha, .inr ⟨b, c', _, hc0, rfl, hset, g2, hspl, ?_, hroom, g6⟩⟩ (fun u k ds hu hk => ?_) hbut fun c hc => .inl (by rw [<- ZdB hc]; exact ZcU hc0)
   ·unfold ZaR
    rw [g4, Nat.add_mul, <- hnl, <- hown.1, <- List.length_append, List.take_left]
   ·by_cases hub : hbk u = some b
    ·have hkn := hk b (ZcU hc0) hub
     obtain ⟨c2, all2, rfl, k1, k2, k3, k4, k5, k6⟩ := hu.at_ hub
     rw [g1] at k1
     injection k1 with k1
     injection k1 with _ k1
     subst k1
     have hkk : k * sz <= n * sz := Nat.mul_le_mul_right _ hkn
     refine ⟨hu.1, hu.2.1, .inr ⟨b, c2, _, (by
      cases c2 with
      | zero => cases hub
      | succ c2 => omega), rfl, hset, g2, by rw [hspl]; omega, ?_, k5, k6⟩⟩
     rw [<- k4]
     unfold ZaR
     rw [List.append_assoc, List.take_append_of_le_length (by rw [List.length_take]; omega), List.take_take, Nat.min_eq_left hkk]
    ·exact hu.but hbut fun c hc hc2 => hub (by rw [hc, ZdB hc2])
 ·obtain ⟨cap, w', rest, r0, r1, r2, r3, r4, f1, f2, f3, f4⟩ := ZfQ (ty := ty) hH hV1 hV2 ht hs hz hby hzs hsz (hown.src hsz) hv (fun e => (hA e).2) src (by omega) hnc h63 hbb
  have hX : Ext σ (σ.put w.heap.size (.own e (cells ++ news ++ rest))) := Ext.put _ f2
  refine ⟨hdr w.heap.size (n + m) cap, _, w', ?_, ?_, f3, ZaY _, f4⟩
  ·exact r1
  refine h _ _ ⟨by rw [List.length_append, hown.1, hnl, Nat.add_mul], fun a ha => by
   rcases List.mem_append.1 ha with ha | ha
   ·exact hown.one a ha
   ·exact hone a ha, .inr ⟨w.heap.size, cap, _, by omega, rfl, Za7 _ _ _, .inr rfl, r4, ?_, r2, r3⟩⟩ (fun u k ds hu _ => hu.ext hX) hX.but fun c hc => ?_
  ·rw [Nat.add_mul, <- hnl, <- hown.1, <- List.length_append, List.take_left]
  ·have hc := ZdB hc
   subst hc
   exact .inr ⟨f2, f1⟩
end
end Go.Proofs.Ytinpiaibhjmfaaa
namespace Go.Proofs.Ytinpiaibhjmfaaa
open Go.RowKit
set_option maxRecDepth 100000
set_option linter.unusedVariables false
set_option linter.unusedSimpArgs false
def toN (M : Env -> St -> Prop) : ZeA := fun ex env σ => ex = .normal /\ M env σ
section
variable {P : Program} {O : Nat -> Prop} {ops : Array Oper} {env : Env} {σ τ : St} {K : Env -> St -> Prop} {d : Option Nat} {ty ty' t : TypeId} {pos : String} {af : Array Edge} {x y : Operand} {c c1 c2 : Code} {Q : ZeA} {lf cf ow : Nat -> Bool} {i j : Nat} {l : List Nat}
theorem ZmS (M : Env -> St -> Prop) (h : Zay P O c (toN M) env σ) (hk : ∀ env σ, M env σ -> Q .normal env σ) : Zay P O c Q env σ :=
 ZcL (c := c) (by rintro ex e σ ⟨rfl, h⟩; exact hk _ _ h) h
theorem ZaZ (M : Env -> St -> Prop) (h : Zay P O c1 (toN M) env σ) (hk : ∀ env σ, M env σ -> Zay P O c2 Q env σ) : Zay P O (.seq c1 c2) Q env σ := ZmS (Q := Zgt (Zay P O c2 Q) Q) M h hk
theorem Zrc {o : Oper} (hi : ops[i]? = some o) (hw : Region.wanted o (ZaA ops env) = true) (how : ow i = false) (h : Zc8 P o (o.op.operands.toList.map (ev env)) σ fun r σ' => ((cf i && Zb1 o) = true -> Ext σ σ') /\ ZbN P ops (fun _ => True) lf cf ow l (env.put o.dst r) σ' K) : ZbN P ops (fun _ => True) lf cf ow (i :: l) env σ K := by
 unfold ZbN
 rw [hi]
 dsimp only
 unfold Zel
 rw [how, if_neg Bool.false_ne_true]
 unfold ZeY
 rw [if_pos hw]
 refine ⟨fun _ _ _ _ => trivial, Zd7 (fun r σ' h => ⟨fun hc => ?_, h.2⟩) h⟩
 have hX := h.1 hc
 exact fun b t cs _ hb => hX.keep _ _ hb
theorem HIX {α : Type} : (∀ (l : List α) (i : Nat), l.toArray[i]? = l[i]?) /\ (∀ (a : α) l, (a :: l)[0]? = some a) /\ (∀ (a : α) l (i : Nat), (a :: l)[i + 1]? = l[i]?) := ⟨fun _ _ => List.getElem?_toArray .., fun _ _ => rfl, fun _ _ _ => rfl⟩
def mvx : Op -> Option Operand
 | .move x => some x
 | .assign x => some x
 | _ => none
theorem Zae {op : Op} {v : AV} (hm : mvx op = some x) (hx : ev env x = v) (h : K (env.put d v) σ) : aOp P ops ⟨d, op, ty, pos, af, none⟩ env σ K := by
 unfold mvx at hm
 split at hm
 ·injection hm with hm
  subst hm
  exact Zo7 hx h
 ·injection hm with hm
  subst hm
  exact Zfh hx h
 ·cases hm
theorem Zai {op : Op} {g : Option (Nat × Bool)} (hi : ops[i]? = some ⟨d, op, ty, pos, af, g⟩) (hw : Region.wanted ⟨d, op, ty, pos, af, g⟩ (ZaA ops env) = true) (how : ow i = false) (h : aOp P ops ⟨d, op, ty, pos, af, none⟩ env σ fun env' σ' => ((cf i && Zb1 ⟨d, op, ty, pos, af, none⟩) = true -> Ext σ σ') /\ ZbN P ops (fun _ => True) lf cf ow l env' σ' K) : ZbN P ops (fun _ => True) lf cf ow (i :: l) env σ K := by
 rw [ZaQ rfl] at h
 exact Zrc hi hw how h
theorem Zbl {op : Op} {want : Bool} (hi : ops[i]? = some ⟨d, op, ty, pos, af, some (j, want)⟩) (hg : ZaA ops env j = some (!want)) (how : ow i = false) (h : ZbN P ops (fun _ => True) lf cf ow l (env.put d (.raw undef)) σ K) : ZbN P ops (fun _ => True) lf cf ow (i :: l) env σ K := by
 have hw : ¬ Region.wanted ⟨d, op, ty, pos, af, some (j, want)⟩ (ZaA ops env) = true := by simp [Region.wanted, hg]
 unfold ZbN
 rw [hi]
 dsimp only
 unfold Zel
 rw [how, if_neg Bool.false_ne_true]
 unfold ZeY
 rw [if_neg hw]
 exact h
theorem Zaq {b : Bool} {Y : Prop} (h : Y) : (b = true -> Ext σ σ) /\ Y := ⟨fun _ => .refl _, h⟩
theorem Zcg (h : K env σ) : ZbN P ops (fun _ => True) lf cf ow [] env σ K := h
theorem ZaU (a b : Nat) (hx : ev env x = vI a) (hy : ev env y = vI b) (hab : a + b < 4611686018427387904) (h : K (env.put d (vI ((a + b : Nat) : Int))) σ) : aOp P ops ⟨d, .binOp .add t x y ty', ty, pos, af, none⟩ env σ K :=
 Zig hx hy (by rw [IntWalk.i64_in _ (by omega)]; omega) h
theorem Zbs (a b : Nat) (hx : ev env x = vI a) (hy : ev env y = vI b) (h : K (env.put d (vT (decide (a < b)))) σ) : aOp P ops ⟨d, .binOp .lss t x y ty', ty, pos, af, none⟩ env σ K := by
 refine ZeH hx hy ?_
 have e : decide ((a : Int) < (b : Int)) = decide (a < b) := by congr 1; exact propext (by omega)
 rw [e]
 exact h
theorem ZbB {b : Bool} (hx : ev env x = vT b) (h : K (env.put d (vT (!b))) σ) : aOp P ops ⟨d, .unOp .not t x, ty, pos, af, none⟩ env σ K := Zqj hx h
theorem Zcz {as_ : Operand} {ts : Array TypeId} {t e : TypeId} {A : Option Addr} {n c : Nat} {v : AV} (hx : ev env as_ = v) (hv : v.val = .slice A n c) (hts : ts[0]? = some t) (ht : ZaX P t = some e) (h : K (env.put d (vI n)) σ) : aOp P ops ⟨d, .call ⟨.builtin .len, #[as_], ts⟩, ty, pos, af, none⟩ env σ K := Zle hx hv hts ht h
theorem ZbS {as_ : Operand} {ts : Array TypeId} {t e e' sz : TypeId} {n : Nat} {v : AV} {cells : List AV} (hx : ev env as_ = v) (hv : Hd σ e' sz v n cells) (hts : ts[0]? = some t) (ht : ZaX P t = some e) (h : K (env.put d (vI n)) σ) : aOp P ops ⟨d, .call ⟨.builtin .len, #[as_], ts⟩, ty, pos, af, none⟩ env σ K := by
 obtain ⟨A, c, h1, _⟩ := hv.val
 exact Zle hx h1 hts ht h
theorem Zpr {hs r0 : List AV} {A : Option Addr} {n c k : Nat} {e : TypeId} (hx : ev env x = .lst A n c (hs ++ r0)) (hy : ev env y = vI k) (hA : A = none -> n = 0) (ht : ZaX P t = some e) (hsz : ZaO P e = some 1) (hk : k < n) (h : ∀ ad, K (env.put d (.eptr ad ((hs ++ r0).drop k))) σ) : aOp P ops ⟨d, .indexAddr t x y, ty, pos, af, none⟩ env σ K :=
 Zcs (k := .i64) (j := k) hx hy ht hsz hk hA (by rw [Nat.mul_one]) h
theorem Zps {hs r0 : List AV} {ad : Addr} {k : Nat} {v : AV} (hx : ev env x = .eptr ad ((hs ++ r0).drop k)) (hv : hs[k]? = some v) (ha : Zek P t = some false) (hn : ZaO P t = some 1) (h : K (env.put d v) σ) : aOp P ops ⟨d, .load t x, ty, pos, af, none⟩ env σ K := by
 refine ZcD hx ha hn ?_ h
 dsimp only [Zch]
 rw [List.getElem?_drop, Nat.add_zero, List.getElem?_append_left (Zbr hv)]
 exact hv
theorem Zjk {e sz n k b : Nat} {v : AV} {cells : List AV} (hx : ev env x = ptr b (k * sz)) (hv : Hd σ e sz v n cells) (hb : hbk v = some b) (hk : k < n) (ha : Zek P t = some true) (hn : ZaO P t = some sz) (h : K (env.put d (.agg ((cells.drop (k * sz)).take sz))) σ) : aOp P ops ⟨d, .load t x, ty, pos, af, none⟩ env σ K :=
 Zc3 hx (hv.load hb hk ha hn) h
theorem Zpt {e n k b : Nat} {v r : AV} {cells : List AV} (hx : ev env x = ptr b (k * 1)) (hv : Hd σ e 1 v n cells) (hb : hbk v = some b) (hk : k < n) (hr : cells[k]? = some r) (ha : Zek P t = some false) (hn : ZaO P t = some 1) (h : K (env.put d r) σ) : aOp P ops ⟨d, .load t x, ty, pos, af, none⟩ env σ K :=
 Zc3 hx (hv.load1 hb hk hr ha hn) h
theorem But.sub {S T : Nat -> Prop} (h : But S σ τ) (hS : ∀ b, S b -> T b) : But T σ τ := ⟨fun c k hc hk => h.keep _ _ (fun e => hc (hS _ e)) hk, h.used⟩
end
end Go.Proofs.Ytinpiaibhjmfaaa
namespace Go.Proofs.Ytinpiaibhjmfaaa
open Go.RowKit
set_option linter.unusedSimpArgs false
set_option maxRecDepth 100000
set_option linter.unusedVariables false
section
variable {P : Program} {G : Nat -> Prop} {σ τ : St}
def ZkD (G : Nat -> Prop) (σ : St) (a a' : AV) : Prop := a'.val = a.val /\ ∀ (w : World) (Z : Nat -> Prop), Zau w σ Z -> Zap w (σ.free Z) a -> Zap w ((ZfC G σ).free Z) a'
def ZcP (G : Nat -> Prop) (σ : St) : List AV -> List AV -> Prop
 | [], [] => True
 | a :: l, b :: m => ZkD G σ a b /\ ZcP G σ l m
 | [], _ :: _ => False
 | _ :: _, [] => False
theorem ZkD.refl (a : AV) : ZkD G σ a a := ⟨rfl, fun w Z _ hv => hv.sub fun b o => Zg6⟩
theorem ZcP.refl : ∀ l : List AV, ZcP G σ l l
 | [] => trivial
 | a :: l => ⟨.refl a, ZcP.refl l⟩
theorem ZcP.len : ∀ {l m : List AV}, ZcP G σ l m -> m.length = l.length
 | [], [], _ => rfl
 | _ :: _, _ :: _, h => by rw [List.length_cons, List.length_cons, ZcP.len h.2]
theorem ZcP.vals : ∀ {l m : List AV}, ZcP G σ l m -> m.map AV.val = l.map AV.val
 | [], [], _ => rfl
 | _ :: _, _ :: _, h => by rw [List.map_cons, List.map_cons, h.1.1, ZcP.vals h.2]
theorem ZcP.get : ∀ {l m : List AV} {j : Nat} {q : AV}, ZcP G σ l m -> m[j]? = some q -> ∃ p, l[j]? = some p /\ ZkD G σ p q
 | a :: l, b :: m, 0, q, h, hq => by
  injection hq with hq
  subst hq
  exact ⟨a, rfl, h.1⟩
 | a :: l, b :: m, j + 1, q, h, hq => ZcP.get (l := l) (m := m) (j := j) h.2 hq
 | [], [], _, q, _, hq => by simp at hq
 | [], _ :: _, _, _, h, _ => h.elim
 | _ :: _, [], _, _, h, _ => h.elim
theorem ZcP.valid {w : World} {Z : Nat -> Prop} (hH : Zau w σ Z) : ∀ {l m : List AV}, ZcP G σ l m -> (∀ a ∈ l, Zap w (σ.free Z) a) -> ∀ a ∈ m, Zap w ((ZfC G σ).free Z) a
 | [], [], _, _ => by simp
 | a :: l, b :: m, h, hv => fun x hx => by
  rcases List.mem_cons.1 hx with rfl | hx
  ·exact h.1.2 w Z hH (hv a List.mem_cons_self)
  ·exact ZcP.valid hH h.2 (fun y hy => hv y (List.mem_cons_of_mem _ hy)) x hx
theorem ZcP.append : ∀ {l m l' m' : List AV}, ZcP G σ l m -> ZcP G σ l' m' -> ZcP G σ (l ++ l') (m ++ m')
 | [], [], _, _, _, h => h
 | _ :: _, _ :: _, _, _, h, h' => ⟨h.1, ZcP.append h.2 h'⟩
theorem Hd.lends {e sz n : Nat} {v : AV} {cells m : List AV} (h : Hd σ e sz v n cells) (hG : ∀ b, hbk v = some b -> G b) (hl : ZcP G σ cells m) : ∃ A c, ZkD G σ v (.lst A n c m) /\ n <= c /\ c <= maxLen /\ (A = none -> n = 0 /\ c = 0) := by
 have hml := hl.len
 have hcl := h.len
 rcases h.2.2 with ⟨rfl | ⟨ad, rfl⟩, rfl⟩ | ⟨b, c, all, hc, rfl, h1, h2, h3, h4, h5, h6⟩
 ·have : m = [] := List.eq_nil_of_length_eq_zero (by rw [hml, hcl, Nat.zero_mul])
  subst this
  exact ⟨none, 0, ⟨rfl, fun w Z _ _ => ZeT⟩, Nat.le_refl _, Nat.zero_le _, fun _ => ⟨rfl, rfl⟩⟩
 ·have : m = [] := List.eq_nil_of_length_eq_zero (by rw [hml, hcl, Nat.zero_mul])
  subst this
  refine ⟨some ad, 0, ⟨rfl, fun w Z _ _ => ?_⟩, Nat.le_refl _, Nat.zero_le _, fun e => by cases e⟩
  unfold Zap
  exact ⟨Nat.le_refl _, (fun e => by cases e), fun ad' _ => ZaI.mk fun j q hq => by simp at hq⟩
 ·refine ⟨some ⟨b, 0, none⟩, c, ⟨rfl, fun w Z hH _ => ?_⟩, h5, h6, fun e => by cases e⟩
  unfold Zap
  refine ⟨h5, (fun e => by cases e), fun ad' had' => ?_⟩
  injection had' with had'
  subst had'
  refine ZaI.mk fun j q hq => ?_
  rw [Nat.zero_add]
  obtain ⟨p, hp, hpq⟩ := hl.get hq
  have hq1 : all[0 + j]? = some p := by
   rw [<- h4, List.getElem?_take] at hp
   split at hp
   ·rw [Nat.zero_add]; exact hp
   ·cases hp
  obtain ⟨o1, o2, o3⟩ := hH.own _ _ _ h1
  have hcell := ZeE hH h1 0 j hq1
  refine ⟨by rw [hcell, hpq.1], ⟨fun hz => ?_, o1, ?_⟩, hpq.2 w Z hH (o3 p (List.mem_of_getElem? hq1))⟩
  ·have := (hH.z _ hz).2
   rw [h1] at this; cases this
  ·rw [ZdR (hG b (ZcU hc))]; trivial
end
theorem ZkE {P : Program} {σ : St} {f : FuncId} {args : List AV} {rv : AV} (h1 : Zat P f args (ZfC (fun _ => True) σ) fun r τ => r = rv) (hrv : ∀ w B, Zap w B rv) (K : AV -> St -> Prop) (hK : ∀ τ, Ext σ τ -> K rv τ) : Zat P f args σ K := by
 intro w Z hH hV
 refine (h1 w Z (ZjR hH) ((ZcP.refl _).valid hH hV)).mono ?_
 rintro y w' ⟨r, τ, rfl, rfl, hH', _, hG⟩
 obtain ⟨g1, g2, g3, g4, g5, g6, _, g8⟩ := hG
 have hin : ∀ b, (ZfC (fun _ => True) σ).blk b = none := fun b => ZdR trivial
 have hsame : ∀ b, b < w.heap.size -> w'.heap[b]? = w.heap[b]? := fun b hb => (g6 b hb (hin b)).1
 have hfin : ∃ n, ∀ b, n <= b -> ¬ τ.used b /\ σ.blk b = none := by
  obtain ⟨n1, q1⟩ := σ.fin
  obtain ⟨n2, q2⟩ := τ.fin
  exact ⟨n1 + n2, fun b hb => ⟨(q2 b (by omega)).1, (q1 b (by omega)).2⟩⟩
 have hG2 : Grow w σ w' ⟨σ.blk, τ.used, hfin⟩ := ⟨g1, g2, g3, g4, g5, fun b hb hn => ⟨hsame b hb, hn⟩, fun b t k s hb ht => ⟨fun j v _ hv => by rw [World.cell?_of_block (w := w) (hsame b hb)]; exact hv, .inr ⟨t, k, s, ht, Nat.le_refl _⟩⟩, g8⟩
 refine ⟨r, ⟨σ.blk, τ.used, hfin⟩, rfl, hK _ ⟨fun b k hk => hk, g8⟩, ⟨hH'.used, fun b hz => ⟨(hH'.z b hz).1, (hH.z b hz).2⟩, fun b t cs hb => ?_, fun b t k s hb => ?_, fun b es hb => ?_⟩, hrv _ _, hG2⟩
 ·obtain ⟨q1, q2, q3⟩ := hH.own _ _ _ hb
  exact ⟨g8 _ q1, (hsame b (hH.used _ q1)).trans q2, fun c hc => hG2.valid (q3 c hc)⟩
 ·obtain ⟨q1, cs, q2, q3⟩ := hH.tail _ _ _ _ hb
  exact ⟨g8 _ q1, cs, (hsame b (hH.used _ q1)).trans q2, q3⟩
 ·obtain ⟨q1, a, c, q2, q3⟩ := hH.map _ _ hb
  exact ⟨g8 _ q1, a, c, (hsame b (hH.used _ q1)).trans q2, q3⟩
def bys (d : List UInt8) : List AV := d.map fun u => .raw (.int .u8 (u.toNat : Int))
theorem ZcV (d : List UInt8) : (bys d).length = d.length := by simp [bys]
theorem Zlo (d : List UInt8) : ∀ a ∈ bys d, a.one = true := fun a ha => by
 obtain ⟨u, _, rfl⟩ := List.mem_map.1 ha
 rfl
structure Lot (te : Nat) (σ : St) (ds : List (List UInt8)) (hs : List AV) : Prop where
 len : hs.length = ds.length
 at_ : ∀ (j : Nat) (v : AV) (d : List UInt8), hs[j]? = some v -> ds[j]? = some d -> Hd σ te 1 v d.length (bys d)
 far : ∀ (i j : Nat) (u v : AV) (b : Nat), hs[i]? = some u -> hs[j]? = some v -> hbk u = some b -> hbk v = some b -> i = j
section
variable {te : Nat} {σ τ : St} {ds : List (List UInt8)} {hs : List AV}
theorem Lot.nil : Lot te σ [] [] := ⟨rfl, fun j v d h => by simp at h, fun i j u v b h => by simp at h⟩
theorem Lot.but {S : Nat -> Prop} (h : Lot te σ ds hs) (k : But S σ τ) (hS : ∀ (j : Nat) (v : AV) (b : Nat), hs[j]? = some v -> hbk v = some b -> ¬ S b) : Lot te τ ds hs := ⟨h.len, fun j v d hv hd => (h.at_ j v d hv hd).but k fun b hb => hS j v b hv hb, h.far⟩
theorem Lot.ext (h : Lot te σ ds hs) (k : Ext σ τ) : Lot te τ ds hs := h.but (S := fun _ => False) k.but fun _ _ _ _ _ => id
theorem Lot.hd (h : Lot te σ ds hs) {j : Nat} {v : AV} (hv : hs[j]? = some v) : ∃ d, ds[j]? = some d /\ Hd σ te 1 v d.length (bys d) := by
 have hj : j < ds.length := by rw [<- h.len]; exact Zbr hv
 exact ⟨ds[j], List.getElem?_eq_getElem hj, h.at_ j v _ hv (List.getElem?_eq_getElem hj)⟩
theorem Lot.used (h : Lot te σ ds hs) {j : Nat} {v : AV} {b : Nat} (hv : hs[j]? = some v) (hb : hbk v = some b) : σ.used b := by
 obtain ⟨d, _, h1⟩ := h.hd hv
 exact h1.used hb
theorem Lot.fresh (h : Lot te σ ds hs) {v : AV} (hn : ∀ b, hbk v = some b -> ¬ σ.used b) : ∀ (j : Nat) (u : AV) (b : Nat), hs[j]? = some u -> hbk u = some b -> hbk v ≠ some b := fun j u b hu hb hv => hn b hv (h.used hu hb)
end
end Go.Proofs.Ytinpiaibhjmfaaa
namespace Go.Proofs.Ytinpiaibhjmfaaa
open Go.RowKit
set_option linter.unusedSimpArgs false
set_option maxRecDepth 100000
set_option linter.unusedVariables false
section
variable {P : Program} {O : Nat -> Prop} {ops : Array Oper} {env : Env} {σ τ : St} {K : Env -> St -> Prop} {d : Option Nat} {ty ty' t : TypeId} {pos : String} {af : Array Edge} {x y : Operand} {c : Code} {Q : ZeA} {lf cf ow : Nat -> Bool} {i : Nat} {l : List Nat}
theorem Zpu (F : Env -> Prop) (h0 : F env) (h : ∀ e, F e -> Zay P O c Q e σ) : Zay P O c Q env σ := h _ h0
theorem Zqw {n : Nat} {parts : Array (Nat × Operand)} {e : TypeId} {sz : Nat} {v : Value} {vs cells : List AV} (hi : ops[i]? = some ⟨d, .buildSlice t n parts, ty, pos, af, none⟩) (how : ow i = true) (hv : parts.toList.map (fun p => ev env p.2) = vs) (ht : ZaX P t = some e) (hs : ZaO P e = some sz) (hz : ZbL P e = some v) (hzs : v.cells.size = sz) (hn : n * sz <= 16777216)
 (hf : Zcf (fun i => some (i * sz, sz)) ((List.range (n * sz)).map fun i => .ofV (v.cells[i % sz]!)) ((parts.toList.map (·.1)).zip vs) = some cells)
 (h : ∀ b, ¬ σ.used b -> σ.blk b = none -> ZbN P ops (fun _ => True) lf cf ow l (env.put d (hdr b n n)) (σ.put b (.own e cells)) K) : ZbN P ops (fun _ => True) lf cf ow (i :: l) env σ K := by
 unfold ZbN
 rw [hi]
 dsimp only
 unfold Zel
 rw [how, if_pos rfl, if_pos (by simp [Region.wanted])]
 refine ⟨n, e, cells, ⟨t, parts, sz, v, rfl, ht, hs, hz, hzs, hn, ?_⟩, h⟩
 have : (Op.buildSlice t n parts).operands.toList.map (ev env) = vs := by rw [<- hv]; simp [Op.operands]
 rw [this]
 exact hf
end
theorem Zlp {σ : St} {b n : Nat} {e sz : Nat} {cells : List AV} (hn0 : 0 < n) (hn : n <= 100000) (hl : cells.length = n * sz) (h1 : ∀ a ∈ cells, a.one = true) : Hd (σ.put b (.own e cells)) e sz (hdr b n n) n cells :=
 ⟨hl, h1, .inr ⟨b, n, cells, hn0, rfl, Za7 _ _ _, .inr rfl, hl, List.take_of_length_le (by rw [hl]; exact Nat.le_refl _), Nat.le_refl _, by unfold maxLen; omega⟩⟩
section
variable {T : Nat -> Type} {C : Zbg T} {P : Program} {σ τ : St}
abbrev ZdC : Nat -> AV := fun _ => .raw undef
theorem ZnM (ρ : Nat -> AV) : Hp C ρ ([] : List (HI T)) σ := ⟨fun i x hx => by simp at hx, fun i j x y b hx => by simp at hx⟩
theorem Zoi {f : FuncId} {args : List (XV T)} {r : XV T} {outs : List (HI T)} {vs : List AV} (h : Tr C P (fun _ => True) f args [] r outs) (hs : SVs C 0 ZdC args vs) (K : AV -> St -> Prop)
 (hK : ∀ a τ ρ', SV C outs.length ρ' r a -> Hp C ρ' outs τ -> Ext σ τ -> (∀ i x b, outs[i]? = some x -> x.alive = true -> (ρ' i).owns b -> σ.blk b = none /\ ¬ σ.used b) -> K a τ) : Zat P f vs σ K := by
 refine (h _ σ vs hs (ZnM _)).mono fun a τ ⟨ρ', q1, q2, q3⟩ => ?_
 refine hK a τ ρ' q1 q2 ⟨fun b k hb => q3.but.keep _ _ (fun hl => ?_) hb, q3.but.used⟩ fun i x b hx ha hb => ?_
 ·obtain ⟨i, x, _, hx, _⟩ := hl
  simp at hx
 ·rcases q3.born b ⟨i, x, hx, ha, hb⟩ with ⟨j, y, hy, _⟩ | h
  ·simp at hy
  ·exact h
theorem Zlq {N : Nat} {ρ : Nat -> AV} {h : List (HI T)} {i n E : Nat} {a : AV} {e : TypeId} {kp : Bool} {xs : List (T E)} (hs : SV C N ρ (.as E i 0 n none) a) (H : Hp C ρ h σ) (hi : h[i]? = some (.arr e E kp xs)) (hn : n <= xs.length) : ∃ cells, Hd σ e (C.sz E) a n cells /\ (∀ b, hbk a = some b -> (ρ i).owns b) /\ ∀ N' ρ', SVs C N' ρ' ((xs.take n).flatMap (C.enc E)) cells := by
 rcases ZmN.1 hs with ⟨ad, c, rfl, hA⟩ | ⟨rfl, hn0, _⟩
 ·obtain ⟨b, q1, q2⟩ := hA.at_
  rcases Nat.eq_zero_or_pos c with hc | hc
  ·subst hc
   have hn0 : n = 0 := by have := hA.le; omega
   subst hn0
   exact ⟨[], ⟨by simp, by simp, .inl ⟨.inr ⟨ad, rfl⟩, rfl⟩⟩, (fun b hb => by cases hb), fun _ _ => .none⟩
  ·have had := q2 hc
   rw [Nat.zero_mul] at had
   subst had
   obtain ⟨pre, rest, h2, h3, h4, h5, h6, h7⟩ := H.arrAt hi q1
   have hpl := (h4 0 ρ).len
   rw [Zli] at hpl
   have hmul : n * C.sz E <= xs.length * C.sz E := Nat.mul_le_mul_right _ hn
   have hmul2 : n * C.sz E <= c * C.sz E := Nat.mul_le_mul_right _ hA.le
   rw [Nat.zero_add] at h5 h6 q1
   have ht : (pre ++ rest).take (n * C.sz E) = pre.take (n * C.sz E) := List.take_append_of_le_length (by omega)
   refine ⟨pre.take (n * C.sz E), ⟨by rw [List.length_take]; omega, fun a ha => ?_, .inr ⟨b, c, _, hc, rfl, h2, h3, h5, ht, hA.le, hA.max⟩⟩, fun b' hb => ?_, fun N' ρ' => ?_⟩
   ·refine (h4 0 ρ).ones (fun x hx => ?_) a (List.mem_of_mem_take ha)
    obtain ⟨y, _, hy⟩ := List.mem_flatMap.1 hx
    exact ZkB (C.shut _ _ _ hy)
   ·rw [q1, <- ZdB hb]
    exact (Zoe _ _ _).2 rfl
   ·have := (h4 N' ρ').take (n * C.sz E)
    rw [ZjP] at this
    exact this
 ·subst hn0
  exact ⟨[], ⟨by simp, by simp, .inl ⟨.inl rfl, rfl⟩⟩, (fun b hb => by cases hb), fun _ _ => .none⟩
theorem ZmT {f : FuncId} {args : List (XV T)} {vs : List AV} {E n : Nat} {e : TypeId} {kp : Bool} {xs : List (T E)} (h : Tr C P (fun _ => True) f args [] (.as E 0 0 n none) [.arr e E kp xs]) (hs : SVs C 0 ZdC args vs) (hn : n <= xs.length) (K : AV -> St -> Prop)
 (hK : ∀ a τ cells, Hd τ e (C.sz E) a n cells -> (∀ N' ρ', SVs C N' ρ' ((xs.take n).flatMap (C.enc E)) cells) -> Ext σ τ -> (∀ b, hbk a = some b -> σ.blk b = none /\ ¬ σ.used b) -> K a τ) : Zat P f vs σ K :=
 Zoi h hs K fun a τ ρ' q1 q2 q3 q4 => by
  obtain ⟨cells, g1, g2, g3⟩ := Zlq q1 q2 rfl hn
  exact hK a τ cells g1 g3 q3 fun b hb => q4 0 _ b rfl rfl (g2 b hb)
end
section
variable {P : Program} {O : Nat -> Prop} {ops : Array Oper} {env : Env} {σ τ : St} {K : Env -> St -> Prop} {d : Option Nat} {ty ty' t : TypeId} {pos : String} {af : Array Edge} {x y : Operand} {e sz n : Nat} {v r : AV} {cells news : List AV}
theorem ZkF (hx : ev env x = v) (hy : ev env y = r) (ht : ZaX P t = some e) (hs : ZaO P e = some sz) (hown : Hd σ e sz v n cells) (src : Src σ sz r 0 news) (h : K (env.put d v) σ) : aOp P ops ⟨d, .call ⟨.builtin .append, #[x, y], #[t, t]⟩, ty, pos, af, none⟩ env σ K := by
 rw [ZaQ rfl]
 have hvs : ((.call ⟨.builtin .append, #[x, y], #[t, t]⟩ : Op).operands.toList.map (ev env)) = [v, r] := by simp [Op.operands, Call.operands, hx, hy]
 show Zc8 P _ (Op.operands _ |>.toList.map (ev env)) σ _
 rw [hvs]
 refine Zhs fun w Z hH hV1 hV2 => ⟨v, σ, w, ?_, h, hH, hV1, .refl _ _⟩
 obtain ⟨A, c, hv, hA, hnc⟩ := hown.val
 obtain ⟨A', c', hy, hA'⟩ := src.at_
 obtain ⟨ii, hii, hsi⟩ := ZkC hs
 rw [hv, hy]
 have hf := ZdA (P := P) (w := w) (size := ii.size) (n := 0) (len := 0) (cap := c') rfl A'
 have hty := ZbU ht
 cases A with
 | none =>
  obtain ⟨rfl, rfl⟩ := hA rfl
  simp [Builtin.append_, run_underlying hty, sizeOf, typeInfo, hii, Builtin.lenOf, hf]
 | some ad =>
  simp [Builtin.append_, run_underlying hty, sizeOf, typeInfo, hii, Builtin.lenOf, hf, hnc, storeCells]
theorem ZbY {A : Option Addr} {m c : Nat} {rest : List AV} (hl : cells.length = m * sz) (h1 : ∀ a ∈ cells, a.one = true) (hA : A = none -> m = 0) : Src σ sz (.lst A m c (cells ++ rest)) m cells := by
 refine ⟨hl, h1, ⟨A, c, rfl, hA⟩, fun w Z hH hV => ?_⟩
 unfold Zap at hV
 cases A with
 | none =>
  have : cells = [] := List.eq_nil_of_length_eq_zero (by rw [hl, hA rfl, Nat.zero_mul])
  subst this
  exact ⟨by simp, fun ad c hy => by rw [AV.val_lst] at hy; injection hy with q; cases q⟩
 | some ad =>
  have hv := hV.2.2 ad rfl
  refine ⟨fun a ha => ?_, fun ad' c' hy j u hu => ?_⟩
  ·obtain ⟨i, hi, rfl⟩ := List.getElem_of_mem ha
   exact (hv.get (by rw [List.getElem?_append_left hi]; exact List.getElem?_eq_getElem hi)).2.2
  ·rw [AV.val_lst] at hy
   injection hy with q1 _ _
   injection q1 with q1
   subst q1
   rw [List.getElem?_map] at hu
   cases hd : cells[j]? with
   | none => rw [hd] at hu; cases hu
   | some d =>
    rw [hd] at hu
    injection hu with hu
    subst hu
    have := (hv.get (d := d) (show (cells ++ rest)[j]? = some d by rw [List.getElem?_append_left (Zbr hd)]; exact hd)).1
    rwa [Nat.zero_add] at this
end
section
variable {T : Nat -> Type} {C : Zbg T} {P : Program}
end
section
variable {P : Program} {O : Nat -> Prop} {ops : Array Oper} {env : Env} {σ τ : St} {K : Env -> St -> Prop} {d : Option Nat} {ty ty' t : TypeId} {pos : String} {af : Array Edge} {x y : Operand} {lf cf ow : Nat -> Bool} {i j : Nat} {l : List Nat} {Pres : Nat -> Prop}
theorem ZaN {ops : Array Oper} {env : Env} {j d : Nat} {b : Bool} (hd : (ops[j]?).bind (·.dst) = some d) (hv : env d = vT b) : ZaA ops env j = some b := by
 unfold ZaA
 rw [hd]
 dsimp only
 rw [hv]
 rfl
theorem Zqx {z0 z1 a v : AV} {pl : Nat -> Option (Nat × Nat)} (h0 : pl 0 = some (0, 1)) (h1 : pl 1 = some (1, 1)) (ha : Zbi a = true /\ a.cells = [a]) (hv : Zbi v = true /\ v.cells = [v]) : Zcf pl [z0, z1] ([0, 1].zip [a, v]) = some [a, v] := by
 simp [Zcf, h0, h1, ha.1, ha.2, hv.1, hv.2, ZaR]
theorem ZaH {op : Op} {g : Option (Nat × Bool)} (hi : ops[i]? = some ⟨d, op, ty, pos, af, g⟩) (hw : Region.wanted ⟨d, op, ty, pos, af, g⟩ (ZaA ops env) = true) (how : ow i = false) (hl : (lf i && Zb0 ⟨d, op, ty, pos, af, g⟩ == .load) = false)
 (h : aOp P ops ⟨d, op, ty, pos, af, none⟩ env σ fun env' σ' => ((cf i && Zb1 ⟨d, op, ty, pos, af, none⟩) = true -> ZfW Pres σ σ') /\ ZbN P ops Pres lf cf ow l env' σ' K) : ZbN P ops Pres lf cf ow (i :: l) env σ K := by
 rw [ZaQ rfl] at h
 unfold ZbN
 rw [hi]
 dsimp only
 unfold Zel
 rw [how, if_neg Bool.false_ne_true]
 unfold ZeY
 rw [if_pos hw]
 exact ⟨fun hq => absurd (hl.symm.trans hq) Bool.false_ne_true, h⟩
theorem Zpv {b o n : Nat} {T : TypeId} {cs : List AV} {g : Bool} {r : AV} {gd : Option (Nat × Bool)} (hi : ops[i]? = some ⟨d, .load t x, ty, pos, af, gd⟩) (hw : Region.wanted ⟨d, .load t x, ty, pos, af, gd⟩ (ZaA ops env) = true) (how : ow i = false) (hx : ev env x = ptr b o) (hp : Pres b) (hb : σ.blk b = some (.own T cs)) (ha : Zek P t = some g) (hn : ZaO P t = some n) (hr : Zch (some g) (some n) cs o = some r)
 (h : ZbN P ops Pres lf cf ow l (env.put d r) σ K) : ZbN P ops Pres lf cf ow (i :: l) env σ K := by
 have h1 : aOp P ops ⟨d, .load t x, ty, pos, af, none⟩ env σ fun env' σ' => ((cf i && Zb1 ⟨d, .load t x, ty, pos, af, none⟩) = true -> ZfW Pres σ σ') /\ ZbN P ops Pres lf cf ow l env' σ' K := Zar hx hb ha hn hr ⟨fun _ _ _ _ _ hb => hb, h⟩
 rw [ZaQ rfl] at h1
 unfold ZbN
 rw [hi]
 dsimp only
 unfold Zel
 rw [how, if_neg Bool.false_ne_true]
 unfold ZeY
 rw [if_pos hw]
 refine ⟨fun _ b' o' hq => ?_, h1⟩
 have hq : [ev env x] = [ptr b' o'] := hq
 rw [hx] at hq
 injection hq with hq
 have : b = b' := by unfold ptr at hq; injection hq with hq; injection hq with hq; injection hq with hq; injection hq with hq
 subst this
 exact hp
theorem Zlr (h : K env σ) : ZbN P ops Pres lf cf ow [] env σ K := h
theorem Zbt {b : Bool} {Y : Prop} (h : Y) : (b = true -> ZfW Pres σ σ) /\ Y := ⟨fun _ _ _ _ _ hb => hb, h⟩
theorem But.keeps {S : Nat -> Prop} (h : But S σ τ) (hS : ∀ b, Pres b -> ¬ S b) : ZfW Pres σ τ := fun b t cs hp hb => h.keep _ _ (hS b hp) hb
theorem Ext.keeps (h : Ext σ τ) : ZfW Pres σ τ := fun b t cs _ hb => h.keep _ _ hb
end
section
variable {P : Program} {ops : Array Oper} {env : Env} {σ τ : St} {K : Env -> St -> Prop} {d : Option Nat} {ty ty' t : TypeId} {pos : String} {af : Array Edge} {x y : Operand} {e sz n m : Nat} {v r : AV} {cells news : List AV}
theorem Za9 {bytes : Nat} {z : Value} (hx : ev env x = v) (hy : ev env y = r) (ht : ZaX P t = some e) (hs : ZaO P e = some sz) (hz : ZbL P e = some z) (hby : ZcT P e = some bytes) (hzs : z.cells.size = sz) (hsz : 0 < sz)
 (hown : Hd σ e sz v n cells) (src : Src σ sz r m news) (h63 : n + m <= maxLen) (hbb : (n + m) * bytes <= 140737488355328)
 (h : ∀ v' τ, Hd τ e sz v' (n + m) (cells ++ news) -> But (fun c => hbk v = some c) σ τ -> (∀ c, hbk v' = some c -> hbk v = some c \/ (σ.blk c = none /\ ¬ σ.used c)) -> K (env.put d v') τ) :
 aOp P ops ⟨d, .call ⟨.builtin .append, #[x, y], #[t, t]⟩, ty, pos, af, none⟩ env σ K := by
 rcases Nat.eq_zero_or_pos m with h0 | h0
 ·subst h0
  have hn : news = [] := List.eq_nil_of_length_eq_zero (by rw [src.len, Nat.zero_mul])
  subst hn
  exact ZkF hx hy ht hs hown src (h v σ (by rw [List.append_nil, Nat.add_zero]; exact hown) (.refl _ _) fun c hc => .inl hc)
 ·exact Zln hx hy ht hs hz hby hzs hsz hown src h0 h63 hbb fun v' τ h1 _ h2 h3 => h v' τ h1 h2 h3
end
end Go.Proofs.Ytinpiaibhjmfaaa
