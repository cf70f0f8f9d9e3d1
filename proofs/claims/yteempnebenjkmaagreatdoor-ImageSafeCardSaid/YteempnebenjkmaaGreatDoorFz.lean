/- A list that is told becomes an array of ours, or an array a list; slices.Clone, as an array. -/
import Derived.Test.YteempnebenjkmaaGreatDoorMc
namespace Go.Proofs.YteempnebenjkmaaGreatDoor
open Go.RowKit
set_option linter.unusedSimpArgs false
set_option maxRecDepth 100000
set_option linter.unusedVariables false
variable {T : Nat -> Type}
section
variable {C : Zaw T} {P : Program}
theorem Zan.thaw {f : FuncId} {args : List AV} {σ : St} {e sz n : Nat} {cs : List AV} (hcs : ∀ w Z, Zaj w σ Z -> (∀ a ∈ args, Zae w (σ.free Z) a) -> ∀ a ∈ cs, Zae w (σ.free Z) a) (hl : cs.length = n * sz)
 (h : Zan P f args σ fun rv τ => ∃ b c, rv = .lst (some ⟨b, 0, none⟩) n c cs /\ n <= c /\ c <= maxLen /\ τ.blk b = some (.tail e (n * sz) (c * sz)) /\ Ext σ τ /\ σ.blk b = none /\ ¬ σ.used b) :
 Zan P f args σ fun rv τ => ∃ b c rest, rv = .raw (.slice (some ⟨b, 0, none⟩) n c) /\ n <= c /\ c <= maxLen /\ τ = σ.put b (.own e (cs ++ rest)) /\ (cs ++ rest).length = c * sz /\ σ.blk b = none /\ ¬ σ.used b := by
 refine fun w Z hH hV => (h w Z hH hV).mono ?_
 rintro x w' ⟨r, τ, rfl, ⟨b, c, rfl, hnc, hcm, hb, hX, f1, f2⟩, hH', hV', hG⟩
 obtain ⟨hub, cur, hcur, hcz, hk⟩ := hH'.tail _ _ _ _ hb
 have hbl : b < w'.heap.size := (Array.getElem?_eq_some_iff.1 hcur).1
 have hbw : w.heap.size <= b := by
  rcases Nat.lt_or_ge b w.heap.size with hlt | hge
  ·exact absurd (hG.used b hlt hub) f2
  ·exact hge
 have hcv := hcs w Z hH hV
 unfold Zae at hV'
 have hat := hV'.2.2 _ rfl
 have hhead : cur.toList.take (n * sz) = cs.map AV.val := by
  apply List.ext_getElem?
  intro j
  rw [List.getElem?_take]
  split
  ·rename_i hj
   have hjl : j < cs.length := by omega
   have := (Zct hat (List.getElem?_eq_getElem hjl)).1
   rw [Zbs, Nat.zero_add, cell_of_row w' b j cur e (0, 0) hcur] at this
   rw [List.getElem?_map, List.getElem?_eq_getElem hjl, Array.getElem?_toList, this]
   rfl
  ·rename_i hj
   rw [List.getElem?_map, List.getElem?_eq_none (by omega)]
   rfl
 have hall : cur = ((cs ++ (cur.toList.drop (n * sz)).map AV.raw).map AV.val).toArray := by
  apply Array.ext'
  rw [List.map_append, <- hhead]
  simp [Function.comp_def]
 have hlen : (cs ++ (cur.toList.drop (n * sz)).map AV.raw).length = c * sz := by
  have h9 := hcz.symm.trans (congrArg Array.size hall)
  rw [List.size_toArray, List.length_map] at h9
  exact h9.symm
 have hne : ∀ b', b' < w.heap.size -> b' ≠ b := fun b' h' => by omega
 have hG2 : Grow w σ w' (σ.put b (.own e (cs ++ (cur.toList.drop (n * sz)).map AV.raw))) := by
  refine ⟨hG.os, hG.tape, hG.output, hG.size, fun b' h1 h2 => ?_, fun b' h1 h2 => ⟨(hG.rest b' h1 h2).1, ?_⟩, fun b' t k s h1 h2 => ⟨(hG.tail b' t k s h1 h2).1, .inr ⟨t, k, s, ?_, Nat.le_refl _⟩⟩, fun b' h1 => .inl h1⟩
  ·rcases h2 with h2 | h2
   ·exact h2
   ·exact absurd h2 (hne b' h1)
  ·rw [Zat _ _ (hne b' h1)]; exact h2
  ·rw [Zat _ _ (hne b' h1)]; exact h2
 refine ⟨.raw (.slice (some ⟨b, 0, none⟩) n c), _, by simp, ⟨b, c, _, rfl, hnc, hcm, rfl, hlen, f1, f2⟩, ⟨fun b' hu => ?_, fun b' hz => ?_, fun b' t cs' hb' => ?_, fun b' t k s hb' => ?_, fun b' es hb' => ?_⟩, Zaz _, hG2⟩
 ·rcases hu with hu | hu
  ·exact Nat.lt_of_lt_of_le (hH.used _ hu) hG.size
  ·rw [hu]; exact hbl
 ·obtain ⟨z1, z2⟩ := hH.z _ hz
  exact ⟨Nat.lt_of_lt_of_le z1 hG.size, by rw [Zat _ _ (hne b' z1)]; exact z2⟩
 ·by_cases hbb : b' = b
  ·subst hbb
   rw [ZaV] at hb'
   injection hb' with hb'
   injection hb' with e1 e2
   subst e1 e2
   refine ⟨.inr rfl, by rw [<- hall]; exact hcur, fun q hq => ?_⟩
   rcases List.mem_append.1 hq with hq | hq
   ·exact hG2.valid (hcv q hq)
   ·obtain ⟨v, _, rfl⟩ := List.mem_map.1 hq
    exact Zaz _
  ·rw [Zat _ _ hbb] at hb'
   obtain ⟨q1, q2, q3⟩ := hH.own _ _ _ hb'
   obtain ⟨q4, q5, _⟩ := hH'.own _ _ _ (hX.keep _ _ hb')
   exact ⟨.inl q1, q5, fun q hq => hG2.valid (q3 q hq)⟩
 ·by_cases hbb : b' = b
  ·subst hbb
   rw [ZaV] at hb'
   injection hb' with hb'
   cases hb'
  ·rw [Zat _ _ hbb] at hb'
   obtain ⟨q1, _⟩ := hH.tail _ _ _ _ hb'
   obtain ⟨_, q2⟩ := hH'.tail _ _ _ _ (hX.keep _ _ hb')
   exact ⟨.inl q1, q2⟩
 ·by_cases hbb : b' = b
  ·subst hbb
   rw [ZaV] at hb'
   injection hb' with hb'
   cases hb'
  ·rw [Zat _ _ hbb] at hb'
   obtain ⟨q1, _⟩ := hH.map _ _ hb'
   obtain ⟨_, q2⟩ := hH'.map _ _ (hX.keep _ _ hb')
   exact ⟨.inl q1, q2⟩
theorem Tr.freeze {f : FuncId} {args : List (XV T)} {x : HI T} {E n : Nat} {co : Option Nat} {e : TypeId} {kp : Bool} {xs : List (T E)} (hn0 : n ≠ 0) (hn : n <= xs.length) (h : Tr C P (fun _ => True) f args [x] (.as E 1 0 n co) [.dead, .arr e E kp xs]) :
 Tr C P (fun _ => True) f args [x] (.sl E (xs.take n) (some 1)) [.dead, .row e (C.sz E)] := by
 intro ρ σ vs hs H
 have h := h ρ σ vs hs H
 have hsz := C.pos E
 have hxl : (xs.take n).length = n := by rw [List.length_take]; omega
 refine fun w Z hH hV => (h w Z hH hV).mono ?_
 rintro y w' ⟨r, τ, rfl, ⟨ρ', hr, H', R⟩, hH', hV', hG⟩
 rcases ZbE.1 hr with ⟨ad, c, rfl, hA⟩ | ⟨rfl, hn1, hiN, hρi, hco⟩
 ·obtain ⟨b, q1, q2⟩ := hA.at_
  obtain ⟨pre, rest, hb2, hb3, hb4, hb5, hb6⟩ := H'.arrAt (i := 1) rfl q1
  rw [Nat.zero_add] at q1 hb5
  have hpl := (hb4 0 ρ).len
  rw [Zb3] at hpl
  have hm1 : n * C.sz E <= xs.length * C.sz E := Nat.mul_le_mul_right _ hn
  have hm2 : n * C.sz E <= c * C.sz E := Nat.mul_le_mul_right _ hA.le
  have hsv : ∀ N ρ, SVs C N ρ ((xs.take n).flatMap (C.enc E)) (pre.take (n * C.sz E)) := fun N ρ => by
   have := (hb4 N ρ).take (n * C.sz E)
   rw [Zc2] at this
   exact this
  have hpt : (pre.take (n * C.sz E)).length = n * C.sz E := by rw [List.length_take]; omega
  obtain ⟨o1, o2, o3⟩ := hH'.own _ _ _ hb2
  have hzb : ¬ Z b := fun hz => by have := (hH'.z _ hz).2; rw [hb2] at this; cases this
  have hset : (τ.set b (.tail e (n * C.sz E) (c * C.sz E))).blk b = some (.tail e (n * C.sz E) (c * C.sz E)) := by show (if b = b then _ else τ.blk b) = _; rw [if_pos rfl]
  have hoth : ∀ b', b' ≠ b -> (τ.set b (.tail e (n * C.sz E) (c * C.sz E))).blk b' = τ.blk b' := fun b' hb' => by show (if b' = b then _ else τ.blk b') = _; rw [if_neg hb']
  have hfree : ∀ b' o, τ.free Z b' o -> (τ.set b (.tail e (n * C.sz E) (c * C.sz E))).free Z b' o := fun b' o hf => by
   obtain ⟨z1, z2, z3⟩ := hf
   have hne : b' ≠ b := by rintro rfl; rw [hb2] at z3; exact z3
   refine ⟨z1, z2, ?_⟩
   rw [hoth b' hne]; exact z3
  have hHf : Zaj w' (τ.set b (.tail e (n * C.sz E) (c * C.sz E))) Z := by
   refine ⟨hH'.used, fun b' hz => ?_, fun b' t cs' hb' => ?_, fun b' t k s hb' => ?_, fun b' es hb' => ?_⟩
   ·obtain ⟨z1, z2⟩ := hH'.z _ hz
    have hne : b' ≠ b := by rintro rfl; exact hzb hz
    exact ⟨z1, by rw [hoth b' hne]; exact z2⟩
   ·have hne : b' ≠ b := by rintro rfl; rw [hset] at hb'; injection hb' with hb'; cases hb'
    rw [hoth b' hne] at hb'
    obtain ⟨p1, p2, p3⟩ := hH'.own _ _ _ hb'
    exact ⟨p1, p2, fun q hq => (p3 q hq).sub hfree⟩
   ·by_cases hne : b' = b
    ·subst hne
     rw [hset] at hb'
     injection hb' with hb'
     injection hb' with e1 e2 e3
     subst e1 e2 e3
     exact ⟨o1, _, o2, by simp only [List.size_toArray, List.length_map]; exact hb5, hm2⟩
    ·rw [hoth b' hne] at hb'
     exact hH'.tail _ _ _ _ hb'
   ·by_cases hne : b' = b
    ·subst hne
     rw [hset] at hb'
     injection hb' with hb'
     cases hb'
    ·rw [hoth b' hne] at hb'
     exact hH'.map _ _ hb'
  have hGf : Grow w σ w' (τ.set b (.tail e (n * C.sz E) (c * C.sz E))) := by
   refine ⟨hG.os, hG.tape, hG.output, hG.size, hG.used, fun b' h1 h2 => ⟨(hG.rest b' h1 h2).1, ?_⟩, fun b' t k s h1 h2 => ⟨(hG.tail b' t k s h1 h2).1, ?_⟩, hG.more⟩
   ·have := (hG.rest b' h1 h2).2
    have hne : b' ≠ b := by rintro rfl; rw [hb2] at this; cases this
    rw [hoth b' hne]; exact this
   ·have := (hG.tail b' t k s h1 h2).2
    have hne : b' ≠ b := by
     rintro rfl
     rw [hb2] at this
     rcases this with h | ⟨_, _, _, h, _⟩
     ·cases h
     ·injection h with h; cases h
    rw [hoth b' hne]; exact this
  have hVf : Zae w' ((τ.set b (.tail e (n * C.sz E) (c * C.sz E))).free Z) (.lst (some ⟨b, 0, none⟩) n c (pre.take (n * C.sz E))) := by
   unfold Zae
   refine ⟨hA.le, (fun hq => by cases hq), fun ad' had' => ?_⟩
   injection had' with had'
   subst had'
   refine ZaB.mk fun j q hq => ?_
   have hjl : j < n * C.sz E := by rw [<- hpt]; exact ZaA hq
   have hq' : (pre ++ rest)[j]? = some q := by
    rw [List.getElem?_take] at hq
    rw [if_pos hjl] at hq
    rw [List.getElem?_append_left (ZaA hq)]
    exact hq
   have hcell := ZdU hH' hb2 0 j (by rw [Nat.zero_add]; exact hq')
   rw [Nat.zero_add]
   refine ⟨hcell, ?_, (o3 q (List.mem_of_getElem? hq')).sub hfree⟩
   refine ⟨hzb, o1, ?_⟩
   rw [hset]
   simpa using hjl
  have hval : AV.val (.raw (.slice (some ad) n c)) = (AV.lst (some ⟨b, 0, none⟩) n c (pre.take (n * C.sz E))).val \/ c = 0 := by
   by_cases h0 : c = 0
   ·exact .inr h0
   ·left
    have := q2 (by omega)
    rw [Nat.zero_mul] at this
    subst this
    simp
  rcases hval with hval | hc0
  ·have hext : ∀ j, j < ([x] : List (HI T)).length -> rup ρ' 1 (.lst (some ⟨b, 0, none⟩) n c (pre.take (n * C.sz E))) j = ρ j := fun j hj => by
    have : j ≠ 1 := by simp at hj; omega
    rw [ZdV this]
    exact R.ext j hj
   refine ⟨.lst (some ⟨b, 0, none⟩) n c (pre.take (n * C.sz E)), τ.set b (.tail e (n * C.sz E) (c * C.sz E)), by rw [hval], ⟨rup ρ' 1 (.lst (some ⟨b, 0, none⟩) n c (pre.take (n * C.sz E))), ?_, ⟨fun i y hy => ?_, fun i j y y' b' hy hy' ay ay' by_ by_' => ?_⟩, ⟨R.len, hext, ⟨fun b' k hb' hk => ?_, R.but.used⟩, fun b' ⟨i, y, hy, ay, by_⟩ => ?_⟩⟩, hHf, hVf, hGf⟩
   ·have hs1 : SV C 2 (rup ρ' 1 (.lst (some ⟨b, 0, none⟩) n c (pre.take (n * C.sz E)))) (.sl E (xs.take n) none) (.lst (some ⟨b, 0, none⟩) n c (pre.take (n * C.sz E))) := by
     have := Zcu (C := C) (N := 2) (ρ := rup ρ' 1 (.lst (some ⟨b, 0, none⟩) n c (pre.take (n * C.sz E)))) (E := E) (xs := xs.take n) (a := .lst (some ⟨b, 0, none⟩) n c (pre.take (n * C.sz E)))
     rw [hxl] at this
     exact this.2 ⟨_, c, _, [], by rw [List.append_nil], hA.le, hA.max, hA.len, (fun hq => by cases hq), hsv _ _⟩
    exact Zfo.2 ⟨(Zav _ _ _).symm, by simp, hs1⟩
   ·match i, hy with
    | 0, hy => injection hy with hy; subst hy; trivial
    | 1, hy =>
     injection hy with hy
     subst hy
     exact ⟨n, pre.take (n * C.sz E), by rw [Zav]; exact ⟨hpt, .inr ⟨b, c, rfl, hA.le, hA.max, hset, o1⟩⟩⟩
   ·have hi1 : ∀ i (y : HI T), ([HI.dead, .row e (C.sz E)] : List (HI T))[i]? = some y -> y.alive = true -> i = 1 := fun i y hy ay => by
     match i, hy with
     | 0, hy => injection hy with hy; subst hy; cases ay
     | 1, _ => rfl
    rw [hi1 i y hy ay, hi1 j y' hy' ay']
   ·have hb0 := R.but.keep b' k hb' hk
    have hne : b' ≠ b := by
     rintro rfl
     rcases R.born b' ⟨1, _, rfl, rfl, by rw [q1]; rfl⟩ with hl | ⟨hl, _⟩
     ·obtain ⟨i, y, p1, p2, p3⟩ := hl
      exact hb' ⟨i, y, trivial, p1, p2, p3⟩
     ·rw [hl] at hk; cases hk
    rw [hoth b' hne]; exact hb0
   ·match i, hy with
    | 0, hy => injection hy with hy; subst hy; cases ay
    | 1, hy =>
     rw [Zav] at by_
     exact R.born b' ⟨1, _, rfl, rfl, by rw [q1]; exact by_⟩
  ·exact absurd hA.le (by omega)
 ·exact absurd hn1 hn0
end
end Go.Proofs.YteempnebenjkmaaGreatDoor
