/- A call that reads rows of bytes and tells a number, as walked: its contract. -/
import Derived.Test.YteempnebenjkmaaGreatDoorWr
import Derived.Test.YteempnebenjkmaaGreatDoorFx
namespace Go.Proofs.YteempnebenjkmaaGreatDoor
open Go.RowKit
set_option linter.unusedSimpArgs false
set_option maxRecDepth 100000
set_option linter.unusedVariables false
set_option linter.unusedSectionVars false
theorem ZyK {α : Type} (l : List α) : (l.map fun x => x) = l := by simp
theorem ZyL {α : Type} (l : List (List α)) : (l.map fun r => r.map fun x => x) = l := by simp
section
variable {T : Nat -> Type} {C : Zaw T} {P : Program} {N : Nat} {ρ : Nat -> AV} {w : World} {B : Nat -> Nat -> Prop}
variable {Eb : Nat} {tb : T Eb -> UInt8} (hb : ∀ x, C.enc Eb x = [.int .u8 ((tb x).toNat : Int)])
include hb
theorem ZrI : ∀ {xs : List (T Eb)} {cs : List AV}, SVs C N ρ (xs.flatMap (C.enc Eb)) cs -> cs = xs.map fun x => AV.raw (vB (tb x))
 | [], cs, h => by rw [Zbc.1 h]; rfl
 | x :: xs, cs, h => by
  rw [List.flatMap_cons, hb x] at h
  obtain ⟨a, bs, rfl, h1, h2⟩ := SVs.to (v := .int .u8 ((tb x).toNat : Int)) h
  rw [Zam.1 h1, ZrI h2]
  rfl
theorem Zo1 {xs : List (T Eb)} {a : AV} (hs : SV C N ρ (.sl Eb xs none) a) (hV : Zae w B a) : ∃ A c, a.val = .slice A xs.length c /\ Rep (fun _ => True) w (Zeq (xs.map tb)) a.val := by
 obtain ⟨A, c, cs, rest, rfl, l1, l2, l3, l4, l5⟩ := Zcu.1 hs
 have hcs := ZrI hb l5
 rw [AV.val_lst]
 refine ⟨A, c, rfl, Rep.of_list (by simp) l1 l2 l3 l4 fun ad ha hp => ?_⟩
 unfold Zae at hV
 have hat := hV.2.2 ad ha
 have hcell : ∀ (j : Nat) (d : D), ((xs.map tb).map dB)[j]? = some d -> ∃ u, w.cell? (ad.add j) = some u /\ Rep (fun _ => True) w d u := fun j d hd => by
  rw [List.map_map, List.getElem?_map] at hd
  cases hx : xs[j]? with
  | none => rw [hx] at hd; cases hd
  | some x =>
   rw [hx] at hd
   injection hd with hd
   subst hd
   have hj : j < xs.length := ZaA hx
   have hg : (cs ++ rest)[j]? = some (AV.raw (vB (tb x))) := by
    rw [List.getElem?_append_left (by rw [hcs, List.length_map]; exact hj), hcs, List.getElem?_map, hx]; rfl
   have := (hat.get hg).1
   rw [Nat.zero_add] at this
   refine ⟨vB (tb x), by simpa using this, ?_⟩
   show Rep _ w (D.i .u8 _) (vB (tb x))
   unfold Rep
   rfl
 refine ⟨trivial, ?_, hcell⟩
 obtain ⟨u, hu, _⟩ := hcell 0 (dB (tb (xs[0]'hp))) (by rw [List.map_map, List.getElem?_map, List.getElem?_eq_getElem hp]; rfl)
 have := World.block_lt_of_cell? w _ hu
 rw [Addr.block_add] at this
 exact this
variable {Er : Nat} {tr : T Er -> List (T Eb)} (hr : ∀ x, C.enc Er x = [.sl Eb (tr x) none])
include hr
theorem ZuF : ∀ {rs : List (T Er)} {cs : List AV}, SVs C N ρ (rs.flatMap (C.enc Er)) cs -> cs.length = rs.length /\ ∀ (j : Nat) r, rs[j]? = some r -> ∃ a, cs[j]? = some a /\ SV C N ρ (.sl Eb (tr r) none) a
 | [], cs, h => by rw [Zbc.1 h]; exact ⟨rfl, fun j r hj => by simp at hj⟩
 | x :: rs, cs, h => by
  rw [List.flatMap_cons, hr x] at h
  obtain ⟨a, bs, rfl, h1, h2⟩ := SVs.to (v := .sl Eb (tr x) none) h
  obtain ⟨k1, k2⟩ := ZuF h2
  refine ⟨by simp [k1], fun j r hj => ?_⟩
  cases j with
  | zero => injection hj with hj; subst hj; exact ⟨a, rfl, h1⟩
  | succ j => exact k2 j r hj
theorem Zwz {rs : List (T Er)} {a : AV} (hs : SV C N ρ (.sl Er rs none) a) (hV : Zae w B a) : ∃ A c, a.val = .slice A rs.length c /\ Rep (fun _ => True) w (Zoj (rs.map fun r => (tr r).map tb)) a.val := by
 obtain ⟨A, c, cs, rest, rfl, l1, l2, l3, l4, l5⟩ := Zcu.1 hs
 obtain ⟨k1, k2⟩ := ZuF hb hr l5
 rw [AV.val_lst]
 refine ⟨A, c, rfl, Rep.of_list (by simp) l1 l2 l3 l4 fun ad ha hp => ?_⟩
 unfold Zae at hV
 have hat := hV.2.2 ad ha
 have hcell : ∀ (j : Nat) (d : D), ((rs.map fun r => (tr r).map tb).map Zeq)[j]? = some d -> ∃ u, w.cell? (ad.add j) = some u /\ Rep (fun _ => True) w d u := fun j d hd => by
  rw [List.map_map, List.getElem?_map] at hd
  cases hx : rs[j]? with
  | none => rw [hx] at hd; cases hd
  | some r =>
   rw [hx] at hd
   injection hd with hd
   subst hd
   obtain ⟨a, ha, hsa⟩ := k2 j r hx
   have hg : (cs ++ rest)[j]? = some a := by rw [List.getElem?_append_left (ZaA ha)]; exact ha
   have := hat.get hg
   rw [Nat.zero_add] at this
   obtain ⟨_, _, _, q⟩ := Zo1 hb hsa this.2.2
   exact ⟨a.val, this.1, q⟩
 refine ⟨trivial, ?_, hcell⟩
 obtain ⟨u, hu, _⟩ := hcell 0 (Zeq ((tr (rs[0]'hp)).map tb)) (by rw [List.map_map, List.getElem?_map, List.getElem?_eq_getElem hp]; rfl)
 have := World.block_lt_of_cell? w _ hu
 rw [Addr.block_add] at this
 exact this
theorem Tr.sum {f : FuncId} {k : IntKind} {rs : List (T Er)} {g : Int} (hf : ZcZ P f = true)
 (hcall : ∀ A n c w, Rep (fun _ => True) w (Zoj (rs.map fun r => (tr r).map tb)) (.slice A n c) -> Calls P f #[.slice A n c] w fun e w' => e = .returned (.int k g) /\ ZcC (fun _ => False) w w') :
 Tr C P (fun _ => True) f [.sl Er rs none] [] (.int k g) [] := by
 intro ρ σ vs hs H
 obtain ⟨a, rfl, h1⟩ := Zef.1 hs
 refine fun w Z hH hV => .inl ⟨hf, ?_⟩
 obtain ⟨A, c, e1, hR⟩ := Zwz hb hr h1 (hV a (List.mem_singleton.2 rfl))
 have : ([a].map AV.val).toArray = #[.slice A rs.length c] := by simp [e1]
 rw [this]
 rw [e1] at hR
 refine Calls.mono (hcall _ _ _ _ hR) ?_
 rintro e w' ⟨rfl, K⟩
 have hg : Grow w σ w' σ := ⟨K.os, K.tape, K.output, K.size, fun b hb hu => hu, fun b hb hn => ⟨K.block b hb (fun h => h), hn⟩, fun b t k s hb ht => ⟨fun j v _ hv => by rw [World.cell?_of_block (w := w) (K.block b hb (fun h => h))]; exact hv, .inr ⟨t, k, s, ht, Nat.le_refl _⟩⟩, fun b hu => hu⟩
 have hH' : Zaj w' σ Z := by
  refine ⟨fun b hu => Nat.lt_of_lt_of_le (hH.used _ hu) K.size, fun b hz => ?_, fun b t cs hb => ?_, fun b t k s hb => ?_, fun b es hb => ?_⟩
  ·obtain ⟨z1, z2⟩ := hH.z _ hz
   exact ⟨Nat.lt_of_lt_of_le z1 K.size, z2⟩
  ·obtain ⟨g1, g2, g3⟩ := hH.own _ _ _ hb
   exact ⟨g1, (K.block b (hH.used _ g1) (fun h => h)).trans g2, fun c hc => hg.valid (g3 c hc)⟩
  ·obtain ⟨g1, cs, g2, g3⟩ := hH.tail _ _ _ _ hb
   exact ⟨g1, cs, (K.block b (hH.used _ g1) (fun h => h)).trans g2, g3⟩
  ·obtain ⟨g1, a, c, g2, g3⟩ := hH.map _ _ hb
   exact ⟨g1, a, c, (K.block b (hH.used _ g1) (fun h => h)).trans g2, g3⟩
 exact ⟨.raw (.int k g), σ, by simp, ⟨ρ, Zam.2 rfl, H, .refl _ _ _ _⟩, hH', by unfold Zae; trivial, hg⟩
end
section
variable {T : Nat -> Type} {C : Zaw T} {P : Program}
theorem Tr.freezeO {f : FuncId} {args : List (XV T)} {E n : Nat} {co : Option Nat} {e : TypeId} {kp : Bool} {xs : List (T E)} (hn0 : n ≠ 0) (hn : n <= xs.length) (h : Tr C P (fun _ => True) f args [] (.as E 0 0 n co) [.arr e E kp xs]) :
 Tr C P (fun _ => True) f args [] (.sl E (xs.take n) (some 0)) [.row e (C.sz E)] := by
 intro ρ σ vs hs H
 have h := h ρ σ vs hs H
 have hsz := C.pos E
 have hxl : (xs.take n).length = n := by rw [List.length_take]; omega
 refine fun w Z hH hV => (h w Z hH hV).mono ?_
 rintro y w' ⟨r, τ, rfl, ⟨ρ', hr, H', R⟩, hH', hV', hG⟩
 rcases ZbE.1 hr with ⟨ad, c, rfl, hA⟩ | ⟨rfl, hn1, hiN, hρi, hco⟩
 ·obtain ⟨b, q1, q2⟩ := hA.at_
  obtain ⟨pre, rest, hb2, hb3, hb4, hb5, hb6⟩ := H'.arrAt (i := 0) rfl q1
  rw [Nat.zero_add] at q1 hb5
  have hpl := (hb4 0 ρ).len
  rw [Zb3] at hpl
  have hm1 : n * C.sz E <= xs.length * C.sz E := Nat.mul_le_mul_right _ hn
  have hm2 : n * C.sz E <= c * C.sz E := Nat.mul_le_mul_right _ hA.le
  have hsv : ∀ N ρ, SVs C N ρ ((xs.take n).flatMap (C.enc E)) (pre.take (n * C.sz E)) := fun N ρ => by
   have := (hb4 N ρ).take (n * C.sz E)
   rw [Zc2] at this
   exact this
  have hpt : (pre.take (n * C.sz E)).length = n * C.sz E := by rw [List.length_take]; omega
  obtain ⟨o1, o2, o3⟩ := hH'.own _ _ _ hb2
  have hzb : ¬ Z b := fun hz => by have := (hH'.z _ hz).2; rw [hb2] at this; cases this
  have hset : (τ.set b (.tail e (n * C.sz E) (c * C.sz E))).blk b = some (.tail e (n * C.sz E) (c * C.sz E)) := by show (if b = b then _ else τ.blk b) = _; rw [if_pos rfl]
  have hoth : ∀ b', b' ≠ b -> (τ.set b (.tail e (n * C.sz E) (c * C.sz E))).blk b' = τ.blk b' := fun b' hb' => by show (if b' = b then _ else τ.blk b') = _; rw [if_neg hb']
  have hfree : ∀ b' o, τ.free Z b' o -> (τ.set b (.tail e (n * C.sz E) (c * C.sz E))).free Z b' o := fun b' o hf => by
   obtain ⟨z1, z2, z3⟩ := hf
   have hne : b' ≠ b := by rintro rfl; rw [hb2] at z3; exact z3
   refine ⟨z1, z2, ?_⟩
   rw [hoth b' hne]; exact z3
  have hHf : Zaj w' (τ.set b (.tail e (n * C.sz E) (c * C.sz E))) Z := by
   refine ⟨hH'.used, fun b' hz => ?_, fun b' t cs' hb' => ?_, fun b' t k s hb' => ?_, fun b' es hb' => hH'.map _ _ (by rw [<- hoth b' (by rintro rfl; rw [hset] at hb'; injection hb' with hb'; cases hb')]; exact hb')⟩
   ·obtain ⟨z1, z2⟩ := hH'.z _ hz
    have hne : b' ≠ b := by rintro rfl; exact hzb hz
    exact ⟨z1, by rw [hoth b' hne]; exact z2⟩
   ·have hne : b' ≠ b := by rintro rfl; rw [hset] at hb'; injection hb' with hb'; cases hb'
    rw [hoth b' hne] at hb'
    obtain ⟨p1, p2, p3⟩ := hH'.own _ _ _ hb'
    exact ⟨p1, p2, fun q hq => (p3 q hq).sub hfree⟩
   ·by_cases hne : b' = b
    ·subst hne
     rw [hset] at hb'
     injection hb' with hb'
     injection hb' with e1 e2 e3
     subst e1 e2 e3
     exact ⟨o1, _, o2, by simp only [List.size_toArray, List.length_map]; exact hb5, hm2⟩
    ·rw [hoth b' hne] at hb'
     exact hH'.tail _ _ _ _ hb'
  have hGf : Grow w σ w' (τ.set b (.tail e (n * C.sz E) (c * C.sz E))) := by
   refine ⟨hG.os, hG.tape, hG.output, hG.size, hG.used, fun b' h1 h2 => ⟨(hG.rest b' h1 h2).1, ?_⟩, fun b' t k s h1 h2 => ⟨(hG.tail b' t k s h1 h2).1, ?_⟩, hG.more⟩
   ·have := (hG.rest b' h1 h2).2
    have hne : b' ≠ b := by rintro rfl; rw [hb2] at this; cases this
    rw [hoth b' hne]; exact this
   ·have := (hG.tail b' t k s h1 h2).2
    have hne : b' ≠ b := by
     rintro rfl
     rw [hb2] at this
     rcases this with h | ⟨_, _, _, h, _⟩
     ·cases h
     ·injection h with h; cases h
    rw [hoth b' hne]; exact this
  have hVf : Zae w' ((τ.set b (.tail e (n * C.sz E) (c * C.sz E))).free Z) (.lst (some ⟨b, 0, none⟩) n c (pre.take (n * C.sz E))) := by
   unfold Zae
   refine ⟨hA.le, (fun hq => by cases hq), fun ad' had' => ?_⟩
   injection had' with had'
   subst had'
   refine ZaB.mk fun j q hq => ?_
   have hjl : j < n * C.sz E := by rw [<- hpt]; exact ZaA hq
   have hq' : (pre ++ rest)[j]? = some q := by
    rw [List.getElem?_take] at hq
    rw [if_pos hjl] at hq
    rw [List.getElem?_append_left (ZaA hq)]
    exact hq
   have hcell := ZdU hH' hb2 0 j (by rw [Nat.zero_add]; exact hq')
   rw [Nat.zero_add]
   refine ⟨hcell, ?_, (o3 q (List.mem_of_getElem? hq')).sub hfree⟩
   refine ⟨hzb, o1, ?_⟩
   rw [hset]
   simpa using hjl
  have hval : AV.val (.raw (.slice (some ad) n c)) = (AV.lst (some ⟨b, 0, none⟩) n c (pre.take (n * C.sz E))).val \/ c = 0 := by
   by_cases h0 : c = 0
   ·exact .inr h0
   ·left
    have := q2 (by omega)
    rw [Nat.zero_mul] at this
    subst this
    simp
  rcases hval with hval | hc0
  ·have hext : ∀ j, j < ([] : List (HI T)).length -> rup ρ' 0 (.lst (some ⟨b, 0, none⟩) n c (pre.take (n * C.sz E))) j = ρ j := fun j hj => by
    simp at hj
   refine ⟨.lst (some ⟨b, 0, none⟩) n c (pre.take (n * C.sz E)), τ.set b (.tail e (n * C.sz E) (c * C.sz E)), by rw [hval], ⟨rup ρ' 0 (.lst (some ⟨b, 0, none⟩) n c (pre.take (n * C.sz E))), ?_, ⟨fun i y hy => ?_, fun i j y y' b' hy hy' ay ay' by_ by_' => ?_⟩, ⟨R.len, hext, ⟨fun b' k hb' hk => ?_, R.but.used⟩, fun b' ⟨i, y, hy, ay, by_⟩ => ?_⟩⟩, hHf, hVf, hGf⟩
   ·have hs1 : SV C 1 (rup ρ' 0 (.lst (some ⟨b, 0, none⟩) n c (pre.take (n * C.sz E)))) (.sl E (xs.take n) none) (.lst (some ⟨b, 0, none⟩) n c (pre.take (n * C.sz E))) := by
     have := Zcu (C := C) (N := 1) (ρ := rup ρ' 0 (.lst (some ⟨b, 0, none⟩) n c (pre.take (n * C.sz E)))) (E := E) (xs := xs.take n) (a := .lst (some ⟨b, 0, none⟩) n c (pre.take (n * C.sz E)))
     rw [hxl] at this
     exact this.2 ⟨_, c, _, [], by rw [List.append_nil], hA.le, hA.max, hA.len, (fun hq => by cases hq), hsv _ _⟩
    exact Zfo.2 ⟨(Zav _ _ _).symm, by simp, hs1⟩
   ·match i, hy with
    | 0, hy =>
     injection hy with hy
     subst hy
     exact ⟨n, pre.take (n * C.sz E), by rw [Zav]; exact ⟨hpt, .inr ⟨b, c, rfl, hA.le, hA.max, hset, o1⟩⟩⟩
   ·have hi1 : ∀ i (y : HI T), ([HI.row e (C.sz E)] : List (HI T))[i]? = some y -> y.alive = true -> i = 0 := fun i y hy ay => by
     match i, hy with
     | 0, _ => rfl
    rw [hi1 i y hy ay, hi1 j y' hy' ay']
   ·have hb0 := R.but.keep b' k hb' hk
    have hne : b' ≠ b := by
     rintro rfl
     rcases R.born b' ⟨0, _, rfl, rfl, by rw [q1]; rfl⟩ with hl | ⟨hl, _⟩
     ·obtain ⟨i, y, p1, p2, p3⟩ := hl
      exact hb' ⟨i, y, trivial, p1, p2, p3⟩
     ·rw [hl] at hk; cases hk
    rw [hoth b' hne]; exact hb0
   ·match i, hy with
    | 0, hy =>
     rw [Zav] at by_
     exact R.born b' ⟨0, _, rfl, rfl, by rw [q1]; exact by_⟩
  ·exact absurd hA.le (by omega)
 ·exact absurd hn1 hn0
end
end Go.Proofs.YteempnebenjkmaaGreatDoor
