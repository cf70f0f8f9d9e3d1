/- XWr, XGw, XFx, XSm in one. -/
import Derived.Test.YteempnebenjkmaaGreatDoorMc
import Derived.Sort.Grow
import Derived.Shelf.Spec.SlicesGrow
/- A call that writes one array of ours, as a law of the kit's shelf tells it. -/
namespace Go.Proofs.YteempnebenjkmaaGreatDoor
open Go.RowKit
set_option linter.unusedSimpArgs false
set_option maxRecDepth 100000
set_option linter.unusedVariables false
variable {T : Nat -> Type}
section
variable {C : ZaA T} {P : Program} {w w' : World} {σ : St} {Z : Nat -> Prop} {ρ : Nat -> AV}
end
end Go.Proofs.YteempnebenjkmaaGreatDoor
/- slices.Grow of a list that is nil: a new array, nothing of it told. -/
namespace Go.Proofs.YteempnebenjkmaaGreatDoor
open Go.RowKit
set_option linter.unusedSimpArgs false
set_option maxRecDepth 100000
set_option linter.unusedVariables false
variable {T : Nat -> Type}
section
variable {C : ZaA T} {P : Program}
theorem Zni {ρ0 : Go.Shelf.Ren} (L : Lays8.n4 P ρ0) {f : FuncId} {e : TypeId} {E : Nat} (he : ρ0.t 25 = e) (hf0 : ρ0.f 4 = f) {zv : Value} {sz by_ : Nat} (kp : Bool) (hsz : Zav P e = some sz) (hz : ZaS P e = some zv) (hby : Zb5 P e = some by_) (hzs : zv.cells.size = sz) (hE : sz = C.sz E) (hfu : C.full E = false)
 (hf : ZcZ P f = true) (n : Int) (h0 : 0 <= n) (h1 : n <= 140737488355328) (h2 : n * by_ <= 140737488355328) : Tr C P (fun _ => True) f [.nil, .int .i64 n] [] (.as E 0 0 0 none) [.arr e E kp []] := by
 subst he hf0
 intro ρ σ vs hs H
 obtain ⟨N, rfl⟩ : ∃ N : Nat, n = (N : Int) := ⟨n.toNat, by omega⟩
 cases hs with
 | nil hs =>
 cases hs with
 | int _ _ hs =>
 cases hs with
 | none =>
 refine fun w Z hH hV => .inl ⟨hf, ?_⟩
 by_cases hN : N = 0
 ·subst hN
  refine Calls.mono (Any8.slices_Grow_room L none 0 0 0 w (by omega) (by omega) (by omega) (by omega)) ?_
  rintro e' w' ⟨rfl, rfl⟩
  obtain ⟨g1, g2⟩ := H.newNil (U := fun _ => True) (e := ρ0.t 25) (E := E) (kp := kp)
  exact ⟨.lst none 0 0 [], σ, by simp, ⟨_, ZbQ.2 (.inr ⟨rfl, rfl, by simp, ZaD _ _ _, fun c' hc => by cases hc⟩), g1, g2⟩, hH, Zde, Grow.refl _ _⟩
 ·obtain ⟨i', hi', hsi⟩ := ZnL hsz
  have hzi : i'.zero = some zv := by unfold ZaS at hz; rw [hi'] at hz; simpa using hz
  have hbi : i'.bytes = by_ := by unfold Zb5 at hby; rw [hi'] at hby; simpa using hby
  have hpos := C.pos E
  have hb4 : N * by_ <= 140737488355328 := by
   have : ((N * by_ : Nat) : Int) <= 140737488355328 := by rw [Int.natCast_mul]; exact h2
   omega
  refine Calls.mono (Any8.slices_Grow_grow L i' zv hi' hzi (by omega) none 0 0 N [] w (by omega) (by omega) (by rw [hbi]; simpa using hb4) (by omega) (by simp) (fun _ => rfl) (fun a ha => by cases ha)) ?_
  rintro e' w' ⟨rfl, rfl⟩
  have hge := grownCap_ge w (0 + N) 0 (ρ0.t 25)
  have hcm := grownCap_le_maxLen w (0 + N) 0 (ρ0.t 25) (by unfold maxLen; omega)
  generalize grownCap w (0 + N) 0 (ρ0.t 25) = cap at *
  have harr : ([] : List Value).toArray ++ Builtin.zeroCells zv.cells (0 + N - 0) ++ Builtin.zeroCells zv.cells (cap - (0 + N)) = ((((Builtin.zeroCells zv.cells N).toList.map AV.raw ++ (Builtin.zeroCells zv.cells (cap - (0 + N))).toList.map AV.raw)).map AV.val).toArray := by
   apply Array.ext'
   simp [Function.comp_def]
  rw [harr]
  obtain ⟨f1, f2, f3, f4⟩ := hH.made (ρ0.t 25) (((Builtin.zeroCells zv.cells N).toList.map AV.raw ++ (Builtin.zeroCells zv.cells (cap - (0 + N))).toList.map AV.raw)) (fun q hq => by
   rcases List.mem_append.1 hq with hq | hq
   ·obtain ⟨v, _, rfl⟩ := List.mem_map.1 hq
    exact ZaL _
   ·obtain ⟨v, _, rfl⟩ := List.mem_map.1 hq
    exact ZaL _)
  obtain ⟨g1, g2⟩ := H.newArr (U := fun _ => True) kp f1 f2 (ρ0.t 25) (E := E) (K := cap) (xs := []) (pre := []) (rest := ((Builtin.zeroCells zv.cells N).toList.map AV.raw ++ (Builtin.zeroCells zv.cells (cap - (0 + N))).toList.map AV.raw)) (fun _ _ => .none) (by
   simp only [List.nil_append, List.length_append, List.length_map, Array.length_toList, size_zeroCells, hzs]
   rw [<- Nat.add_mul, hE]
   congr 1
   omega) hcm (fun h => by rw [hfu] at h; cases h)
  refine ⟨.raw (.slice (some ⟨w.heap.size, 0, none⟩) 0 cap), _, by simp, ⟨_, ZbQ.2 (.inl ⟨_, _, rfl, by simp, Nat.zero_le _, hcm, by omega, ⟨w.heap.size, by rw [Nat.zero_add]; exact ZaD _ _ _, fun _ => by rw [Nat.zero_mul]⟩, fun c' hc => by cases hc⟩), g1, g2⟩, f3, ZaL _, f4⟩
end
end Go.Proofs.YteempnebenjkmaaGreatDoor
/- An array that is told, with what lies behind its end, becomes a list with a spare that is known. -/
namespace Go.Proofs.YteempnebenjkmaaGreatDoor
open Go.RowKit
set_option linter.unusedSimpArgs false
set_option maxRecDepth 100000
set_option linter.unusedVariables false
variable {T : Nat -> Type}
section
variable {C : ZaA T} {P : Program}
theorem Tr.freezeX {f : FuncId} {args : List (XV T)} {E n : Nat} {co : Option Nat} {e : TypeId} {kp : Bool} {xs : List (T E)} (hn : n <= xs.length) (hl : xs.length <= 140737488355328) (h : Tr C P (fun _ => True) f args [] (.as E 0 0 n co) [.arr e E kp xs]) :
 Tr C P (fun _ => True) f args [] (.slx E (xs.take n) (xs.drop n)) [] := by
 intro ρ σ vs hs H
 have h := h ρ σ vs hs H
 have hsz := C.pos E
 have hxl : (xs.take n).length = n := by rw [List.length_take]; omega
 have hxd : (xs.take n).length + (xs.drop n).length = xs.length := by rw [List.length_take, List.length_drop]; omega
 refine fun w Z hH hV => (h w Z hH hV).mono ?_
 rintro y w' ⟨r, τ, rfl, ⟨ρ', hr, H', R⟩, hH', hV', hG⟩
 have hsx : ∀ (A : Option Addr) (c : Nat) (cs : List AV), xs.length <= c -> c <= maxLen -> (A = none -> xs.length = 0 /\ c = 0) -> SVs C 0 ρ' (xs.flatMap (C.enc E)) cs -> SV C 0 ρ' (.slx E (xs.take n) (xs.drop n)) (.lst A n c cs) := fun A c cs k1 k2 k3 k4 => by
  have := Zo3 (C := C) (N := 0) (ρ := ρ') (E := E) (xs := xs.take n) (ys := xs.drop n) (a := .lst A n c cs)
  rw [hxl] at this
  refine this.2 ⟨A, c, cs, [], by rw [List.append_nil], by omega, k2, by omega, fun ha => by have := k3 ha; omega, ?_⟩
  rw [List.take_append_drop]; exact k4
 have R0 : Rel (T := T) (fun _ => True) ρ [] σ ρ' [] τ := ⟨Nat.le_refl _, fun i hi => absurd hi (Nat.not_lt_zero i), R.but, fun b ⟨i, x, hx, _⟩ => by simp at hx⟩
 have H0 : ∀ τ, Hp C ρ' ([] : List (HI T)) τ := fun τ => ⟨fun i x hx => by simp at hx, fun i j x y b hx => by simp at hx⟩
 rcases ZbQ.1 hr with ⟨ad, c, rfl, hA⟩ | ⟨rfl, hn1, hiN, hρi, hco⟩
 ·obtain ⟨b, q1, q2⟩ := hA.at_
  obtain ⟨pre, rest, hb2, hb3, hb4, hb5, hb6⟩ := H'.arrAt (i := 0) rfl q1
  rw [Nat.zero_add] at q1 hb5
  have hpl := (hb4 0 ρ).len
  rw [Zcl] at hpl
  have hxc : xs.length <= c := by
   have h1 : xs.length * C.sz E <= c * C.sz E := by rw [<- hpl, <- hb5, List.length_append]; omega
   exact Nat.le_of_mul_le_mul_right h1 hsz
  by_cases hc0 : c = 0
  ·have hx0 : xs = [] := List.eq_nil_of_length_eq_zero (by omega)
   have hn0 : n = 0 := by omega
   refine ⟨.lst (some ad) n c [], τ, by simp, ⟨ρ', hsx _ _ _ hxc hA.max (fun hq => by cases hq) (by rw [hx0]; exact .none), H0 _, R0⟩, hH', ?_, hG⟩
   unfold Zag
   exact ⟨hA.le, (fun hq => by cases hq), fun ad' had' => Zay.mk fun j q hq => by simp at hq⟩
  have had := q2 (by omega)
  rw [Nat.zero_mul] at had
  subst had
  have hsv := hb4 0 ρ'
  obtain ⟨o1, o2, o3⟩ := hH'.own _ _ _ hb2
  have hzb : ¬ Z b := fun hz => by have := (hH'.z _ hz).2; rw [hb2] at this; cases this
  have hm2 : xs.length * C.sz E <= c * C.sz E := Nat.mul_le_mul_right _ hxc
  have hset : (τ.set b (.tail e (xs.length * C.sz E) (c * C.sz E))).blk b = some (.tail e (xs.length * C.sz E) (c * C.sz E)) := by show (if b = b then _ else τ.blk b) = _; rw [if_pos rfl]
  have hoth : ∀ b', b' ≠ b -> (τ.set b (.tail e (xs.length * C.sz E) (c * C.sz E))).blk b' = τ.blk b' := fun b' hb' => by show (if b' = b then _ else τ.blk b') = _; rw [if_neg hb']
  have hfree : ∀ b' o, τ.free Z b' o -> (τ.set b (.tail e (xs.length * C.sz E) (c * C.sz E))).free Z b' o := fun b' o hf => by
   obtain ⟨z1, z2, z3⟩ := hf
   have hne : b' ≠ b := by rintro rfl; rw [hb2] at z3; exact z3
   refine ⟨z1, z2, ?_⟩
   rw [hoth b' hne]; exact z3
  have hHf : Zan w' (τ.set b (.tail e (xs.length * C.sz E) (c * C.sz E))) Z := by
   refine ⟨hH'.used, fun b' hz => ?_, fun b' t cs' hb' => ?_, fun b' t k s hb' => ?_, fun b' es hb' => ?_⟩
   ·obtain ⟨z1, z2⟩ := hH'.z _ hz
    have hne : b' ≠ b := by rintro rfl; exact hzb hz
    exact ⟨z1, by rw [hoth b' hne]; exact z2⟩
   ·have hne : b' ≠ b := by rintro rfl; rw [hset] at hb'; injection hb' with hb'; cases hb'
    rw [hoth b' hne] at hb'
    obtain ⟨p1, p2, p3⟩ := hH'.own _ _ _ hb'
    exact ⟨p1, p2, fun q hq => (p3 q hq).sub hfree⟩
   ·by_cases hne : b' = b
    ·subst hne
     rw [hset] at hb'
     injection hb' with hb'
     injection hb' with e1 e2 e3
     subst e1 e2 e3
     exact ⟨o1, _, o2, by simp only [List.size_toArray, List.length_map]; exact hb5, hm2⟩
    ·rw [hoth b' hne] at hb'
     exact hH'.tail _ _ _ _ hb'
   ·by_cases hne : b' = b
    ·subst hne
     rw [hset] at hb'
     injection hb' with hb'
     cases hb'
    ·rw [hoth b' hne] at hb'
     exact hH'.map _ _ hb'
  have hGf : Grow w σ w' (τ.set b (.tail e (xs.length * C.sz E) (c * C.sz E))) := by
   refine ⟨hG.os, hG.tape, hG.output, hG.size, hG.used, fun b' h1 h2 => ⟨(hG.rest b' h1 h2).1, ?_⟩, fun b' t k s h1 h2 => ⟨(hG.tail b' t k s h1 h2).1, ?_⟩, hG.more⟩
   ·have := (hG.rest b' h1 h2).2
    have hne : b' ≠ b := by rintro rfl; rw [hb2] at this; cases this
    rw [hoth b' hne]; exact this
   ·have := (hG.tail b' t k s h1 h2).2
    have hne : b' ≠ b := by
     rintro rfl
     rw [hb2] at this
     rcases this with h | ⟨_, _, _, h, _⟩
     ·cases h
     ·injection h with h; cases h
    rw [hoth b' hne]; exact this
  have hVf : Zag w' ((τ.set b (.tail e (xs.length * C.sz E) (c * C.sz E))).free Z) (.lst (some ⟨b, 0, none⟩) n c pre) := by
   unfold Zag
   refine ⟨hA.le, (fun hq => by cases hq), fun ad' had' => ?_⟩
   injection had' with had'
   subst had'
   refine Zay.mk fun j q hq => ?_
   have hjl : j < xs.length * C.sz E := by rw [<- hpl]; exact Zat hq
   have hq' : (pre ++ rest)[j]? = some q := by
    rw [List.getElem?_append_left (Zat hq)]
    exact hq
   have hcell := Zdl hH' hb2 0 j (by rw [Nat.zero_add]; exact hq')
   rw [Nat.zero_add]
   refine ⟨hcell, ?_, (o3 q (List.mem_of_getElem? hq')).sub hfree⟩
   refine ⟨hzb, o1, ?_⟩
   rw [hset]
   simpa using hjl
  refine ⟨.lst (some ⟨b, 0, none⟩) n c pre, τ.set b (.tail e (xs.length * C.sz E) (c * C.sz E)), by simp, ⟨ρ', hsx _ _ _ hxc hA.max (fun hq => by cases hq) hsv, H0 _, ⟨Nat.le_refl _, fun i hi => absurd hi (Nat.not_lt_zero i), ⟨fun b' k hb' hk => ?_, R.but.used⟩, fun b ⟨i, x, hx, _⟩ => by simp at hx⟩⟩, hHf, hVf, hGf⟩
  have hb0 := R.but.keep b' k hb' hk
  have hne : b' ≠ b := by
   rintro rfl
   rcases R.born b' ⟨0, _, rfl, rfl, by rw [q1]; rfl⟩ with hl | ⟨hl, _⟩
   ·obtain ⟨i, y, p1, p2, p3⟩ := hl
    simp at p1
   ·rw [hl] at hk; cases hk
  rw [hoth b' hne]; exact hb0
 ·have hx0 : xs = [] := by
   rcases H'.it 0 _ rfl with ⟨b', K', pre, rest, h1, _⟩ | ⟨_, h2⟩
   ·rw [hρi] at h1; cases h1
   ·exact h2
  subst hn1
  refine ⟨_, τ, rfl, ⟨ρ', hsx none 0 [] (by rw [hx0]; exact Nat.le_refl _) (Nat.zero_le _) (fun _ => by rw [hx0]; exact ⟨rfl, rfl⟩) (by rw [hx0]; exact .none), H0 _, R0⟩, hH', hV', hG⟩
end
end Go.Proofs.YteempnebenjkmaaGreatDoor
/- A call that reads rows of bytes and tells a number, as walked: its contract. -/
namespace Go.Proofs.YteempnebenjkmaaGreatDoor
open Go.RowKit
set_option linter.unusedSimpArgs false
set_option maxRecDepth 100000
set_option linter.unusedVariables false
set_option linter.unusedSectionVars false
theorem Zzw {α : Type} (l : List α) : (l.map fun x => x) = l := by simp
theorem Zvf {α : Type} (l : List (List α)) : (l.map fun r => r.map fun x => x) = l := by simp
section
variable {T : Nat -> Type} {C : ZaA T} {P : Program} {N : Nat} {ρ : Nat -> AV} {w : World} {B : Nat -> Nat -> Prop}
variable {Eb : Nat} {tb : T Eb -> UInt8} (hb : ∀ x, C.enc Eb x = [.int .u8 ((tb x).toNat : Int)])
include hb
theorem Zr6 : ∀ {xs : List (T Eb)} {cs : List AV}, SVs C N ρ (xs.flatMap (C.enc Eb)) cs -> cs = xs.map fun x => AV.raw (vB (tb x))
 | [], cs, h => by rw [ZbA.1 h]; rfl
 | x :: xs, cs, h => by
  rw [List.flatMap_cons, hb x] at h
  obtain ⟨a, bs, rfl, h1, h2⟩ := SVs.to (v := .int .u8 ((tb x).toNat : Int)) h
  rw [Zaw.1 h1, Zr6 h2]
  rfl
theorem Zpw {xs : List (T Eb)} {a : AV} (hs : SV C N ρ (.sl Eb xs none) a) (hV : Zag w B a) : ∃ A c, a.val = .slice A xs.length c /\ Rep (fun _ => True) w (Zey (xs.map tb)) a.val := by
 obtain ⟨A, c, cs, rest, rfl, l1, l2, l3, l4, l5⟩ := Zb8.1 hs
 have hcs := Zr6 hb l5
 rw [AV.val_lst]
 refine ⟨A, c, rfl, Rep.of_list (by simp) l1 l2 l3 l4 fun ad ha hp => ?_⟩
 unfold Zag at hV
 have hat := hV.2.2 ad ha
 have hcell : ∀ (j : Nat) (d : D), ((xs.map tb).map dB)[j]? = some d -> ∃ u, w.cell? (ad.add j) = some u /\ Rep (fun _ => True) w d u := fun j d hd => by
  rw [List.map_map, List.getElem?_map] at hd
  cases hx : xs[j]? with
  | none => rw [hx] at hd; cases hd
  | some x =>
   rw [hx] at hd
   injection hd with hd
   subst hd
   have hj : j < xs.length := Zat hx
   have hg : (cs ++ rest)[j]? = some (AV.raw (vB (tb x))) := by
    rw [List.getElem?_append_left (by rw [hcs, List.length_map]; exact hj), hcs, List.getElem?_map, hx]; rfl
   have := (hat.get hg).1
   rw [Nat.zero_add] at this
   refine ⟨vB (tb x), by simpa using this, ?_⟩
   show Rep _ w (D.i .u8 _) (vB (tb x))
   unfold Rep
   rfl
 refine ⟨trivial, ?_, hcell⟩
 obtain ⟨u, hu, _⟩ := hcell 0 (dB (tb (xs[0]'hp))) (by rw [List.map_map, List.getElem?_map, List.getElem?_eq_getElem hp]; rfl)
 have := World.block_lt_of_cell? w _ hu
 rw [Addr.block_add] at this
 exact this
variable {Er : Nat} {tr : T Er -> List (T Eb)} (hr : ∀ x, C.enc Er x = [.sl Eb (tr x) none])
include hr
theorem Zvg : ∀ {rs : List (T Er)} {cs : List AV}, SVs C N ρ (rs.flatMap (C.enc Er)) cs -> cs.length = rs.length /\ ∀ (j : Nat) r, rs[j]? = some r -> ∃ a, cs[j]? = some a /\ SV C N ρ (.sl Eb (tr r) none) a
 | [], cs, h => by rw [ZbA.1 h]; exact ⟨rfl, fun j r hj => by simp at hj⟩
 | x :: rs, cs, h => by
  rw [List.flatMap_cons, hr x] at h
  obtain ⟨a, bs, rfl, h1, h2⟩ := SVs.to (v := .sl Eb (tr x) none) h
  obtain ⟨k1, k2⟩ := Zvg h2
  refine ⟨by simp [k1], fun j r hj => ?_⟩
  cases j with
  | zero => injection hj with hj; subst hj; exact ⟨a, rfl, h1⟩
  | succ j => exact k2 j r hj
theorem Zxm {rs : List (T Er)} {a : AV} (hs : SV C N ρ (.sl Er rs none) a) (hV : Zag w B a) : ∃ A c, a.val = .slice A rs.length c /\ Rep (fun _ => True) w (ZmA (rs.map fun r => (tr r).map tb)) a.val := by
 obtain ⟨A, c, cs, rest, rfl, l1, l2, l3, l4, l5⟩ := Zb8.1 hs
 obtain ⟨k1, k2⟩ := Zvg hb hr l5
 rw [AV.val_lst]
 refine ⟨A, c, rfl, Rep.of_list (by simp) l1 l2 l3 l4 fun ad ha hp => ?_⟩
 unfold Zag at hV
 have hat := hV.2.2 ad ha
 have hcell : ∀ (j : Nat) (d : D), ((rs.map fun r => (tr r).map tb).map Zey)[j]? = some d -> ∃ u, w.cell? (ad.add j) = some u /\ Rep (fun _ => True) w d u := fun j d hd => by
  rw [List.map_map, List.getElem?_map] at hd
  cases hx : rs[j]? with
  | none => rw [hx] at hd; cases hd
  | some r =>
   rw [hx] at hd
   injection hd with hd
   subst hd
   obtain ⟨a, ha, hsa⟩ := k2 j r hx
   have hg : (cs ++ rest)[j]? = some a := by rw [List.getElem?_append_left (Zat ha)]; exact ha
   have := hat.get hg
   rw [Nat.zero_add] at this
   obtain ⟨_, _, _, q⟩ := Zpw hb hsa this.2.2
   exact ⟨a.val, this.1, q⟩
 refine ⟨trivial, ?_, hcell⟩
 obtain ⟨u, hu, _⟩ := hcell 0 (Zey ((tr (rs[0]'hp)).map tb)) (by rw [List.map_map, List.getElem?_map, List.getElem?_eq_getElem hp]; rfl)
 have := World.block_lt_of_cell? w _ hu
 rw [Addr.block_add] at this
 exact this
theorem Tr.sum {f : FuncId} {k : IntKind} {rs : List (T Er)} {g : Int} (hf : ZcZ P f = true)
 (hcall : ∀ A n c w, Rep (fun _ => True) w (ZmA (rs.map fun r => (tr r).map tb)) (.slice A n c) -> Calls P f #[.slice A n c] w fun e w' => e = .returned (.int k g) /\ Zcq (fun _ => False) w w') :
 Tr C P (fun _ => True) f [.sl Er rs none] [] (.int k g) [] := by
 intro ρ σ vs hs H
 obtain ⟨a, rfl, h1⟩ := ZeG.1 hs
 refine fun w Z hH hV => .inl ⟨hf, ?_⟩
 obtain ⟨A, c, e1, hR⟩ := Zxm hb hr h1 (hV a (List.mem_singleton.2 rfl))
 have : ([a].map AV.val).toArray = #[.slice A rs.length c] := by simp [e1]
 rw [this]
 rw [e1] at hR
 refine Calls.mono (hcall _ _ _ _ hR) ?_
 rintro e w' ⟨rfl, K⟩
 have hg : Grow w σ w' σ := ⟨K.os, K.tape, K.output, K.size, fun b hb hu => hu, fun b hb hn => ⟨K.block b hb (fun h => h), hn⟩, fun b t k s hb ht => ⟨fun j v _ hv => by rw [World.cell?_of_block (w := w) (K.block b hb (fun h => h))]; exact hv, .inr ⟨t, k, s, ht, Nat.le_refl _⟩⟩, fun b hu => hu⟩
 have hH' : Zan w' σ Z := by
  refine ⟨fun b hu => Nat.lt_of_lt_of_le (hH.used _ hu) K.size, fun b hz => ?_, fun b t cs hb => ?_, fun b t k s hb => ?_, fun b es hb => ?_⟩
  ·obtain ⟨z1, z2⟩ := hH.z _ hz
   exact ⟨Nat.lt_of_lt_of_le z1 K.size, z2⟩
  ·obtain ⟨g1, g2, g3⟩ := hH.own _ _ _ hb
   exact ⟨g1, (K.block b (hH.used _ g1) (fun h => h)).trans g2, fun c hc => hg.valid (g3 c hc)⟩
  ·obtain ⟨g1, cs, g2, g3⟩ := hH.tail _ _ _ _ hb
   exact ⟨g1, cs, (K.block b (hH.used _ g1) (fun h => h)).trans g2, g3⟩
  ·obtain ⟨g1, a, c, g2, g3⟩ := hH.map _ _ hb
   exact ⟨g1, a, c, (K.block b (hH.used _ g1) (fun h => h)).trans g2, g3⟩
 exact ⟨.raw (.int k g), σ, by simp, ⟨ρ, Zaw.2 rfl, H, .refl _ _ _ _⟩, hH', by unfold Zag; trivial, hg⟩
end
section
variable {T : Nat -> Type} {C : ZaA T} {P : Program}
theorem Tr.freezeO {f : FuncId} {args : List (XV T)} {E n : Nat} {co : Option Nat} {e : TypeId} {kp : Bool} {xs : List (T E)} (hn0 : n ≠ 0) (hn : n <= xs.length) (h : Tr C P (fun _ => True) f args [] (.as E 0 0 n co) [.arr e E kp xs]) :
 Tr C P (fun _ => True) f args [] (.sl E (xs.take n) (some 0)) [.row e (C.sz E)] := by
 intro ρ σ vs hs H
 have h := h ρ σ vs hs H
 have hsz := C.pos E
 have hxl : (xs.take n).length = n := by rw [List.length_take]; omega
 refine fun w Z hH hV => (h w Z hH hV).mono ?_
 rintro y w' ⟨r, τ, rfl, ⟨ρ', hr, H', R⟩, hH', hV', hG⟩
 rcases ZbQ.1 hr with ⟨ad, c, rfl, hA⟩ | ⟨rfl, hn1, hiN, hρi, hco⟩
 ·obtain ⟨b, q1, q2⟩ := hA.at_
  obtain ⟨pre, rest, hb2, hb3, hb4, hb5, hb6⟩ := H'.arrAt (i := 0) rfl q1
  rw [Nat.zero_add] at q1 hb5
  have hpl := (hb4 0 ρ).len
  rw [Zcl] at hpl
  have hm1 : n * C.sz E <= xs.length * C.sz E := Nat.mul_le_mul_right _ hn
  have hm2 : n * C.sz E <= c * C.sz E := Nat.mul_le_mul_right _ hA.le
  have hsv : ∀ N ρ, SVs C N ρ ((xs.take n).flatMap (C.enc E)) (pre.take (n * C.sz E)) := fun N ρ => by
   have := (hb4 N ρ).take (n * C.sz E)
   rw [Zer] at this
   exact this
  have hpt : (pre.take (n * C.sz E)).length = n * C.sz E := by rw [List.length_take]; omega
  obtain ⟨o1, o2, o3⟩ := hH'.own _ _ _ hb2
  have hzb : ¬ Z b := fun hz => by have := (hH'.z _ hz).2; rw [hb2] at this; cases this
  have hset : (τ.set b (.tail e (n * C.sz E) (c * C.sz E))).blk b = some (.tail e (n * C.sz E) (c * C.sz E)) := by show (if b = b then _ else τ.blk b) = _; rw [if_pos rfl]
  have hoth : ∀ b', b' ≠ b -> (τ.set b (.tail e (n * C.sz E) (c * C.sz E))).blk b' = τ.blk b' := fun b' hb' => by show (if b' = b then _ else τ.blk b') = _; rw [if_neg hb']
  have hfree : ∀ b' o, τ.free Z b' o -> (τ.set b (.tail e (n * C.sz E) (c * C.sz E))).free Z b' o := fun b' o hf => by
   obtain ⟨z1, z2, z3⟩ := hf
   have hne : b' ≠ b := by rintro rfl; rw [hb2] at z3; exact z3
   refine ⟨z1, z2, ?_⟩
   rw [hoth b' hne]; exact z3
  have hHf : Zan w' (τ.set b (.tail e (n * C.sz E) (c * C.sz E))) Z := by
   refine ⟨hH'.used, fun b' hz => ?_, fun b' t cs' hb' => ?_, fun b' t k s hb' => ?_, fun b' es hb' => hH'.map _ _ (by rw [<- hoth b' (by rintro rfl; rw [hset] at hb'; injection hb' with hb'; cases hb')]; exact hb')⟩
   ·obtain ⟨z1, z2⟩ := hH'.z _ hz
    have hne : b' ≠ b := by rintro rfl; exact hzb hz
    exact ⟨z1, by rw [hoth b' hne]; exact z2⟩
   ·have hne : b' ≠ b := by rintro rfl; rw [hset] at hb'; injection hb' with hb'; cases hb'
    rw [hoth b' hne] at hb'
    obtain ⟨p1, p2, p3⟩ := hH'.own _ _ _ hb'
    exact ⟨p1, p2, fun q hq => (p3 q hq).sub hfree⟩
   ·by_cases hne : b' = b
    ·subst hne
     rw [hset] at hb'
     injection hb' with hb'
     injection hb' with e1 e2 e3
     subst e1 e2 e3
     exact ⟨o1, _, o2, by simp only [List.size_toArray, List.length_map]; exact hb5, hm2⟩
    ·rw [hoth b' hne] at hb'
     exact hH'.tail _ _ _ _ hb'
  have hGf : Grow w σ w' (τ.set b (.tail e (n * C.sz E) (c * C.sz E))) := by
   refine ⟨hG.os, hG.tape, hG.output, hG.size, hG.used, fun b' h1 h2 => ⟨(hG.rest b' h1 h2).1, ?_⟩, fun b' t k s h1 h2 => ⟨(hG.tail b' t k s h1 h2).1, ?_⟩, hG.more⟩
   ·have := (hG.rest b' h1 h2).2
    have hne : b' ≠ b := by rintro rfl; rw [hb2] at this; cases this
    rw [hoth b' hne]; exact this
   ·have := (hG.tail b' t k s h1 h2).2
    have hne : b' ≠ b := by
     rintro rfl
     rw [hb2] at this
     rcases this with h | ⟨_, _, _, h, _⟩
     ·cases h
     ·injection h with h; cases h
    rw [hoth b' hne]; exact this
  have hVf : Zag w' ((τ.set b (.tail e (n * C.sz E) (c * C.sz E))).free Z) (.lst (some ⟨b, 0, none⟩) n c (pre.take (n * C.sz E))) := by
   unfold Zag
   refine ⟨hA.le, (fun hq => by cases hq), fun ad' had' => ?_⟩
   injection had' with had'
   subst had'
   refine Zay.mk fun j q hq => ?_
   have hjl : j < n * C.sz E := by rw [<- hpt]; exact Zat hq
   have hq' : (pre ++ rest)[j]? = some q := by
    rw [List.getElem?_take] at hq
    rw [if_pos hjl] at hq
    rw [List.getElem?_append_left (Zat hq)]
    exact hq
   have hcell := Zdl hH' hb2 0 j (by rw [Nat.zero_add]; exact hq')
   rw [Nat.zero_add]
   refine ⟨hcell, ?_, (o3 q (List.mem_of_getElem? hq')).sub hfree⟩
   refine ⟨hzb, o1, ?_⟩
   rw [hset]
   simpa using hjl
  have hval : AV.val (.raw (.slice (some ad) n c)) = (AV.lst (some ⟨b, 0, none⟩) n c (pre.take (n * C.sz E))).val \/ c = 0 := by
   by_cases h0 : c = 0
   ·exact .inr h0
   ·left
    have := q2 (by omega)
    rw [Nat.zero_mul] at this
    subst this
    simp
  rcases hval with hval | hc0
  ·have hext : ∀ j, j < ([] : List (HI T)).length -> rup ρ' 0 (.lst (some ⟨b, 0, none⟩) n c (pre.take (n * C.sz E))) j = ρ j := fun j hj => by
    simp at hj
   refine ⟨.lst (some ⟨b, 0, none⟩) n c (pre.take (n * C.sz E)), τ.set b (.tail e (n * C.sz E) (c * C.sz E)), by rw [hval], ⟨rup ρ' 0 (.lst (some ⟨b, 0, none⟩) n c (pre.take (n * C.sz E))), ?_, ⟨fun i y hy => ?_, fun i j y y' b' hy hy' ay ay' by_ by_' => ?_⟩, ⟨R.len, hext, ⟨fun b' k hb' hk => ?_, R.but.used⟩, fun b' ⟨i, y, hy, ay, by_⟩ => ?_⟩⟩, hHf, hVf, hGf⟩
   ·have hs1 : SV C 1 (rup ρ' 0 (.lst (some ⟨b, 0, none⟩) n c (pre.take (n * C.sz E)))) (.sl E (xs.take n) none) (.lst (some ⟨b, 0, none⟩) n c (pre.take (n * C.sz E))) := by
     have := Zb8 (C := C) (N := 1) (ρ := rup ρ' 0 (.lst (some ⟨b, 0, none⟩) n c (pre.take (n * C.sz E)))) (E := E) (xs := xs.take n) (a := .lst (some ⟨b, 0, none⟩) n c (pre.take (n * C.sz E)))
     rw [hxl] at this
     exact this.2 ⟨_, c, _, [], by rw [List.append_nil], hA.le, hA.max, hA.len, (fun hq => by cases hq), hsv _ _⟩
    exact ZfK.2 ⟨(ZaD _ _ _).symm, by simp, hs1⟩
   ·match i, hy with
    | 0, hy =>
     injection hy with hy
     subst hy
     exact ⟨n, pre.take (n * C.sz E), by rw [ZaD]; exact ⟨hpt, .inr ⟨b, c, rfl, hA.le, hA.max, hset, o1⟩⟩⟩
   ·have hi1 : ∀ i (y : HI T), ([HI.row e (C.sz E)] : List (HI T))[i]? = some y -> y.alive = true -> i = 0 := fun i y hy ay => by
     match i, hy with
     | 0, _ => rfl
    rw [hi1 i y hy ay, hi1 j y' hy' ay']
   ·have hb0 := R.but.keep b' k hb' hk
    have hne : b' ≠ b := by
     rintro rfl
     rcases R.born b' ⟨0, _, rfl, rfl, by rw [q1]; rfl⟩ with hl | ⟨hl, _⟩
     ·obtain ⟨i, y, p1, p2, p3⟩ := hl
      exact hb' ⟨i, y, trivial, p1, p2, p3⟩
     ·rw [hl] at hk; cases hk
    rw [hoth b' hne]; exact hb0
   ·match i, hy with
    | 0, hy =>
     rw [ZaD] at by_
     exact R.born b' ⟨0, _, rfl, rfl, by rw [q1]; exact by_⟩
  ·exact absurd hA.le (by omega)
 ·exact absurd hn1 hn0
end
end Go.Proofs.YteempnebenjkmaaGreatDoor
