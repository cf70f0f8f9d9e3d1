/- A call that reads rows of bytes and tells a number, as walked: its contract. -/
import Derived.Test.YtinpiaibhjmfaaaWr
import Derived.Test.YtinpiaibhjmfaaaFx
namespace Go.Proofs.Ytinpiaibhjmfaaa
open Go.RowKit
set_option linter.unusedSimpArgs false
set_option maxRecDepth 100000
set_option linter.unusedVariables false
set_option linter.unusedSectionVars false
section
variable {T : Nat -> Type} {C : Zbg T} {P : Program} {N : Nat} {ρ : Nat -> AV} {w : World} {B : Nat -> Nat -> Prop}
variable {Eb : Nat} {tb : T Eb -> UInt8} (hb : ∀ x, C.enc Eb x = [.int .u8 ((tb x).toNat : Int)])
include hb
theorem ZjV : ∀ {xs : List (T Eb)} {cs : List AV}, SVs C N ρ (xs.flatMap (C.enc Eb)) cs -> cs = xs.map fun x => AV.raw (vB (tb x))
 | [], cs, h => by rw [Zdh.1 h]; rfl
 | x :: xs, cs, h => by
  rw [List.flatMap_cons, hb x] at h
  obtain ⟨a, bs, rfl, h1, h2⟩ := SVs.to (v := .int .u8 ((tb x).toNat : Int)) h
  rw [ZaM.1 h1, ZjV h2]
  rfl
theorem ZlL {xs : List (T Eb)} {a : AV} (hs : SV C N ρ (.sl Eb xs none) a) (hV : Zap w B a) : ∃ A c, a.val = .slice A xs.length c /\ Rep (fun _ => True) w (Zgf (xs.map tb)) a.val := by
 obtain ⟨A, c, cs, rest, rfl, l1, l2, l3, l4, l5⟩ := Zd2.1 hs
 have hcs := ZjV hb l5
 rw [AV.val_lst]
 refine ⟨A, c, rfl, Rep.of_list (by simp) l1 l2 l3 l4 fun ad ha hp => ?_⟩
 unfold Zap at hV
 have hat := hV.2.2 ad ha
 have hcell : ∀ (j : Nat) (d : D), ((xs.map tb).map dB)[j]? = some d -> ∃ u, w.cell? (ad.add j) = some u /\ Rep (fun _ => True) w d u := fun j d hd => by
  rw [List.map_map, List.getElem?_map] at hd
  cases hx : xs[j]? with
  | none => rw [hx] at hd; cases hd
  | some x =>
   rw [hx] at hd
   injection hd with hd
   subst hd
   have hj : j < xs.length := Zbr hx
   have hg : (cs ++ rest)[j]? = some (AV.raw (vB (tb x))) := by
    rw [List.getElem?_append_left (by rw [hcs, List.length_map]; exact hj), hcs, List.getElem?_map, hx]; rfl
   have := (hat.get hg).1
   rw [Nat.zero_add] at this
   refine ⟨vB (tb x), by simpa using this, ?_⟩
   show Rep _ w (D.i .u8 _) (vB (tb x))
   unfold Rep
   rfl
 refine ⟨trivial, ?_, hcell⟩
 obtain ⟨u, hu, _⟩ := hcell 0 (dB (tb (xs[0]'hp))) (by rw [List.map_map, List.getElem?_map, List.getElem?_eq_getElem hp]; rfl)
 have := World.block_lt_of_cell? w _ hu
 rw [Addr.block_add] at this
 exact this
variable {Er : Nat} {tr : T Er -> List (T Eb)} (hr : ∀ x, C.enc Er x = [.sl Eb (tr x) none])
include hr
theorem ZlM : ∀ {rs : List (T Er)} {cs : List AV}, SVs C N ρ (rs.flatMap (C.enc Er)) cs -> cs.length = rs.length /\ ∀ (j : Nat) r, rs[j]? = some r -> ∃ a, cs[j]? = some a /\ SV C N ρ (.sl Eb (tr r) none) a
 | [], cs, h => by rw [Zdh.1 h]; exact ⟨rfl, fun j r hj => by simp at hj⟩
 | x :: rs, cs, h => by
  rw [List.flatMap_cons, hr x] at h
  obtain ⟨a, bs, rfl, h1, h2⟩ := SVs.to (v := .sl Eb (tr x) none) h
  obtain ⟨k1, k2⟩ := ZlM h2
  refine ⟨by simp [k1], fun j r hj => ?_⟩
  cases j with
  | zero => injection hj with hj; subst hj; exact ⟨a, rfl, h1⟩
  | succ j => exact k2 j r hj
theorem Zm4 {rs : List (T Er)} {a : AV} (hs : SV C N ρ (.sl Er rs none) a) (hV : Zap w B a) : ∃ A c, a.val = .slice A rs.length c /\ Rep (fun _ => True) w (Zo1 (rs.map fun r => (tr r).map tb)) a.val := by
 obtain ⟨A, c, cs, rest, rfl, l1, l2, l3, l4, l5⟩ := Zd2.1 hs
 obtain ⟨k1, k2⟩ := ZlM hb hr l5
 rw [AV.val_lst]
 refine ⟨A, c, rfl, Rep.of_list (by simp) l1 l2 l3 l4 fun ad ha hp => ?_⟩
 unfold Zap at hV
 have hat := hV.2.2 ad ha
 have hcell : ∀ (j : Nat) (d : D), ((rs.map fun r => (tr r).map tb).map Zgf)[j]? = some d -> ∃ u, w.cell? (ad.add j) = some u /\ Rep (fun _ => True) w d u := fun j d hd => by
  rw [List.map_map, List.getElem?_map] at hd
  cases hx : rs[j]? with
  | none => rw [hx] at hd; cases hd
  | some r =>
   rw [hx] at hd
   injection hd with hd
   subst hd
   obtain ⟨a, ha, hsa⟩ := k2 j r hx
   have hg : (cs ++ rest)[j]? = some a := by rw [List.getElem?_append_left (Zbr ha)]; exact ha
   have := hat.get hg
   rw [Nat.zero_add] at this
   obtain ⟨_, _, _, q⟩ := ZlL hb hsa this.2.2
   exact ⟨a.val, this.1, q⟩
 refine ⟨trivial, ?_, hcell⟩
 obtain ⟨u, hu, _⟩ := hcell 0 (Zgf ((tr (rs[0]'hp)).map tb)) (by rw [List.map_map, List.getElem?_map, List.getElem?_eq_getElem hp]; rfl)
 have := World.block_lt_of_cell? w _ hu
 rw [Addr.block_add] at this
 exact this
theorem Tr.sum {f : FuncId} {k : IntKind} {rs : List (T Er)} {g : Int} (hf : ZcQ P f = true)
 (hcall : ∀ A n c w, Rep (fun _ => True) w (Zo1 (rs.map fun r => (tr r).map tb)) (.slice A n c) -> Calls P f #[.slice A n c] w fun e w' => e = .returned (.int k g) /\ Zdn (fun _ => False) w w') :
 Tr C P (fun _ => True) f [.sl Er rs none] [] (.int k g) [] := by
 intro ρ σ vs hs H
 obtain ⟨a, rfl, h1⟩ := Zq7.1 hs
 refine fun w Z hH hV => .inl ⟨hf, ?_⟩
 obtain ⟨A, c, e1, hR⟩ := Zm4 hb hr h1 (hV a (List.mem_singleton.2 rfl))
 have : ([a].map AV.val).toArray = #[.slice A rs.length c] := by simp [e1]
 rw [this]
 rw [e1] at hR
 refine Calls.mono (hcall _ _ _ _ hR) ?_
 rintro e w' ⟨rfl, K⟩
 have hg : Grow w σ w' σ := ⟨K.os, K.tape, K.output, K.size, fun b hb hu => hu, fun b hb hn => ⟨K.block b hb (fun h => h), hn⟩, fun b t k s hb ht => ⟨fun j v _ hv => by rw [World.cell?_of_block (w := w) (K.block b hb (fun h => h))]; exact hv, .inr ⟨t, k, s, ht, Nat.le_refl _⟩⟩, fun b hu => hu⟩
 have hH' : Zau w' σ Z := by
  refine ⟨fun b hu => Nat.lt_of_lt_of_le (hH.used _ hu) K.size, fun b hz => ?_, fun b t cs hb => ?_, fun b t k s hb => ?_, fun b es hb => ?_⟩
  ·obtain ⟨z1, z2⟩ := hH.z _ hz
   exact ⟨Nat.lt_of_lt_of_le z1 K.size, z2⟩
  ·obtain ⟨g1, g2, g3⟩ := hH.own _ _ _ hb
   exact ⟨g1, (K.block b (hH.used _ g1) (fun h => h)).trans g2, fun c hc => hg.valid (g3 c hc)⟩
  ·obtain ⟨g1, cs, g2, g3⟩ := hH.tail _ _ _ _ hb
   exact ⟨g1, cs, (K.block b (hH.used _ g1) (fun h => h)).trans g2, g3⟩
  ·obtain ⟨g1, a, c, g2, g3⟩ := hH.map _ _ hb
   exact ⟨g1, a, c, (K.block b (hH.used _ g1) (fun h => h)).trans g2, g3⟩
 exact ⟨.raw (.int k g), σ, by simp, ⟨ρ, ZaM.2 rfl, H, .refl _ _ _ _⟩, hH', by unfold Zap; trivial, hg⟩
end
section
variable {T : Nat -> Type} {C : Zbg T} {P : Program}
end
end Go.Proofs.Ytinpiaibhjmfaaa
