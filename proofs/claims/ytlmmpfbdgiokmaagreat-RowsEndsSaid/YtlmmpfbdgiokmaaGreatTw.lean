/- Arrays of ours are lent to a call that only reads; rows that a call tells, as arrays. -/
import Derived.Test.YtlmmpfbdgiokmaaGreatX16
namespace Go.Proofs.YtlmmpfbdgiokmaaGreat
open Go.RowKit
set_option linter.unusedSimpArgs false
set_option maxRecDepth 100000
set_option linter.unusedVariables false
variable {T : Nat -> Type}
def Zty (h : List (HI T)) : XV T -> XV T
 | .as E i lo n co => match h[i]? with
  | some (.arr _ E' _ zs) => if hE : E' = E then .sl E (((hE ▸ zs : List (T E)).drop lo).take n) none else .junk
  | _ => .junk
 | v => v
def Zxe (h : List (HI T)) : XV T -> XV T
 | .agg l => .agg (l.map (Zty h))
 | v => Zty h v
def Ztz (h : List (HI T)) : XV T -> Bool
 | .as E i lo n co => match h[i]? with
  | some (.arr _ E' _ zs) => Nat.beq E' E && Nat.ble (lo + n) zs.length
  | _ => false
 | v => v.closed
def Zoi (h : List (HI T)) : XV T -> Bool
 | .agg l => l.all (Ztz h)
 | v => Ztz h v
def XV.scal : XV T -> Bool
 | .int _ _ | .bool _ | .str _ | .nilptr | .fn _ => true
 | _ => false
section
variable {C : Zau T} {P : Program} {N N' : Nat} {ρ ρ' : Nat -> AV} {h : List (HI T)} {σ τ : St} {U U0 : Nat -> Prop}
theorem ZA8 {v : XV T} {a : AV} (hs : v.scal = true) (h : SV C N ρ v a) : SV C N' ρ' v a /\ ∀ w B, Zag w B a := by
 cases v with
 | int k n => rw [Zat.1 h]; exact ⟨Zat.2 rfl, fun w B => ZaE _⟩
 | bool b => rw [Za6.1 h]; exact ⟨Za6.2 rfl, fun w B => ZaE _⟩
 | str s => rw [Zc1.1 h]; exact ⟨Zc1.2 rfl, fun w B => ZaE _⟩
 | nilptr => rw [ZdF.1 h]; exact ⟨ZdF.2 rfl, fun w B => ZaE _⟩
 | fn f => rw [Zlr.1 h]; exact ⟨Zlr.2 rfl, fun w B => ZaE _⟩
 | _ => cases hs
theorem Zqi : ∀ {l : List (XV T)} {as_ : List AV}, l.all XV.scal = true -> SVs C N ρ l as_ -> SVs C N' ρ' l as_ /\ ∀ w B, ∀ a ∈ as_, Zag w B a
 | [], as_, _, h => by rw [ZcB.1 h]; exact ⟨.none, by simp⟩
 | v :: l, as_, hs, h => by
  rw [List.all_cons, Bool.and_eq_true] at hs
  obtain ⟨a, bs, rfl, h1, h2⟩ := h.to
  obtain ⟨g1, g2⟩ := ZA8 (N' := N') (ρ' := ρ') hs.1 h1
  obtain ⟨g3, g4⟩ := Zqi hs.2 h2
  exact ⟨.cons g1 g3, fun w B x hx => by
   rcases List.mem_cons.1 hx with rfl | hx
   ·exact g2 w B
   ·exact g4 w B x hx⟩
theorem Hp.toExt (H : Hp C ρ h σ) (hX : Ext σ τ) : Hp C ρ h τ := by
 refine ⟨fun i x hx => ?_, H.dist⟩
 have := H.it i x hx
 cases x with
 | obj t' cs' =>
  obtain ⟨b', acs', h1, h2, h3, h4⟩ := this
  exact ⟨b', acs', h1, hX.keep _ _ h2, hX.used _ h3, h4⟩
 | mmap K V es =>
  obtain ⟨b', h1, h2, h3⟩ := this
  exact ⟨b', h1, hX.keep _ _ h2, hX.used _ h3⟩
 | arr e E kp xs =>
  rcases this with ⟨b', K', pre, rest, h1, h2, h3, h4⟩ | ⟨h1, h2⟩
  ·exact .inl ⟨b', K', pre, rest, h1, hX.keep _ _ h2, hX.used _ h3, h4⟩
  ·exact .inr ⟨h1, h2⟩
 | row e sz =>
  obtain ⟨n, cs', ho⟩ := this
  exact ⟨n, cs', ho.ext hX⟩
 | gen E x => exact C.gsh_but _ _ _ _ _ (fun _ => False) this hX.but (fun _ _ hf => hf)
 | dead => trivial
def Zqj (ρ : Nat -> AV) (h : List (HI T)) (b : Nat) : Prop := ∃ i e E kp zs, h[i]? = some (.arr e E kp zs) /\ (ρ i).owns b
theorem Znt (H : Hp C ρ h σ) {b : Nat} (hb : Zqj ρ h b) : ∃ e cs, σ.blk b = some (.own e cs) /\ σ.used b := by
 obtain ⟨i, e, E, kp, zs, hi, hρ⟩ := hb
 rcases H.it i _ hi with ⟨b', K', pre, rest, h1, h2, h3, h4⟩ | ⟨h1, h2⟩
 ·rw [h1] at hρ; injection hρ with hρ; subst hρ; exact ⟨_, _, h2, h3⟩
 ·rw [h1] at hρ; cases hρ
open Classical in
noncomputable def Zgu (ρ : Nat -> AV) (h : List (HI T)) (σ : St) : St := ⟨fun b => if Zqj ρ h b then none else σ.blk b, σ.used, by
 obtain ⟨n, hn⟩ := σ.fin
 refine ⟨n, fun b hb => ⟨(hn b hb).1, ?_⟩⟩
 rw [(hn b hb).2]; simp⟩
theorem Zj1 {b : Nat} (hb : Zqj ρ h b) : (Zgu ρ h σ).blk b = none := by unfold Zgu; dsimp only; rw [if_pos hb]
theorem Zfk {b : Nat} (hb : ¬ Zqj ρ h b) : (Zgu ρ h σ).blk b = σ.blk b := by unfold Zgu; dsimp only; rw [if_neg hb]
theorem Zoj (H : Hp C ρ h σ) {Z : Nat -> Prop} {b o : Nat} (hf : σ.free Z b o) : (Zgu ρ h σ).free Z b o := by
 obtain ⟨h1, h2, h3⟩ := hf
 refine ⟨h1, h2, ?_⟩
 by_cases hb : Zqj ρ h b
 ·rw [Zj1 hb]; trivial
 ·rw [Zfk hb]; exact h3
theorem Zxf (H : Hp C ρ h σ) {w : World} {Z : Nat -> Prop} (hH : Zap w σ Z) : Zap w (Zgu ρ h σ) Z := by
 refine ⟨hH.used, fun b hz => ⟨(hH.z b hz).1, ?_⟩, fun b t cs hb => ?_, fun b t k s hb => ?_, fun b es hb => ?_⟩
 ·by_cases hb : Zqj ρ h b
  ·exact Zj1 hb
  ·rw [Zfk hb]; exact (hH.z b hz).2
 ·by_cases hg : Zqj ρ h b
  ·rw [Zj1 hg] at hb; cases hb
  ·rw [Zfk hg] at hb
   obtain ⟨g1, g2, g3⟩ := hH.own _ _ _ hb
   exact ⟨g1, g2, fun c hc => (g3 c hc).sub fun b o => Zoj H⟩
 ·by_cases hg : Zqj ρ h b
  ·rw [Zj1 hg] at hb; cases hb
  ·rw [Zfk hg] at hb
   exact hH.tail _ _ _ _ hb
 ·by_cases hg : Zqj ρ h b
  ·rw [Zj1 hg] at hb; cases hb
  ·rw [Zfk hg] at hb
   exact hH.map _ _ hb
theorem ZuP (H : Hp C ρ h σ) {w : World} {Z : Nat -> Prop} (hH : Zap w σ Z) {v : XV T} {a : AV} (hb : Ztz h v = true) (hs : SV C h.length ρ v a) (hv : Zag w (σ.free Z) a) :
 ∃ a', a'.val = a.val /\ SV C 0 ρ (Zty h v) a' /\ Zag w ((Zgu ρ h σ).free Z) a' := by
 by_cases hc : ∃ E i lo n co, v = .as E i lo n co
 ·obtain ⟨E, i, lo, n, co, rfl⟩ := hc
  simp only [Ztz] at hb
  simp only [Zty]
  split at hb
  ·rename_i e E' kp zs hi
   rw [Bool.and_eq_true] at hb
   have hE := Nat.eq_of_beq_eq_true hb.1
   have hle := Nat.le_of_ble_eq_true hb.2
   subst hE
   rw [dif_pos rfl]
   have hlen : ((zs.drop lo).take n).length = n := by rw [List.length_take, List.length_drop]; omega
   rcases Zbz.1 hs with ⟨ad, c, rfl, hA⟩ | ⟨rfl, rfl, hiN, hρi, hco⟩
   ·obtain ⟨b, q1, q2⟩ := hA.at_
    obtain ⟨pre, rest, hb2, hb3, hb4, hb5, hb6⟩ := H.arrAt hi q1
    have hsz := C.pos E'
    have hsl : ∀ a, SV C 0 ρ (.sl E' ((zs.drop lo).take n) none) a ↔ _ := fun a => ZfO (C := C) (N := 0) (ρ := ρ) (E := E') (xs := (zs.drop lo).take n) (a := a)
    rw [hlen] at hsl
    by_cases hc0 : c = 0
    ·have hn0 : n = 0 := by have := hA.le; omega
     subst hn0
     refine ⟨.lst (some ad) 0 c [], by simp, (hsl _).2 ⟨some ad, c, [], [], rfl, hA.le, hA.max, hA.len, (fun e => by cases e), by simp only [List.take_zero]; exact .none⟩, ?_⟩
     unfold Zag
     exact ⟨hA.le, (fun e => by cases e), fun ad' _ => Zaz.mk fun j q hq => by simp at hq⟩
    ·have had := q2 (by omega)
     subst had
     have hpl := (hb4 0 ρ).len
     rw [Zc2] at hpl
     have hG : Zqj ρ h b := ⟨i, e, E', kp, zs, hi, by rw [q1]; rfl⟩
     have hsv : SVs C 0 ρ (((zs.drop lo).take n).flatMap (C.enc E')) ((pre.drop (lo * C.sz E')).take (n * C.sz E')) := by
      have := ((hb4 0 ρ).drop (lo * C.sz E')).take (n * C.sz E')
      rw [Zet, Ze3] at this
      exact this
     refine ⟨.lst (some ⟨b, lo * C.sz E', none⟩) n c (((pre.drop (lo * C.sz E')).take (n * C.sz E')) ++ []), by simp, (hsl _).2 ⟨_, c, _, [], rfl, hA.le, hA.max, hA.len, (fun e => by cases e), hsv⟩, ?_⟩
     unfold Zag
     refine ⟨hA.le, (fun e => by cases e), fun ad' had' => ?_⟩
     injection had' with had'
     subst had'
     rw [List.append_nil]
     refine Zaz.mk fun j q hq => ?_
     rw [Nat.zero_add]
     have hq1 : (pre ++ rest)[lo * C.sz E' + j]? = some q := by
      rw [List.getElem?_take] at hq
      split at hq
      ·rw [List.getElem?_drop] at hq
       rw [List.getElem?_append_left (Zav hq)]
       exact hq
      ·cases hq
     obtain ⟨o1, o2, o3⟩ := hH.own _ _ _ hb2
     have hcell := ZgL hH hb2 (lo * C.sz E') j hq1
     refine ⟨hcell, ⟨fun hz => ?_, o1, ?_⟩, (o3 q (List.mem_of_getElem? hq1)).sub fun b o => Zoj H⟩
     ·have := (hH.z _ hz).2
      rw [hb2] at this; cases this
     ·rw [Zj1 hG]; trivial
   ·refine ⟨.lst none 0 0 [], rfl, ?_, Zd8⟩
    rw [List.take_zero]
    exact ZfO.2 ⟨none, 0, [], [], rfl, Nat.le_refl _, Nat.zero_le _, Nat.zero_le _, fun _ => ⟨rfl, rfl⟩, .none⟩
  ·cases hb
 ·have hcl : v.closed = true := by
   cases v <;> first | exact hb | exact absurd ⟨_, _, _, _, _, rfl⟩ hc
  have hsame : Zty h v = v := by
   cases v <;> first | rfl | exact absurd ⟨_, _, _, _, _, rfl⟩ hc
  rw [hsame]
  exact ⟨a, rfl, SVs.shut hs (by intro x hx; simp at hx; subst hx; exact hcl), hv.sub fun b o => Zoj H⟩
theorem ZrE (H : Hp C ρ h σ) {w : World} {Z : Nat -> Prop} (hH : Zap w σ Z) : ∀ {l : List (XV T)} {as_ : List AV}, l.all (Ztz h) = true -> SVs C h.length ρ l as_ -> (∀ a ∈ as_, Zag w (σ.free Z) a) ->
 ∃ bs : List AV, bs.map AV.val = as_.map AV.val /\ SVs C 0 ρ (l.map (Zty h)) bs /\ ∀ a ∈ bs, Zag w ((Zgu ρ h σ).free Z) a
 | [], as_, _, hs, _ => by rw [ZcB.1 hs]; exact ⟨[], rfl, .none, by simp⟩
 | v :: l, as_, hb, hs, hv => by
  rw [List.all_cons, Bool.and_eq_true] at hb
  obtain ⟨a, cs, rfl, h1, h2⟩ := hs.to
  obtain ⟨a', g1, g2, g3⟩ := ZuP H hH hb.1 h1 (hv a List.mem_cons_self)
  obtain ⟨bs, q1, q2, q3⟩ := ZrE H hH hb.2 h2 (fun x hx => hv x (List.mem_cons_of_mem _ hx))
  refine ⟨a' :: bs, by rw [List.map_cons, List.map_cons, g1, q1], .cons g2 q2, fun x hx => ?_⟩
  rcases List.mem_cons.1 hx with rfl | hx
  ·exact g3
  ·exact q3 x hx
theorem ZyS (H : Hp C ρ h σ) {w : World} {Z : Nat -> Prop} (hH : Zap w σ Z) {v : XV T} {a : AV} (hb : Zoi h v = true) (hs : SV C h.length ρ v a) (hv : Zag w (σ.free Z) a) :
 ∃ a', a'.val = a.val /\ SV C 0 ρ (Zxe h v) a' /\ Zag w ((Zgu ρ h σ).free Z) a' := by
 by_cases hc : ∃ l, v = .agg l
 ·obtain ⟨l, rfl⟩ := hc
  obtain ⟨ls, rfl, h1⟩ := Zfi.1 hs
  unfold Zag at hv
  obtain ⟨bs, q1, q2, q3⟩ := ZrE H hH hb h1 (ZaV.iff.1 hv)
  exact ⟨.agg bs, by simp [q1], Zfi.2 ⟨bs, rfl, q2⟩, by unfold Zag; exact ZaV.iff.2 q3⟩
 ·have e1 : Zoi h v = Ztz h v := by cases v <;> first | rfl | exact absurd ⟨_, rfl⟩ hc
  have e2 : Zxe h v = Zty h v := by cases v <;> first | rfl | exact absurd ⟨_, rfl⟩ hc
  rw [e1] at hb
  rw [e2]
  exact ZuP H hH hb hs hv
theorem Zok (H : Hp C ρ h σ) {w : World} {Z : Nat -> Prop} (hH : Zap w σ Z) : ∀ {l : List (XV T)} {as_ : List AV}, l.all (Zoi h) = true -> SVs C h.length ρ l as_ -> (∀ a ∈ as_, Zag w (σ.free Z) a) ->
 ∃ bs : List AV, bs.map AV.val = as_.map AV.val /\ SVs C 0 ρ (l.map (Zxe h)) bs /\ ∀ a ∈ bs, Zag w ((Zgu ρ h σ).free Z) a
 | [], as_, _, hs, _ => by rw [ZcB.1 hs]; exact ⟨[], rfl, .none, by simp⟩
 | v :: l, as_, hb, hs, hv => by
  rw [List.all_cons, Bool.and_eq_true] at hb
  obtain ⟨a, cs, rfl, h1, h2⟩ := hs.to
  obtain ⟨a', g1, g2, g3⟩ := ZyS H hH hb.1 h1 (hv a List.mem_cons_self)
  obtain ⟨bs, q1, q2, q3⟩ := Zok H hH hb.2 h2 (fun x hx => hv x (List.mem_cons_of_mem _ hx))
  refine ⟨a' :: bs, by rw [List.map_cons, List.map_cons, g1, q1], .cons g2 q2, fun x hx => ?_⟩
  rcases List.mem_cons.1 hx with rfl | hx
  ·exact g3
  ·exact q3 x hx
section
variable {n m : Nat}
end
end
end Go.Proofs.YtlmmpfbdgiokmaaGreat
