/- Arrays of ours are lent to a call that only reads; rows that a call tells, as arrays. -/
import Derived.Test.YteempnebenjkmaaGreatDoorMc
namespace Go.Proofs.YteempnebenjkmaaGreatDoor
open Go.RowKit
set_option linter.unusedSimpArgs false
set_option maxRecDepth 100000
set_option linter.unusedVariables false
variable {T : Nat -> Type}
def Zqv (h : List (HI T)) : XV T -> XV T
 | .as E i lo n co => match h[i]? with
  | some (.arr _ E' _ zs) => if hE : E' = E then .sl E (((hE ▸ zs : List (T E)).drop lo).take n) none else .junk
  | _ => .junk
 | v => v
def Zwg (h : List (HI T)) : XV T -> XV T
 | .agg l => .agg (l.map (Zqv h))
 | v => Zqv h v
def ZsJ (h : List (HI T)) : XV T -> Bool
 | .as E i lo n co => match h[i]? with
  | some (.arr _ E' _ zs) => Nat.beq E' E && Nat.ble (lo + n) zs.length
  | _ => false
 | v => v.closed
def Zru (h : List (HI T)) : XV T -> Bool
 | .agg l => l.all (ZsJ h)
 | v => ZsJ h v
def XV.scal : XV T -> Bool
 | .int _ _ | .bool _ | .str _ | .nilptr | .fn _ => true
 | _ => false
def XV.scal2 : XV T -> Bool
 | .agg l => l.all XV.scal
 | v => v.scal
def XV.scal3 : XV T -> Bool
 | .tup l => l.all XV.scal2
 | v => v.scal2
section
variable {C : Zaw T} {P : Program} {N N' : Nat} {ρ ρ' : Nat -> AV} {h : List (HI T)} {σ τ : St} {U U0 : Nat -> Prop}
theorem Zun {v : XV T} {a : AV} (hs : v.scal = true) (h : SV C N ρ v a) : SV C N' ρ' v a /\ ∀ w B, Zae w B a := by
 cases v with
 | int k n => rw [Zam.1 h]; exact ⟨Zam.2 rfl, fun w B => Zaz _⟩
 | bool b => rw [ZaO.1 h]; exact ⟨ZaO.2 rfl, fun w B => Zaz _⟩
 | str s => rw [ZbU.1 h]; exact ⟨ZbU.2 rfl, fun w B => Zaz _⟩
 | nilptr => rw [Zb2.1 h]; exact ⟨Zb2.2 rfl, fun w B => Zaz _⟩
 | fn f => rw [Ziw.1 h]; exact ⟨Ziw.2 rfl, fun w B => Zaz _⟩
 | _ => cases hs
theorem Zrv : ∀ {l : List (XV T)} {as_ : List AV}, l.all XV.scal = true -> SVs C N ρ l as_ -> SVs C N' ρ' l as_ /\ ∀ w B, ∀ a ∈ as_, Zae w B a
 | [], as_, _, h => by rw [Zbc.1 h]; exact ⟨.none, by simp⟩
 | v :: l, as_, hs, h => by
  rw [List.all_cons, Bool.and_eq_true] at hs
  obtain ⟨a, bs, rfl, h1, h2⟩ := h.to
  obtain ⟨g1, g2⟩ := Zun (N' := N') (ρ' := ρ') hs.1 h1
  obtain ⟨g3, g4⟩ := Zrv hs.2 h2
  exact ⟨.cons g1 g3, fun w B x hx => by
   rcases List.mem_cons.1 hx with rfl | hx
   ·exact g2 w B
   ·exact g4 w B x hx⟩
theorem Zrw {v : XV T} {a : AV} (hs : v.scal2 = true) (h : SV C N ρ v a) : SV C N' ρ' v a /\ ∀ w B, Zae w B a := by
 by_cases hv : ∃ l, v = .agg l
 ·obtain ⟨l, rfl⟩ := hv
  obtain ⟨ls, rfl, h1⟩ := ZbV.1 h
  obtain ⟨g1, g2⟩ := Zrv (N' := N') (ρ' := ρ') hs h1
  exact ⟨ZbV.2 ⟨ls, rfl, g1⟩, fun w B => by unfold Zae; exact ZaI.iff.2 (g2 w B)⟩
 ·refine Zun ?_ h
  cases v <;> first | exact hs | exact absurd ⟨_, rfl⟩ hv
theorem ZoR : ∀ {l : List (XV T)} {as_ : List AV}, l.all XV.scal2 = true -> SVs C N ρ l as_ -> SVs C N' ρ' l as_ /\ ∀ w B, ∀ a ∈ as_, Zae w B a
 | [], as_, _, h => by rw [Zbc.1 h]; exact ⟨.none, by simp⟩
 | v :: l, as_, hs, h => by
  rw [List.all_cons, Bool.and_eq_true] at hs
  obtain ⟨a, bs, rfl, h1, h2⟩ := h.to
  obtain ⟨g1, g2⟩ := Zrw (N' := N') (ρ' := ρ') hs.1 h1
  obtain ⟨g3, g4⟩ := ZoR hs.2 h2
  exact ⟨.cons g1 g3, fun w B x hx => by
   rcases List.mem_cons.1 hx with rfl | hx
   ·exact g2 w B
   ·exact g4 w B x hx⟩
theorem Zwh {v : XV T} {a : AV} (hs : v.scal3 = true) (h : SV C N ρ v a) : SV C N' ρ' v a /\ ∀ w B, Zae w B a := by
 by_cases hv : ∃ l, v = .tup l
 ·obtain ⟨l, rfl⟩ := hv
  obtain ⟨ls, rfl, h1⟩ := ZeU.1 h
  obtain ⟨g1, g2⟩ := ZoR (N' := N') (ρ' := ρ') hs h1
  exact ⟨ZeU.2 ⟨ls, rfl, g1⟩, fun w B => by unfold Zae; exact ZaI.iff.2 (g2 w B)⟩
 ·refine Zrw ?_ h
  cases v <;> first | exact hs | exact absurd ⟨_, rfl⟩ hv
theorem Hp.toExt (H : Hp C ρ h σ) (hX : Ext σ τ) : Hp C ρ h τ := by
 refine ⟨fun i x hx => ?_, H.dist⟩
 have := H.it i x hx
 cases x with
 | obj t' cs' =>
  obtain ⟨b', acs', h1, h2, h3, h4⟩ := this
  exact ⟨b', acs', h1, hX.keep _ _ h2, hX.used _ h3, h4⟩
 | mmap K V es =>
  obtain ⟨b', h1, h2, h3⟩ := this
  exact ⟨b', h1, hX.keep _ _ h2, hX.used _ h3⟩
 | arr e E kp xs =>
  rcases this with ⟨b', K', pre, rest, h1, h2, h3, h4⟩ | ⟨h1, h2⟩
  ·exact .inl ⟨b', K', pre, rest, h1, hX.keep _ _ h2, hX.used _ h3, h4⟩
  ·exact .inr ⟨h1, h2⟩
 | row e sz =>
  obtain ⟨n, cs', ho⟩ := this
  exact ⟨n, cs', ho.ext hX⟩
 | gen E x => exact C.gsh_but _ _ _ _ _ (fun _ => False) this hX.but (fun _ _ hf => hf)
 | dead => trivial
def Zqw (ρ : Nat -> AV) (h : List (HI T)) (b : Nat) : Prop := ∃ i e E kp zs, h[i]? = some (.arr e E kp zs) /\ (ρ i).owns b
theorem Zrx (H : Hp C ρ h σ) {b : Nat} (hb : Zqw ρ h b) : ∃ e cs, σ.blk b = some (.own e cs) /\ σ.used b := by
 obtain ⟨i, e, E, kp, zs, hi, hρ⟩ := hb
 rcases H.it i _ hi with ⟨b', K', pre, rest, h1, h2, h3, h4⟩ | ⟨h1, h2⟩
 ·rw [h1] at hρ; injection hρ with hρ; subst hρ; exact ⟨_, _, h2, h3⟩
 ·rw [h1] at hρ; cases hρ
open Classical in
noncomputable def Zgz (ρ : Nat -> AV) (h : List (HI T)) (σ : St) : St := ⟨fun b => if Zqw ρ h b then none else σ.blk b, σ.used, by
 obtain ⟨n, hn⟩ := σ.fin
 refine ⟨n, fun b hb => ⟨(hn b hb).1, ?_⟩⟩
 rw [(hn b hb).2]; simp⟩
theorem ZgY {b : Nat} (hb : Zqw ρ h b) : (Zgz ρ h σ).blk b = none := by unfold Zgz; dsimp only; rw [if_pos hb]
theorem ZeX {b : Nat} (hb : ¬ Zqw ρ h b) : (Zgz ρ h σ).blk b = σ.blk b := by unfold Zgz; dsimp only; rw [if_neg hb]
theorem ZlB (H : Hp C ρ h σ) {Z : Nat -> Prop} {b o : Nat} (hf : σ.free Z b o) : (Zgz ρ h σ).free Z b o := by
 obtain ⟨h1, h2, h3⟩ := hf
 refine ⟨h1, h2, ?_⟩
 by_cases hb : Zqw ρ h b
 ·rw [ZgY hb]; trivial
 ·rw [ZeX hb]; exact h3
theorem ZyA (H : Hp C ρ h σ) {w : World} {Z : Nat -> Prop} (hH : Zaj w σ Z) : Zaj w (Zgz ρ h σ) Z := by
 refine ⟨hH.used, fun b hz => ⟨(hH.z b hz).1, ?_⟩, fun b t cs hb => ?_, fun b t k s hb => ?_, fun b es hb => ?_⟩
 ·by_cases hb : Zqw ρ h b
  ·exact ZgY hb
  ·rw [ZeX hb]; exact (hH.z b hz).2
 ·by_cases hg : Zqw ρ h b
  ·rw [ZgY hg] at hb; cases hb
  ·rw [ZeX hg] at hb
   obtain ⟨g1, g2, g3⟩ := hH.own _ _ _ hb
   exact ⟨g1, g2, fun c hc => (g3 c hc).sub fun b o => ZlB H⟩
 ·by_cases hg : Zqw ρ h b
  ·rw [ZgY hg] at hb; cases hb
  ·rw [ZeX hg] at hb
   exact hH.tail _ _ _ _ hb
 ·by_cases hg : Zqw ρ h b
  ·rw [ZgY hg] at hb; cases hb
  ·rw [ZeX hg] at hb
   exact hH.map _ _ hb
theorem Zry (H : Hp C ρ h σ) {w : World} {Z : Nat -> Prop} (hH : Zaj w σ Z) {v : XV T} {a : AV} (hb : ZsJ h v = true) (hs : SV C h.length ρ v a) (hv : Zae w (σ.free Z) a) :
 ∃ a', a'.val = a.val /\ SV C 0 ρ (Zqv h v) a' /\ Zae w ((Zgz ρ h σ).free Z) a' := by
 by_cases hc : ∃ E i lo n co, v = .as E i lo n co
 ·obtain ⟨E, i, lo, n, co, rfl⟩ := hc
  simp only [ZsJ] at hb
  simp only [Zqv]
  split at hb
  ·rename_i e E' kp zs hi
   rw [Bool.and_eq_true] at hb
   have hE := Nat.eq_of_beq_eq_true hb.1
   have hle := Nat.le_of_ble_eq_true hb.2
   subst hE
   rw [dif_pos rfl]
   have hlen : ((zs.drop lo).take n).length = n := by rw [List.length_take, List.length_drop]; omega
   rcases ZbE.1 hs with ⟨ad, c, rfl, hA⟩ | ⟨rfl, rfl, hiN, hρi, hco⟩
   ·obtain ⟨b, q1, q2⟩ := hA.at_
    obtain ⟨pre, rest, hb2, hb3, hb4, hb5, hb6⟩ := H.arrAt hi q1
    have hsz := C.pos E'
    have hsl : ∀ a, SV C 0 ρ (.sl E' ((zs.drop lo).take n) none) a ↔ _ := fun a => Zcu (C := C) (N := 0) (ρ := ρ) (E := E') (xs := (zs.drop lo).take n) (a := a)
    rw [hlen] at hsl
    by_cases hc0 : c = 0
    ·have hn0 : n = 0 := by have := hA.le; omega
     subst hn0
     refine ⟨.lst (some ad) 0 c [], by simp, (hsl _).2 ⟨some ad, c, [], [], rfl, hA.le, hA.max, hA.len, (fun e => by cases e), by simp only [List.take_zero]; exact .none⟩, ?_⟩
     unfold Zae
     exact ⟨hA.le, (fun e => by cases e), fun ad' _ => ZaB.mk fun j q hq => by simp at hq⟩
    ·have had := q2 (by omega)
     subst had
     have hpl := (hb4 0 ρ).len
     rw [Zb3] at hpl
     have hG : Zqw ρ h b := ⟨i, e, E', kp, zs, hi, by rw [q1]; rfl⟩
     have hsv : SVs C 0 ρ (((zs.drop lo).take n).flatMap (C.enc E')) ((pre.drop (lo * C.sz E')).take (n * C.sz E')) := by
      have := ((hb4 0 ρ).drop (lo * C.sz E')).take (n * C.sz E')
      rw [ZcE, Zc2] at this
      exact this
     refine ⟨.lst (some ⟨b, lo * C.sz E', none⟩) n c (((pre.drop (lo * C.sz E')).take (n * C.sz E')) ++ []), by simp, (hsl _).2 ⟨_, c, _, [], rfl, hA.le, hA.max, hA.len, (fun e => by cases e), hsv⟩, ?_⟩
     unfold Zae
     refine ⟨hA.le, (fun e => by cases e), fun ad' had' => ?_⟩
     injection had' with had'
     subst had'
     rw [List.append_nil]
     refine ZaB.mk fun j q hq => ?_
     rw [Nat.zero_add]
     have hq1 : (pre ++ rest)[lo * C.sz E' + j]? = some q := by
      rw [List.getElem?_take] at hq
      split at hq
      ·rw [List.getElem?_drop] at hq
       rw [List.getElem?_append_left (ZaA hq)]
       exact hq
      ·cases hq
     obtain ⟨o1, o2, o3⟩ := hH.own _ _ _ hb2
     have hcell := ZdU hH hb2 (lo * C.sz E') j hq1
     refine ⟨hcell, ⟨fun hz => ?_, o1, ?_⟩, (o3 q (List.mem_of_getElem? hq1)).sub fun b o => ZlB H⟩
     ·have := (hH.z _ hz).2
      rw [hb2] at this; cases this
     ·rw [ZgY hG]; trivial
   ·refine ⟨.lst none 0 0 [], rfl, ?_, ZcF⟩
    rw [List.take_zero]
    exact Zcu.2 ⟨none, 0, [], [], rfl, Nat.le_refl _, Nat.zero_le _, Nat.zero_le _, fun _ => ⟨rfl, rfl⟩, .none⟩
  ·cases hb
 ·have hcl : v.closed = true := by
   cases v <;> first | exact hb | exact absurd ⟨_, _, _, _, _, rfl⟩ hc
  have hsame : Zqv h v = v := by
   cases v <;> first | rfl | exact absurd ⟨_, _, _, _, _, rfl⟩ hc
  rw [hsame]
  exact ⟨a, rfl, SVs.shut hs (by intro x hx; simp at hx; subst hx; exact hcl), hv.sub fun b o => ZlB H⟩
theorem ZoS (H : Hp C ρ h σ) {w : World} {Z : Nat -> Prop} (hH : Zaj w σ Z) : ∀ {l : List (XV T)} {as_ : List AV}, l.all (ZsJ h) = true -> SVs C h.length ρ l as_ -> (∀ a ∈ as_, Zae w (σ.free Z) a) ->
 ∃ bs : List AV, bs.map AV.val = as_.map AV.val /\ SVs C 0 ρ (l.map (Zqv h)) bs /\ ∀ a ∈ bs, Zae w ((Zgz ρ h σ).free Z) a
 | [], as_, _, hs, _ => by rw [Zbc.1 hs]; exact ⟨[], rfl, .none, by simp⟩
 | v :: l, as_, hb, hs, hv => by
  rw [List.all_cons, Bool.and_eq_true] at hb
  obtain ⟨a, cs, rfl, h1, h2⟩ := hs.to
  obtain ⟨a', g1, g2, g3⟩ := Zry H hH hb.1 h1 (hv a List.mem_cons_self)
  obtain ⟨bs, q1, q2, q3⟩ := ZoS H hH hb.2 h2 (fun x hx => hv x (List.mem_cons_of_mem _ hx))
  refine ⟨a' :: bs, by rw [List.map_cons, List.map_cons, g1, q1], .cons g2 q2, fun x hx => ?_⟩
  rcases List.mem_cons.1 hx with rfl | hx
  ·exact g3
  ·exact q3 x hx
theorem Zwi (H : Hp C ρ h σ) {w : World} {Z : Nat -> Prop} (hH : Zaj w σ Z) {v : XV T} {a : AV} (hb : Zru h v = true) (hs : SV C h.length ρ v a) (hv : Zae w (σ.free Z) a) :
 ∃ a', a'.val = a.val /\ SV C 0 ρ (Zwg h v) a' /\ Zae w ((Zgz ρ h σ).free Z) a' := by
 by_cases hc : ∃ l, v = .agg l
 ·obtain ⟨l, rfl⟩ := hc
  obtain ⟨ls, rfl, h1⟩ := ZbV.1 hs
  unfold Zae at hv
  obtain ⟨bs, q1, q2, q3⟩ := ZoS H hH hb h1 (ZaI.iff.1 hv)
  exact ⟨.agg bs, by simp [q1], ZbV.2 ⟨bs, rfl, q2⟩, by unfold Zae; exact ZaI.iff.2 q3⟩
 ·have e1 : Zru h v = ZsJ h v := by cases v <;> first | rfl | exact absurd ⟨_, rfl⟩ hc
  have e2 : Zwg h v = Zqv h v := by cases v <;> first | rfl | exact absurd ⟨_, rfl⟩ hc
  rw [e1] at hb
  rw [e2]
  exact Zry H hH hb hs hv
theorem ZoT (H : Hp C ρ h σ) {w : World} {Z : Nat -> Prop} (hH : Zaj w σ Z) : ∀ {l : List (XV T)} {as_ : List AV}, l.all (Zru h) = true -> SVs C h.length ρ l as_ -> (∀ a ∈ as_, Zae w (σ.free Z) a) ->
 ∃ bs : List AV, bs.map AV.val = as_.map AV.val /\ SVs C 0 ρ (l.map (Zwg h)) bs /\ ∀ a ∈ bs, Zae w ((Zgz ρ h σ).free Z) a
 | [], as_, _, hs, _ => by rw [Zbc.1 hs]; exact ⟨[], rfl, .none, by simp⟩
 | v :: l, as_, hb, hs, hv => by
  rw [List.all_cons, Bool.and_eq_true] at hb
  obtain ⟨a, cs, rfl, h1, h2⟩ := hs.to
  obtain ⟨a', g1, g2, g3⟩ := Zwi H hH hb.1 h1 (hv a List.mem_cons_self)
  obtain ⟨bs, q1, q2, q3⟩ := ZoT H hH hb.2 h2 (fun x hx => hv x (List.mem_cons_of_mem _ hx))
  refine ⟨a' :: bs, by rw [List.map_cons, List.map_cons, g1, q1], .cons g2 q2, fun x hx => ?_⟩
  rcases List.mem_cons.1 hx with rfl | hx
  ·exact g3
  ·exact q3 x hx
theorem Tr.lend {f : FuncId} {args : List (XV T)} {r : XV T} (h1 : Tr C P U0 f (args.map (Zwg h)) [] r []) (hok : args.all (Zru h) = true) (hr : r.scal3 = true) : Tr C P U f args h r h := by
 intro ρ σ vs hs H w Z hH hV
 obtain ⟨bs, e1, e2, e3⟩ := ZoT H hH hok hs hV
 have H0 : Hp C ρ ([] : List (HI T)) (Zgz ρ h σ) := ⟨fun i x hx => by simp at hx, fun i j x y b hx => by simp at hx⟩
 have hc := h1 ρ (Zgz ρ h σ) bs e2 H0 w Z (ZyA H hH) e3
 rw [e1] at hc
 refine hc.mono ?_
 rintro y w' ⟨rv, τ, rfl, ⟨ρ', hrv, _, R⟩, hH', _, hG⟩
 obtain ⟨s1, s2⟩ := Zwh (N' := h.length) (ρ' := ρ) hr hrv
 have hused : ∀ b, σ.used b -> τ.used b := R.but.used
 have hkeep : ∀ b k, ¬ Zqw ρ h b -> σ.blk b = some k -> τ.blk b = some k := fun b k hb hk => R.but.keep b k (fun ⟨i, x, _, hx, _⟩ => by simp at hx) (by rw [ZeX hb]; exact hk)
 have hnarr : ∀ b t k s, σ.blk b = some (.tail t k s) -> ¬ Zqw ρ h b := fun b t k s hb hg => by
  obtain ⟨e, cs, q, _⟩ := Zrx H hg
  rw [hb] at q; cases q
 let υ : St := ⟨σ.blk, τ.used, by
  obtain ⟨n, hn⟩ := σ.fin
  obtain ⟨m, hm⟩ := τ.fin
  exact ⟨n + m, fun b hb => ⟨(hm b (by omega)).1, (hn b (by omega)).2⟩⟩⟩
 have hG2 : Grow w σ w' υ := by
  refine ⟨hG.os, hG.tape, hG.output, hG.size, hG.used, fun b hb hn => ⟨(hG.rest b hb ?_).1, hn⟩, fun b t k s hb ht => ⟨(hG.tail b t k s hb (by rw [ZeX (hnarr _ _ _ _ ht)]; exact ht)).1, .inr ⟨t, k, s, ht, Nat.le_refl _⟩⟩, hused⟩
  by_cases hg : Zqw ρ h b
  ·exact ZgY hg
  ·rw [ZeX hg]; exact hn
 have hX : Ext σ υ := ⟨fun _ _ h => h, hused⟩
 refine ⟨rv, υ, rfl, ⟨ρ, s1, H.toExt hX, ⟨Nat.le_refl _, fun _ _ => rfl, hX.but, fun b hb => .inl hb⟩⟩, ⟨hH'.used, fun b hz => ⟨(hH'.z b hz).1, (hH.z b hz).2⟩, fun b t cs hb => ?_, fun b t k s hb => ?_, fun b es hb => ?_⟩, s2 _ _, hG2⟩
 ·obtain ⟨g1, g2, g3⟩ := hH.own _ _ _ hb
  refine ⟨hused _ g1, ?_, fun c hc => hG2.valid (g3 c hc)⟩
  by_cases hg : Zqw ρ h b
  ·exact (hG.rest b (hH.used _ g1) (ZgY hg)).1.trans g2
  ·exact (hH'.own _ _ _ (hkeep b _ hg hb)).2.1
 ·obtain ⟨g1, g2⟩ := hH'.tail _ _ _ _ (hkeep b _ (hnarr _ _ _ _ hb) hb)
  exact ⟨hused _ (hH.tail _ _ _ _ hb).1, g2⟩
 ·have hna : ¬ Zqw ρ h b := fun hg => by
   obtain ⟨e, cs, q, _⟩ := Zrx H hg
   rw [hb] at q; cases q
  obtain ⟨g1, g2⟩ := hH'.map _ _ (hkeep b _ hna hb)
  exact ⟨hused _ (hH.map _ _ hb).1, g2⟩
section
variable {n m : Nat}
end
end
end Go.Proofs.YteempnebenjkmaaGreatDoor
