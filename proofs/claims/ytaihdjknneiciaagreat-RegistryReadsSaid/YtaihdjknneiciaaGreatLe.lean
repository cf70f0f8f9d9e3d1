/- Objects of ours are lent to a call that only reads. -/
import Derived.Test.YtaihdjknneiciaaGreatCl
namespace Go.Proofs.YtaihdjknneiciaaGreat
open Go.RowKit
set_option linter.unusedSimpArgs false
set_option maxRecDepth 100000
set_option linter.unusedVariables false
set_option linter.unusedSectionVars false
variable {T : Nat -> Type}
def ZBe (h : List (HI T)) : XV T -> XV T
 | .sl E xs (some _) => .sl E xs none
 | .as E i lo n co => ZDX h (.as E i lo n co)
 | v => cond v.closed v .junk
def ZCp (h : List (HI T)) : XV T -> Bool
 | .as E i lo n co => ZCl h (.as E i lo n co)
 | _ => true
def ZBf (h : List (HI T)) : XV T -> XV T
 | .ptr i o => match h[i]? with
  | some (.obj _ cs) => .ce ((cs.drop o).map (ZBe h))
  | _ => .junk
 | v => v
def Zv4 (h : List (HI T)) : XV T -> Bool
 | .ptr i o => match h[i]? with
  | some (.obj _ cs) => (cs.drop o).all (ZCp h)
  | _ => false
 | v => v.closed
section
variable {C : Zaz T} {P : Program} {N N' : Nat} {ρ ρ' : Nat -> AV} {h : List (HI T)} {σ τ : St} {U U0 G : Nat -> Prop}
def ZzJ (ρ : Nat -> AV) (h : List (HI T)) (b : Nat) : Prop := ZGU ρ h b \/ ∃ i t cs, h[i]? = some (.obj t cs) /\ (ρ i).owns b
theorem ZyR (H : Hp C ρ h σ) {b : Nat} (hb : ZzJ ρ h b) : ∃ e cs, σ.blk b = some (.own e cs) /\ σ.used b := by
 rcases hb with hb | ⟨i, t, cs, hi, hρ⟩
 ·exact ZCm H hb
 ·obtain ⟨b', acs, h1, h2, h3, _⟩ := H.it i _ hi
  rw [h1] at hρ; injection hρ with hρ; subst hρ; exact ⟨_, _, h2, h3⟩
open Classical in
noncomputable def ZlU (G : Nat -> Prop) (σ : St) : St := ⟨fun b => if G b then none else σ.blk b, σ.used, by
 obtain ⟨n, hn⟩ := σ.fin
 refine ⟨n, fun b hb => ⟨(hn b hb).1, ?_⟩⟩
 rw [(hn b hb).2]; simp⟩
theorem Zf8 {b : Nat} (hb : G b) : (ZlU G σ).blk b = none := by unfold ZlU; dsimp only; rw [if_pos hb]
theorem Zem {b : Nat} (hb : ¬ G b) : (ZlU G σ).blk b = σ.blk b := by unfold ZlU; dsimp only; rw [if_neg hb]
theorem ZkL {Z : Nat -> Prop} {b o : Nat} (hf : σ.free Z b o) : (ZlU G σ).free Z b o := by
 obtain ⟨h1, h2, h3⟩ := hf
 refine ⟨h1, h2, ?_⟩
 by_cases hb : G b
 ·rw [Zf8 hb]; trivial
 ·rw [Zem hb]; exact h3
theorem ZCq {w : World} {Z : Nat -> Prop} (hH : Zan w σ Z) : Zan w (ZlU G σ) Z := by
 refine ⟨hH.used, fun b hz => ⟨(hH.z b hz).1, ?_⟩, fun b t cs hb => ?_, fun b t k s hb => ?_, fun b es hb => ?_⟩
 ·by_cases hb : G b
  ·exact Zf8 hb
  ·rw [Zem hb]; exact (hH.z b hz).2
 ·by_cases hg : G b
  ·rw [Zf8 hg] at hb; cases hb
  ·rw [Zem hg] at hb
   obtain ⟨g1, g2, g3⟩ := hH.own _ _ _ hb
   exact ⟨g1, g2, fun c hc => (g3 c hc).sub fun b o => ZkL⟩
 ·by_cases hg : G b
  ·rw [Zf8 hg] at hb; cases hb
  ·rw [Zem hg] at hb
   exact hH.tail _ _ _ _ hb
 ·by_cases hg : G b
  ·rw [Zf8 hg] at hb; cases hb
  ·rw [Zem hg] at hb
   exact hH.map _ _ hb
theorem ZD0 (H : Hp C ρ h σ) {w : World} {Z : Nat -> Prop} (hH : Zan w σ Z) {E i lo n : Nat} {co : Option Nat} {a : AV} (hb : ZCl h (.as E i lo n co) = true) (hs : SV C h.length ρ (.as E i lo n co) a) (hv : Zaj w (σ.free Z) a) :
 ∃ a', a'.val = a.val /\ SV C 0 ρ (ZDX h (.as E i lo n co)) a' /\ Zaj w ((ZlU (ZzJ ρ h) σ).free Z) a' := by
 simp only [ZCl] at hb
 simp only [ZDX]
 split at hb
 ·rename_i e E' kp zs hi
  rw [Bool.and_eq_true] at hb
  have hE := Nat.eq_of_beq_eq_true hb.1
  have hle := Nat.le_of_ble_eq_true hb.2
  subst hE
  rw [dif_pos rfl]
  have hlen : ((zs.drop lo).take n).length = n := by rw [List.length_take, List.length_drop]; omega
  rcases Zbv.1 hs with ⟨ad, c, rfl, hA⟩ | ⟨rfl, rfl, hiN, hρi, hco⟩
  ·obtain ⟨b, q1, q2⟩ := hA.at_
   obtain ⟨pre, rest, hb2, hb3, hb4, hb5, hb6⟩ := H.arrAt hi q1
   have hsz := C.pos E'
   have hsl : ∀ a, SV C 0 ρ (.sl E' ((zs.drop lo).take n) none) a ↔ _ := fun a => ZeW (C := C) (N := 0) (ρ := ρ) (E := E') (xs := (zs.drop lo).take n) (a := a)
   rw [hlen] at hsl
   by_cases hc0 : c = 0
   ·have hn0 : n = 0 := by have := hA.le; omega
    subst hn0
    refine ⟨.lst (some ad) 0 c [], by simp, (hsl _).2 ⟨some ad, c, [], [], rfl, hA.le, hA.max, hA.len, (fun e => by cases e), by simp only [List.take_zero]; exact .none⟩, ?_⟩
    unfold Zaj
    exact ⟨hA.le, (fun e => by cases e), fun ad' _ => Zay.mk fun j q hq => by simp at hq⟩
   ·have had := q2 (by omega)
    subst had
    have hpl := (hb4 0 ρ).len
    rw [ZbE] at hpl
    have hG : ZzJ ρ h b := .inl ⟨i, e, E', kp, zs, hi, by rw [q1]; rfl⟩
    have hsv : SVs C 0 ρ (((zs.drop lo).take n).flatMap (C.enc E')) ((pre.drop (lo * C.sz E')).take (n * C.sz E')) := by
     have := ((hb4 0 ρ).drop (lo * C.sz E')).take (n * C.sz E')
     rw [Zdh, Zel] at this
     exact this
    refine ⟨.lst (some ⟨b, lo * C.sz E', none⟩) n c (((pre.drop (lo * C.sz E')).take (n * C.sz E')) ++ []), by simp, (hsl _).2 ⟨_, c, _, [], rfl, hA.le, hA.max, hA.len, (fun e => by cases e), hsv⟩, ?_⟩
    unfold Zaj
    refine ⟨hA.le, (fun e => by cases e), fun ad' had' => ?_⟩
    injection had' with had'
    subst had'
    rw [List.append_nil]
    refine Zay.mk fun j q hq => ?_
    rw [Nat.zero_add]
    have hq1 : (pre ++ rest)[lo * C.sz E' + j]? = some q := by
     rw [List.getElem?_take] at hq
     split at hq
     ·rw [List.getElem?_drop] at hq
      rw [List.getElem?_append_left (Zaw hq)]
      exact hq
     ·cases hq
    obtain ⟨o1, o2, o3⟩ := hH.own _ _ _ hb2
    have hcell := Zft hH hb2 (lo * C.sz E') j hq1
    refine ⟨hcell, ⟨fun hz => ?_, o1, ?_⟩, (o3 q (List.mem_of_getElem? hq1)).sub fun b o => ZkL⟩
    ·have := (hH.z _ hz).2
     rw [hb2] at this; cases this
    ·rw [Zf8 hG]; trivial
  ·refine ⟨.lst none 0 0 [], rfl, ?_, Zcm⟩
   rw [List.take_zero]
   exact ZeW.2 ⟨none, 0, [], [], rfl, Nat.le_refl _, Nat.zero_le _, Nat.zero_le _, fun _ => ⟨rfl, rfl⟩, .none⟩
 ·cases hb
theorem ZCr (H : Hp C ρ h σ) {w : World} {Z : Nat -> Prop} (hH : Zan w σ Z) {v : XV T} {a : AV} (hb : ZCp h v = true) (hs : SV C h.length ρ v a) (hv : Zaj w (σ.free Z) a) :
 ∃ a', a'.val = a.val /\ SV C 0 ρ (ZBe h v) a' /\ Zaj w ((ZlU (ZzJ ρ h) σ).free Z) a' := by
 by_cases ha : ∃ E i lo n co, v = .as E i lo n co
 ·obtain ⟨E, i, lo, n, co, rfl⟩ := ha
  exact ZD0 H hH hb hs hv
 refine ⟨a, rfl, ?_, hv.sub fun b o => ZkL⟩
 by_cases hc : ∃ E xs r, v = .sl E xs (some r)
 ·obtain ⟨E, xs, r, rfl⟩ := hc
  obtain ⟨_, _, h2⟩ := Zf1.1 hs
  exact SVs.shut h2 (by intro x hx; simp at hx; subst hx; rfl)
 ·have e : ZBe h v = cond v.closed v .junk := by
   unfold ZBe
   split
   ·exact absurd ⟨_, _, _, rfl⟩ hc
   ·exact absurd ⟨_, _, _, _, _, rfl⟩ ha
   ·rfl
  rw [e]
  cases hv : v.closed with
  | true => exact SVs.shut hs (by intro x hx; simp at hx; subst hx; exact hv)
  | false => exact Zbr
theorem Zv5 (H : Hp C ρ h σ) {w : World} {Z : Nat -> Prop} (hH : Zan w σ Z) : ∀ {l : List (XV T)} {as_ : List AV}, l.all (ZCp h) = true -> SVs C h.length ρ l as_ -> (∀ a ∈ as_, Zaj w (σ.free Z) a) ->
 ∃ bs : List AV, bs.map AV.val = as_.map AV.val /\ SVs C 0 ρ (l.map (ZBe h)) bs /\ ∀ a ∈ bs, Zaj w ((ZlU (ZzJ ρ h) σ).free Z) a
 | [], as_, _, hs, _ => by rw [Zbq.1 hs]; exact ⟨[], rfl, .none, by simp⟩
 | v :: l, as_, hb, hs, hv => by
  rw [List.all_cons, Bool.and_eq_true] at hb
  obtain ⟨a, cs, rfl, h1, h2⟩ := hs.to
  obtain ⟨a', g1, g2, g3⟩ := ZCr H hH hb.1 h1 (hv a List.mem_cons_self)
  obtain ⟨bs, q1, q2, q3⟩ := Zv5 H hH hb.2 h2 (fun x hx => hv x (List.mem_cons_of_mem _ hx))
  refine ⟨a' :: bs, by rw [List.map_cons, List.map_cons, g1, q1], .cons g2 q2, fun x hx => ?_⟩
  rcases List.mem_cons.1 hx with rfl | hx
  ·exact g3
  ·exact q3 x hx
theorem ZCs (H : Hp C ρ h σ) {w : World} {Z : Nat -> Prop} (hH : Zan w σ Z) {v : XV T} {a : AV} (hb : Zv4 h v = true) (hs : SV C h.length ρ v a) (hv : Zaj w (σ.free Z) a) :
 ∃ a', a'.val = a.val /\ SV C 0 ρ (ZBf h v) a' /\ Zaj w ((ZlU (ZzJ ρ h) σ).free Z) a' := by
 by_cases hc : ∃ i o, v = .ptr i o
 ·obtain ⟨i, o, rfl⟩ := hc
  simp only [Zv4] at hb
  simp only [ZBf]
  split at hb
  ·rename_i t cs hi
   obtain ⟨b, rfl, hiN, hρ⟩ := Zd7.1 hs
   obtain ⟨b', acs, q1, q2, q3, q4⟩ := H.it i _ hi
   rw [hρ] at q1
   have := Zt6 q1
   subst this
   have hG : ZzJ ρ h b := .inr ⟨i, t, cs, hi, by rw [hρ]; rfl⟩
   obtain ⟨o1, o2, o3⟩ := hH.own _ _ _ q2
   obtain ⟨bs, e1, e2, e3⟩ := Zv5 H hH hb (q4.drop o) (fun a ha => o3 a (List.mem_of_mem_drop ha))
   refine ⟨.eptr ⟨b, o, none⟩ (bs ++ []), by simp [ptr], Zxa.2 ⟨_, bs, [], rfl, e2⟩, ?_⟩
   unfold Zaj
   rw [List.append_nil]
   refine Zay.mk fun j q hq => ?_
   rw [Nat.zero_add]
   have hq2 : ∃ q', acs[o + j]? = some q' /\ q'.val = q.val := by
    have h1 := congrArg (fun l : List Value => l[j]?) e1
    simp only [List.getElem?_map] at h1
    rw [hq, List.getElem?_drop] at h1
    cases hx : acs[o + j]? with
    | none => rw [hx] at h1; simp at h1
    | some q' => rw [hx] at h1; simp at h1; exact ⟨q', rfl, h1.symm⟩
   obtain ⟨q', hq', hqv⟩ := hq2
   have hcell := Zft hH q2 o j hq'
   rw [hqv] at hcell
   refine ⟨hcell, ⟨fun hz => ?_, o1, ?_⟩, e3 q (List.mem_of_getElem? hq)⟩
   ·have := (hH.z _ hz).2
    rw [q2] at this; cases this
   ·rw [Zf8 hG]; trivial
  ·cases hb
 ·have hcl : v.closed = true := by
   cases v <;> first | exact hb | exact absurd ⟨_, _, rfl⟩ hc
  have hsame : ZBf h v = v := by
   cases v <;> first | rfl | exact absurd ⟨_, _, rfl⟩ hc
  rw [hsame]
  exact ⟨a, rfl, SVs.shut hs (by intro x hx; simp at hx; subst hx; exact hcl), hv.sub fun b o => ZkL⟩
theorem Zv6 (H : Hp C ρ h σ) {w : World} {Z : Nat -> Prop} (hH : Zan w σ Z) : ∀ {l : List (XV T)} {as_ : List AV}, l.all (Zv4 h) = true -> SVs C h.length ρ l as_ -> (∀ a ∈ as_, Zaj w (σ.free Z) a) ->
 ∃ bs : List AV, bs.map AV.val = as_.map AV.val /\ SVs C 0 ρ (l.map (ZBf h)) bs /\ ∀ a ∈ bs, Zaj w ((ZlU (ZzJ ρ h) σ).free Z) a
 | [], as_, _, hs, _ => by rw [Zbq.1 hs]; exact ⟨[], rfl, .none, by simp⟩
 | v :: l, as_, hb, hs, hv => by
  rw [List.all_cons, Bool.and_eq_true] at hb
  obtain ⟨a, cs, rfl, h1, h2⟩ := hs.to
  obtain ⟨a', g1, g2, g3⟩ := ZCs H hH hb.1 h1 (hv a List.mem_cons_self)
  obtain ⟨bs, q1, q2, q3⟩ := Zv6 H hH hb.2 h2 (fun x hx => hv x (List.mem_cons_of_mem _ hx))
  refine ⟨a' :: bs, by rw [List.map_cons, List.map_cons, g1, q1], .cons g2 q2, fun x hx => ?_⟩
  rcases List.mem_cons.1 hx with rfl | hx
  ·exact g3
  ·exact q3 x hx
theorem ZtH (hown : ∀ b, G b -> ∃ e cs, σ.blk b = some (.own e cs) /\ σ.used b) {w w' : World} {Z : Nat -> Prop} (hH : Zan w σ Z) {g : Nat} (hH' : Zan w' τ Z) (hG : Grow w (ZlU G σ) w' τ) (hbut : ∀ b k, ¬ G b -> σ.blk b = some k -> τ.blk b = some k) (hused : ∀ b, σ.used b -> τ.used b)
 (hgu : ¬ σ.used g) (hgn : σ.blk g = none) (hflat : ∀ t cs, τ.blk g = some (.own t cs) -> ∀ c ∈ cs, ∀ w B, Zaj w B c) : Zan w' (Zpn σ τ g) Z /\ Grow w σ w' (Zpn σ τ g) /\ Ext σ (Zpn σ τ g) := by
 have hnarr : ∀ b t k s, σ.blk b = some (.tail t k s) -> ¬ G b := fun b t k s hb hg => by
  obtain ⟨e, cs, q, _⟩ := hown b hg
  rw [hb] at q; cases q
 have hge : τ.used g -> ¬ g < w.heap.size := fun hu hl => hgu (hG.used g hl hu)
 have hG2 : Grow w σ w' (Zpn σ τ g) := by
  refine ⟨hG.os, hG.tape, hG.output, hG.size, hG.used, fun b hb hn => ?_, fun b t k s hb ht => ⟨(hG.tail b t k s hb (by rw [Zem (hnarr _ _ _ _ ht)]; exact ht)).1, .inr ⟨t, k, s, Zq0 ht, Nat.le_refl _⟩⟩, hused⟩
  have hl : (ZlU G σ).blk b = none := by
   by_cases hg : G b
   ·exact Zf8 hg
   ·rw [Zem hg]; exact hn
  obtain ⟨q1, q2⟩ := hG.rest b hb hl
  refine ⟨q1, ?_⟩
  by_cases hbg : b = g
  ·subst hbg; rw [ZlT hn]; exact q2
  ·exact Zmw hn hbg
 refine ⟨⟨hH'.used, fun b hz => ⟨(hH'.z b hz).1, ?_⟩, fun b t cs hb => ?_, fun b t k s hb => ?_, fun b es hb => ?_⟩, hG2, ⟨fun b k hk => Zq0 hk, hused⟩⟩
 ·have hn := (hH.z b hz).2
  by_cases hbg : b = g
  ·subst hbg; rw [ZlT hn]; exact (hH'.z b hz).2
  ·exact Zmw hn hbg
 ·cases hs : σ.blk b with
  | some k =>
   rw [Zq0 hs] at hb
   injection hb with hb
   subst hb
   obtain ⟨g1, g2, g3⟩ := hH.own _ _ _ hs
   refine ⟨hused _ g1, ?_, fun c hc => hG2.valid (g3 c hc)⟩
   by_cases hg : G b
   ·exact (hG.rest b (hH.used _ g1) (Zf8 hg)).1.trans g2
   ·exact (hH'.own _ _ _ (hbut b _ hg hs)).2.1
  | none =>
   by_cases hbg : b = g
   ·subst hbg
    rw [ZlT hs] at hb
    obtain ⟨g1, g2, _⟩ := hH'.own _ _ _ hb
    exact ⟨g1, g2, fun c hc => hflat _ _ hb c hc _ _⟩
   ·rw [Zmw hs hbg] at hb; cases hb
 ·cases hs : σ.blk b with
  | some k' =>
   rw [Zq0 hs] at hb
   injection hb with hb
   subst hb
   obtain ⟨g1, g2⟩ := hH'.tail _ _ _ _ (hbut b _ (hnarr _ _ _ _ hs) hs)
   exact ⟨hused _ (hH.tail _ _ _ _ hs).1, g2⟩
  | none =>
   by_cases hbg : b = g
   ·subst hbg
    rw [ZlT hs] at hb
    exact hH'.tail _ _ _ _ hb
   ·rw [Zmw hs hbg] at hb; cases hb
 ·cases hs : σ.blk b with
  | some k' =>
   rw [Zq0 hs] at hb
   injection hb with hb
   subst hb
   have hna : ¬ G b := fun hg => by
    obtain ⟨e, cs, q, _⟩ := hown b hg
    rw [hs] at q; cases q
   obtain ⟨g1, g2⟩ := hH'.map _ _ (hbut b _ hna hs)
   exact ⟨hused _ (hH.map _ _ hs).1, g2⟩
  | none =>
   by_cases hbg : b = g
   ·subst hbg
    rw [ZlT hs] at hb
    exact hH'.map _ _ hb
   ·rw [Zmw hs hbg] at hb; cases hb
theorem Tr.lendORow {f : FuncId} {args : List (XV T)} {E e sz : Nat} {xs : List (T E)} (hE : ∀ x : T E, (C.enc E x).all XV.scal = true) (hsz : sz = C.sz E) (h1 : Tr C P U0 f (args.map (ZBf h)) [] (.sl E xs (some 0)) [.row e sz]) (hok : args.all (Zv4 h) = true) : Tr C P U f args h (.sl E xs (some h.length)) (h ++ [.row e sz]) := by
 intro ρ σ vs hs H w Z hH hV
 obtain ⟨bs, e1, e2, e3⟩ := Zv6 H hH hok hs hV
 have hown : ∀ b, ZzJ ρ h b -> ∃ e cs, σ.blk b = some (.own e cs) /\ σ.used b := fun b hb => ZyR H hb
 have H0 : Hp C ρ ([] : List (HI T)) (ZlU (ZzJ ρ h) σ) := ⟨fun i x hx => by simp at hx, fun i j x y b hx => by simp at hx⟩
 have hc := h1 ρ (ZlU (ZzJ ρ h) σ) bs e2 H0 w Z (ZCq hH) e3
 rw [e1] at hc
 refine hc.mono ?_
 rintro y w' ⟨rv, τ, rfl, ⟨ρ', hrv, H', R⟩, hH', hval, hG⟩
 obtain ⟨q1, q2, q3⟩ := Zf1.1 hrv
 subst q1
 obtain ⟨n, cells, ho⟩ := H'.it 0 _ rfl
 obtain ⟨A, c, cs, rest, q4, l1, l2, l3, l4, l5⟩ := ZeW.1 q3
 have hbut : ∀ b k, ¬ ZzJ ρ h b -> σ.blk b = some k -> τ.blk b = some k := fun b k hb hk => R.but.keep b k (fun ⟨i, x, _, hx, _⟩ => by simp at hx) (by rw [Zem hb]; exact hk)
 have hcs : ∀ a ∈ cs, ∀ w B, Zaj w B a := ZCn (ZCo hE xs) l5
 have hnew : ∀ g, (ρ' 0).owns g -> σ.blk g = none /\ ¬ σ.used g := fun g hg => by
  rcases R.born g ⟨0, _, rfl, rfl, hg⟩ with ⟨i, x, hx, _⟩ | ⟨h1, h2⟩
  ·simp at hx
  ·refine ⟨?_, h2⟩
   by_cases ha : ZzJ ρ h g
   ·obtain ⟨e, cs, _, q⟩ := ZyR H ha
    exact absurd q h2
   ·rw [Zem ha] at h1; exact h1
 rcases ho.2 with ⟨hnil, hn0⟩ | ⟨g, c', hform, k1, k2, k3, k4⟩
 ·obtain ⟨g1, hg1⟩ := σ.fin
  obtain ⟨g2, hg2⟩ := τ.fin
  have hx : xs = [] := by
   rw [hnil] at q4
   injection q4 with _ q5 _ _
   exact List.eq_nil_of_length_eq_zero q5.symm
  subst hx
  obtain ⟨p1, p2, p3⟩ := ZtH hown hH (g := g1 + g2) hH' hG hbut R.but.used (hg1 _ (by omega)).1 (hg1 _ (by omega)).2 (fun t cs hq => by rw [(hg2 _ (by omega)).2] at hq; cases hq)
  have hO : Own (Zpn σ τ (g1 + g2)) e sz (.lst none 0 0 []) 0 [] := ⟨by simp, .inl ⟨rfl, rfl⟩⟩
  obtain ⟨r1, r2⟩ := H.newRow (U := U) p3 hO (fun g hg => by cases hg)
  refine ⟨_, _, rfl, ⟨_, Zf1.2 ⟨?_, by simp, ?_⟩, r1, r2⟩, p1, ?_, p2⟩
  ·rw [Zav]; exact hnil
  ·rw [hnil]; exact ZvG (xs := ([] : List (T E))) hO (Nat.zero_le _) .none
  ·rw [hnil]; exact Zcm
 ·have hn := hnew g (by rw [hform]; rfl)
  rw [hform] at q4
  injection q4 with _ q5 _ q6
  subst q5
  have hcl := l5.len
  rw [ZbE] at hcl
  have hl := ho.1
  rw [q6, List.length_append, hcl, hsz] at hl
  have hr : rest = [] := List.eq_nil_of_length_eq_zero (by omega)
  subst hr
  rw [List.append_nil] at q6
  subst q6
  obtain ⟨p1, p2, p3⟩ := ZtH hown hH (g := g) hH' hG hbut R.but.used hn.2 hn.1 (fun t cs hq => by rw [k3] at hq; injection hq with hq; cases hq)
  have hO : Own (Zpn σ τ g) e sz (ρ' 0) xs.length cells := ⟨ho.1, .inr ⟨g, c', hform, k1, k2, (ZlT hn.1).trans k3, k4⟩⟩
  obtain ⟨r1, r2⟩ := H.newRow (U := U) p3 hO (fun g' hg => hnew g' hg)
  refine ⟨_, _, rfl, ⟨_, Zf1.2 ⟨(Zav _ _ _).symm, by simp, ZvG hO l3 (l5.shut (ZbF xs))⟩, r1, r2⟩, p1, ?_, p2⟩
  rw [hform] at hval ⊢
  unfold Zaj at hval ⊢
  refine ⟨hval.1, fun hA => (by cases hA), fun ad had => ?_⟩
  have hva := hval.2.2 ad had
  injection had with had
  subst had
  refine Zay.mk fun i d hd => ?_
  obtain ⟨v1, v2, _⟩ := hva.get hd
  refine ⟨v1, ?_, hcs d (List.mem_of_getElem? hd) _ _⟩
  obtain ⟨f1, f2, f3⟩ := v2
  exact ⟨f1, f2, by rw [ZlT hn.1]; exact f3⟩
end
end Go.Proofs.YtaihdjknneiciaaGreat
