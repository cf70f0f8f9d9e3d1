/- Blocks of ours are lent to a call that only reads: values as they lie; lists of bytes that lie apart. -/
import Derived.Test.YteempnebenjkmaaGreatDoorMd
import Derived.Test.YteempnebenjkmaaGreatDoorHw
namespace Go.Proofs.YteempnebenjkmaaGreatDoor
open Go.RowKit
set_option linter.unusedSimpArgs false
set_option maxRecDepth 100000
set_option linter.unusedVariables false
section
variable {P : Program} {G : Nat -> Prop} {σ τ : St}
def ZgP (G : Nat -> Prop) (σ : St) (a a' : AV) : Prop := a'.val = a.val /\ ∀ (w : World) (Z : Nat -> Prop), Zan w σ Z -> Zag w (σ.free Z) a -> Zag w ((Zfq G σ).free Z) a'
def ZdF (G : Nat -> Prop) (σ : St) : List AV -> List AV -> Prop
 | [], [] => True
 | a :: l, b :: m => ZgP G σ a b /\ ZdF G σ l m
 | [], _ :: _ => False
 | _ :: _, [] => False
theorem ZgP.refl (a : AV) : ZgP G σ a a := ⟨rfl, fun w Z _ hv => hv.sub fun b o => ZjD⟩
theorem ZdF.refl : ∀ l : List AV, ZdF G σ l l
 | [] => trivial
 | a :: l => ⟨.refl a, ZdF.refl l⟩
theorem ZdF.len : ∀ {l m : List AV}, ZdF G σ l m -> m.length = l.length
 | [], [], _ => rfl
 | _ :: _, _ :: _, h => by rw [List.length_cons, List.length_cons, ZdF.len h.2]
theorem ZdF.vals : ∀ {l m : List AV}, ZdF G σ l m -> m.map AV.val = l.map AV.val
 | [], [], _ => rfl
 | _ :: _, _ :: _, h => by rw [List.map_cons, List.map_cons, h.1.1, ZdF.vals h.2]
theorem ZdF.get : ∀ {l m : List AV} {j : Nat} {q : AV}, ZdF G σ l m -> m[j]? = some q -> ∃ p, l[j]? = some p /\ ZgP G σ p q
 | a :: l, b :: m, 0, q, h, hq => by
  injection hq with hq
  subst hq
  exact ⟨a, rfl, h.1⟩
 | a :: l, b :: m, j + 1, q, h, hq => ZdF.get (l := l) (m := m) (j := j) h.2 hq
 | [], [], _, q, _, hq => by simp at hq
 | [], _ :: _, _, _, h, _ => h.elim
 | _ :: _, [], _, _, h, _ => h.elim
theorem ZdF.valid {w : World} {Z : Nat -> Prop} (hH : Zan w σ Z) : ∀ {l m : List AV}, ZdF G σ l m -> (∀ a ∈ l, Zag w (σ.free Z) a) -> ∀ a ∈ m, Zag w ((Zfq G σ).free Z) a
 | [], [], _, _ => by simp
 | a :: l, b :: m, h, hv => fun x hx => by
  rcases List.mem_cons.1 hx with rfl | hx
  ·exact h.1.2 w Z hH (hv a List.mem_cons_self)
  ·exact ZdF.valid hH h.2 (fun y hy => hv y (List.mem_cons_of_mem _ hy)) x hx
theorem ZdF.append : ∀ {l m l' m' : List AV}, ZdF G σ l m -> ZdF G σ l' m' -> ZdF G σ (l ++ l') (m ++ m')
 | [], [], _, _, _, h => h
 | _ :: _, _ :: _, _, _, h, h' => ⟨h.1, ZdF.append h.2 h'⟩
theorem ZuT {A : Option Addr} {n c : Nat} {l m : List AV} (h : ZdF G σ l m) : ZgP G σ (.lst A n c l) (.lst A n c m) := by
 refine ⟨rfl, fun w Z hH hv => ?_⟩
 unfold Zag at hv ⊢
 obtain ⟨h1, h2, h3⟩ := hv
 refine ⟨h1, fun e => ⟨(h2 e).1, (h2 e).2.1, ?_⟩, fun ad had => Zay.mk fun j q hq => ?_⟩
 ·have := h.len
  rw [(h2 e).2.2] at this
  exact List.eq_nil_of_length_eq_zero this
 ·obtain ⟨p, hp, hpq⟩ := h.get hq
  obtain ⟨g1, g2, g3⟩ := (h3 ad had).get hp
  exact ⟨by rw [g1, hpq.1], ZjD g2, hpq.2 w Z hH g3⟩
theorem Hd.lends {e sz n : Nat} {v : AV} {cells m : List AV} (h : Hd σ e sz v n cells) (hG : ∀ b, hbk v = some b -> G b) (hl : ZdF G σ cells m) : ∃ A c, ZgP G σ v (.lst A n c m) /\ n <= c /\ c <= maxLen /\ (A = none -> n = 0 /\ c = 0) := by
 have hml := hl.len
 have hcl := h.len
 rcases h.2.2 with ⟨rfl | ⟨ad, rfl⟩, rfl⟩ | ⟨b, c, all, hc, rfl, h1, h2, h3, h4, h5, h6⟩
 ·have : m = [] := List.eq_nil_of_length_eq_zero (by rw [hml, hcl, Nat.zero_mul])
  subst this
  exact ⟨none, 0, ⟨rfl, fun w Z _ _ => Zde⟩, Nat.le_refl _, Nat.zero_le _, fun _ => ⟨rfl, rfl⟩⟩
 ·have : m = [] := List.eq_nil_of_length_eq_zero (by rw [hml, hcl, Nat.zero_mul])
  subst this
  refine ⟨some ad, 0, ⟨rfl, fun w Z _ _ => ?_⟩, Nat.le_refl _, Nat.zero_le _, fun e => by cases e⟩
  unfold Zag
  exact ⟨Nat.le_refl _, (fun e => by cases e), fun ad' _ => Zay.mk fun j q hq => by simp at hq⟩
 ·refine ⟨some ⟨b, 0, none⟩, c, ⟨rfl, fun w Z hH _ => ?_⟩, h5, h6, fun e => by cases e⟩
  unfold Zag
  refine ⟨h5, (fun e => by cases e), fun ad' had' => ?_⟩
  injection had' with had'
  subst had'
  refine Zay.mk fun j q hq => ?_
  rw [Nat.zero_add]
  obtain ⟨p, hp, hpq⟩ := hl.get hq
  have hq1 : all[0 + j]? = some p := by
   rw [<- h4, List.getElem?_take] at hp
   split at hp
   ·rw [Nat.zero_add]; exact hp
   ·cases hp
  obtain ⟨o1, o2, o3⟩ := hH.own _ _ _ h1
  have hcell := Zdl hH h1 0 j hq1
  refine ⟨by rw [hcell, hpq.1], ⟨fun hz => ?_, o1, ?_⟩, hpq.2 w Z hH (o3 p (List.mem_of_getElem? hq1))⟩
  ·have := (hH.z _ hz).2
   rw [h1] at this; cases this
  ·rw [Zdr (hG b (Zfr hc))]; trivial
theorem ZuU {f : FuncId} {args args' : List AV} {rv : AV} (hown : ∀ b, G b -> ∃ e cs, σ.blk b = some (.own e cs) /\ σ.used b) (hl : ZdF G σ args args') (h1 : Zal P f args' (Zfq G σ) fun r τ => r = rv /\ Ext (Zfq G σ) τ) (hrv : ∀ w B, Zag w B rv)
 (K : AV -> St -> Prop) (hK : ∀ τ, Ext σ τ -> K rv τ) : Zal P f args σ K := by
 intro w Z hH hV
 have hc := h1 w Z (Zhp hH) (hl.valid hH hV)
 rw [hl.vals] at hc
 refine hc.mono ?_
 rintro y w' ⟨r, τ, rfl, ⟨rfl, hX⟩, hH', _, hG⟩
 have hbut : ∀ b k, ¬ G b -> σ.blk b = some k -> τ.blk b = some k := fun b k hb hk => hX.keep b k (by rw [Zcg hb]; exact hk)
 obtain ⟨g1, hg1⟩ := σ.fin
 obtain ⟨g2, hg2⟩ := τ.fin
 obtain ⟨p1, p2, p3⟩ := Zta hown hH (g := g1 + g2) hH' hG hbut hX.used (hg1 _ (by omega)).1 (hg1 _ (by omega)).2 (fun t cs hq => by rw [(hg2 _ (by omega)).2] at hq; cases hq)
 exact ⟨r, _, rfl, hK _ p3, p1, hrv _ _, p2⟩
end
theorem Ztb {P : Program} {σ : St} {f : FuncId} {args : List AV} {rv : AV} (h1 : Zal P f args (Zfq (fun _ => True) σ) fun r τ => r = rv) (hrv : ∀ w B, Zag w B rv) (K : AV -> St -> Prop) (hK : ∀ τ, Ext σ τ -> K rv τ) : Zal P f args σ K := by
 intro w Z hH hV
 refine (h1 w Z (Zhp hH) ((ZdF.refl _).valid hH hV)).mono ?_
 rintro y w' ⟨r, τ, rfl, rfl, hH', _, hG⟩
 obtain ⟨g1, g2, g3, g4, g5, g6, _, g8⟩ := hG
 have hin : ∀ b, (Zfq (fun _ => True) σ).blk b = none := fun b => Zdr trivial
 have hsame : ∀ b, b < w.heap.size -> w'.heap[b]? = w.heap[b]? := fun b hb => (g6 b hb (hin b)).1
 have hfin : ∃ n, ∀ b, n <= b -> ¬ τ.used b /\ σ.blk b = none := by
  obtain ⟨n1, q1⟩ := σ.fin
  obtain ⟨n2, q2⟩ := τ.fin
  exact ⟨n1 + n2, fun b hb => ⟨(q2 b (by omega)).1, (q1 b (by omega)).2⟩⟩
 have hG2 : Grow w σ w' ⟨σ.blk, τ.used, hfin⟩ := ⟨g1, g2, g3, g4, g5, fun b hb hn => ⟨hsame b hb, hn⟩, fun b t k s hb ht => ⟨fun j v _ hv => by rw [World.cell?_of_block (w := w) (hsame b hb)]; exact hv, .inr ⟨t, k, s, ht, Nat.le_refl _⟩⟩, g8⟩
 refine ⟨r, ⟨σ.blk, τ.used, hfin⟩, rfl, hK _ ⟨fun b k hk => hk, g8⟩, ⟨hH'.used, fun b hz => ⟨(hH'.z b hz).1, (hH.z b hz).2⟩, fun b t cs hb => ?_, fun b t k s hb => ?_, fun b es hb => ?_⟩, hrv _ _, hG2⟩
 ·obtain ⟨q1, q2, q3⟩ := hH.own _ _ _ hb
  exact ⟨g8 _ q1, (hsame b (hH.used _ q1)).trans q2, fun c hc => hG2.valid (q3 c hc)⟩
 ·obtain ⟨q1, cs, q2, q3⟩ := hH.tail _ _ _ _ hb
  exact ⟨g8 _ q1, cs, (hsame b (hH.used _ q1)).trans q2, q3⟩
 ·obtain ⟨q1, a, c, q2, q3⟩ := hH.map _ _ hb
  exact ⟨g8 _ q1, a, c, (hsame b (hH.used _ q1)).trans q2, q3⟩
def bys (d : List UInt8) : List AV := d.map fun u => .raw (.int .u8 (u.toNat : Int))
theorem ZnY (d : List UInt8) : (bys d).length = d.length := by simp [bys]
theorem ZqS (d : List UInt8) : ∀ a ∈ bys d, a.one = true := fun a ha => by
 obtain ⟨u, _, rfl⟩ := List.mem_map.1 ha
 rfl
structure Lot (te : Nat) (σ : St) (ds : List (List UInt8)) (hs : List AV) : Prop where
 len : hs.length = ds.length
 at_ : ∀ (j : Nat) (v : AV) (d : List UInt8), hs[j]? = some v -> ds[j]? = some d -> Hd σ te 1 v d.length (bys d)
 far : ∀ (i j : Nat) (u v : AV) (b : Nat), hs[i]? = some u -> hs[j]? = some v -> hbk u = some b -> hbk v = some b -> i = j
section
variable {te : Nat} {σ τ : St} {ds : List (List UInt8)} {hs : List AV}
theorem Lot.nil : Lot te σ [] [] := ⟨rfl, fun j v d h => by simp at h, fun i j u v b h => by simp at h⟩
theorem Lot.but {S : Nat -> Prop} (h : Lot te σ ds hs) (k : But S σ τ) (hS : ∀ (j : Nat) (v : AV) (b : Nat), hs[j]? = some v -> hbk v = some b -> ¬ S b) : Lot te τ ds hs := ⟨h.len, fun j v d hv hd => (h.at_ j v d hv hd).but k fun b hb => hS j v b hv hb, h.far⟩
theorem Lot.ext (h : Lot te σ ds hs) (k : Ext σ τ) : Lot te τ ds hs := h.but (S := fun _ => False) k.but fun _ _ _ _ _ => id
theorem Lot.hd (h : Lot te σ ds hs) {j : Nat} {v : AV} (hv : hs[j]? = some v) : ∃ d, ds[j]? = some d /\ Hd σ te 1 v d.length (bys d) := by
 have hj : j < ds.length := by rw [<- h.len]; exact Zat hv
 exact ⟨ds[j], List.getElem?_eq_getElem hj, h.at_ j v _ hv (List.getElem?_eq_getElem hj)⟩
theorem Lot.used (h : Lot te σ ds hs) {j : Nat} {v : AV} {b : Nat} (hv : hs[j]? = some v) (hb : hbk v = some b) : σ.used b := by
 obtain ⟨d, _, h1⟩ := h.hd hv
 exact h1.used hb
theorem Lot.fresh (h : Lot te σ ds hs) {v : AV} (hn : ∀ b, hbk v = some b -> ¬ σ.used b) : ∀ (j : Nat) (u : AV) (b : Nat), hs[j]? = some u -> hbk u = some b -> hbk v ≠ some b := fun j u b hu hb hv => hn b hv (h.used hu hb)
end
end Go.Proofs.YteempnebenjkmaaGreatDoor
