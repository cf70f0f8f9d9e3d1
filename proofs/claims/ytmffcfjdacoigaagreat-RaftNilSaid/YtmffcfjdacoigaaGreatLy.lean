/- Blocks of ours are lent to a call that only reads: values as they lie; lists of bytes that lie apart. -/
import Derived.Test.YtmffcfjdacoigaaGreatLe
import Derived.Test.YtmffcfjdacoigaaGreatHw
namespace Go.Proofs.YtmffcfjdacoigaaGreat
open Go.RowKit
set_option linter.unusedSimpArgs false
set_option maxRecDepth 100000
set_option linter.unusedVariables false
section
variable {P : Program} {G : Nat → Prop} {σ τ : St}
/-- What a value is, its blocks lent. -/
def Lends (G : Nat → Prop) (σ : St) (a a' : AV) : Prop := a'.val = a.val ∧ ∀ (w : World) (Z : Nat → Prop), HeapOk w σ Z → Valid w (σ.free Z) a → Valid w ((lentG G σ).free Z) a'
def LendL (G : Nat → Prop) (σ : St) : List AV → List AV → Prop
  | [], [] => True
  | a :: l, b :: m => Lends G σ a b ∧ LendL G σ l m
  | [], _ :: _ => False
  | _ :: _, [] => False
theorem Lends.refl (a : AV) : Lends G σ a a := ⟨rfl, fun w Z _ hv => hv.sub fun b o => lentG_free⟩
theorem LendL.refl : ∀ l : List AV, LendL G σ l l
  | [] => trivial
  | a :: l => ⟨.refl a, LendL.refl l⟩
theorem LendL.len : ∀ {l m : List AV}, LendL G σ l m → m.length = l.length
  | [], [], _ => rfl
  | _ :: _, _ :: _, h => by rw [List.length_cons, List.length_cons, LendL.len h.2]
theorem LendL.vals : ∀ {l m : List AV}, LendL G σ l m → m.map AV.val = l.map AV.val
  | [], [], _ => rfl
  | _ :: _, _ :: _, h => by rw [List.map_cons, List.map_cons, h.1.1, LendL.vals h.2]
theorem LendL.get : ∀ {l m : List AV} {j : Nat} {q : AV}, LendL G σ l m → m[j]? = some q → ∃ p, l[j]? = some p ∧ Lends G σ p q
  | a :: l, b :: m, 0, q, h, hq => by
    injection hq with hq
    subst hq
    exact ⟨a, rfl, h.1⟩
  | a :: l, b :: m, j + 1, q, h, hq => LendL.get (l := l) (m := m) (j := j) h.2 hq
  | [], [], _, q, _, hq => by simp at hq
  | [], _ :: _, _, _, h, _ => h.elim
  | _ :: _, [], _, _, h, _ => h.elim
theorem LendL.valid {w : World} {Z : Nat → Prop} (hH : HeapOk w σ Z) : ∀ {l m : List AV}, LendL G σ l m → (∀ a ∈ l, Valid w (σ.free Z) a) → ∀ a ∈ m, Valid w ((lentG G σ).free Z) a
  | [], [], _, _ => by simp
  | a :: l, b :: m, h, hv => fun x hx => by
    rcases List.mem_cons.1 hx with rfl | hx
    · exact h.1.2 w Z hH (hv a List.mem_cons_self)
    · exact LendL.valid hH h.2 (fun y hy => hv y (List.mem_cons_of_mem _ hy)) x hx
theorem LendL.append : ∀ {l m l' m' : List AV}, LendL G σ l m → LendL G σ l' m' → LendL G σ (l ++ l') (m ++ m')
  | [], [], _, _, _, h => h
  | _ :: _, _ :: _, _, _, h, h' => ⟨h.1, LendL.append h.2 h'⟩
end
/-- Bytes, as they lie. -/
def bys (d : List UInt8) : List AV := d.map fun u => .raw (.int .u8 (u.toNat : Int))
/-- Lists of bytes that lie apart, by their headers. -/
structure Lot (te : Nat) (σ : St) (ds : List (List UInt8)) (hs : List AV) : Prop where
  len : hs.length = ds.length
  at_ : ∀ (j : Nat) (v : AV) (d : List UInt8), hs[j]? = some v → ds[j]? = some d → Hd σ te 1 v d.length (bys d)
  far : ∀ (i j : Nat) (u v : AV) (b : Nat), hs[i]? = some u → hs[j]? = some v → hbk u = some b → hbk v = some b → i = j
section
variable {te : Nat} {σ τ : St} {ds : List (List UInt8)} {hs : List AV}
theorem Lot.nil : Lot te σ [] [] := ⟨rfl, fun j v d h => by simp at h, fun i j u v b h => by simp at h⟩
theorem Lot.but {S : Nat → Prop} (h : Lot te σ ds hs) (k : But S σ τ) (hS : ∀ (j : Nat) (v : AV) (b : Nat), hs[j]? = some v → hbk v = some b → ¬ S b) : Lot te τ ds hs := ⟨h.len, fun j v d hv hd => (h.at_ j v d hv hd).but k fun b hb => hS j v b hv hb, h.far⟩
theorem Lot.ext (h : Lot te σ ds hs) (k : Ext σ τ) : Lot te τ ds hs := h.but (S := fun _ => False) k.but fun _ _ _ _ _ => id
theorem Lot.hd (h : Lot te σ ds hs) {j : Nat} {v : AV} (hv : hs[j]? = some v) : ∃ d, ds[j]? = some d ∧ Hd σ te 1 v d.length (bys d) := by
  have hj : j < ds.length := by rw [← h.len]; exact lt_of_get hv
  exact ⟨ds[j], List.getElem?_eq_getElem hj, h.at_ j v _ hv (List.getElem?_eq_getElem hj)⟩
theorem Lot.used (h : Lot te σ ds hs) {j : Nat} {v : AV} {b : Nat} (hv : hs[j]? = some v) (hb : hbk v = some b) : σ.used b := by
  obtain ⟨d, _, h1⟩ := h.hd hv
  exact h1.used hb
theorem Lot.fresh (h : Lot te σ ds hs) {v : AV} (hn : ∀ b, hbk v = some b → ¬ σ.used b) : ∀ (j : Nat) (u : AV) (b : Nat), hs[j]? = some u → hbk u = some b → hbk v ≠ some b := fun j u b hu hb hv => hn b hv (h.used hu hb)
end
end Go.Proofs.YtmffcfjdacoigaaGreat
