/- Arrays of ours are lent to a call that only reads; rows that a call tells, as arrays. -/
import Derived.Test.YtaihdjknneiciaaGreatX16
namespace Go.Proofs.YtaihdjknneiciaaGreat
open Go.RowKit
set_option linter.unusedSimpArgs false
set_option maxRecDepth 100000
set_option linter.unusedVariables false
variable {T : Nat -> Type}
def ZDX (h : List (HI T)) : XV T -> XV T
 | .as E i lo n co => match h[i]? with
  | some (.arr _ E' _ zs) => if hE : E' = E then .sl E (((hE ▸ zs : List (T E)).drop lo).take n) none else .junk
  | _ => .junk
 | v => v
def ZCl (h : List (HI T)) : XV T -> Bool
 | .as E i lo n co => match h[i]? with
  | some (.arr _ E' _ zs) => Nat.beq E' E && Nat.ble (lo + n) zs.length
  | _ => false
 | v => v.closed
def XV.scal : XV T -> Bool
 | .int _ _ | .bool _ | .str _ | .nilptr | .fn _ => true
 | _ => false
section
variable {C : Zaz T} {P : Program} {N N' : Nat} {ρ ρ' : Nat -> AV} {h : List (HI T)} {σ τ : St} {U U0 : Nat -> Prop}
theorem ZDY {v : XV T} {a : AV} (hs : v.scal = true) (h : SV C N ρ v a) : SV C N' ρ' v a /\ ∀ w B, Zaj w B a := by
 cases v with
 | int k n => rw [Zax.1 h]; exact ⟨Zax.2 rfl, fun w B => ZaK _⟩
 | bool b => rw [ZaS.1 h]; exact ⟨ZaS.2 rfl, fun w B => ZaK _⟩
 | str s => rw [ZbM.1 h]; exact ⟨ZbM.2 rfl, fun w B => ZaK _⟩
 | nilptr => rw [Zck.1 h]; exact ⟨Zck.2 rfl, fun w B => ZaK _⟩
 | fn f => rw [Zml.1 h]; exact ⟨Zml.2 rfl, fun w B => ZaK _⟩
 | _ => cases hs
theorem Zui : ∀ {l : List (XV T)} {as_ : List AV}, l.all XV.scal = true -> SVs C N ρ l as_ -> SVs C N' ρ' l as_ /\ ∀ w B, ∀ a ∈ as_, Zaj w B a
 | [], as_, _, h => by rw [Zbq.1 h]; exact ⟨.none, by simp⟩
 | v :: l, as_, hs, h => by
  rw [List.all_cons, Bool.and_eq_true] at hs
  obtain ⟨a, bs, rfl, h1, h2⟩ := h.to
  obtain ⟨g1, g2⟩ := ZDY (N' := N') (ρ' := ρ') hs.1 h1
  obtain ⟨g3, g4⟩ := Zui hs.2 h2
  exact ⟨.cons g1 g3, fun w B x hx => by
   rcases List.mem_cons.1 hx with rfl | hx
   ·exact g2 w B
   ·exact g4 w B x hx⟩
def ZGU (ρ : Nat -> AV) (h : List (HI T)) (b : Nat) : Prop := ∃ i e E kp zs, h[i]? = some (.arr e E kp zs) /\ (ρ i).owns b
theorem ZCm (H : Hp C ρ h σ) {b : Nat} (hb : ZGU ρ h b) : ∃ e cs, σ.blk b = some (.own e cs) /\ σ.used b := by
 obtain ⟨i, e, E, kp, zs, hi, hρ⟩ := hb
 rcases H.it i _ hi with ⟨b', K', pre, rest, h1, h2, h3, h4⟩ | ⟨h1, h2⟩
 ·rw [h1] at hρ; injection hρ with hρ; subst hρ; exact ⟨_, _, h2, h3⟩
 ·rw [h1] at hρ; cases hρ
open Classical in
section
variable {n m : Nat}
end
end
end Go.Proofs.YtaihdjknneiciaaGreat
