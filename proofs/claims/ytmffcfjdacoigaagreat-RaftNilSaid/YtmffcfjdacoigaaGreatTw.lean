/- Arrays of ours are lent to a call that only reads; rows that a call tells, as arrays. -/
import Derived.Test.YtmffcfjdacoigaaGreatX16
namespace Go.Proofs.YtmffcfjdacoigaaGreat
open Go.RowKit
set_option linter.unusedSimpArgs false
set_option maxRecDepth 100000
set_option linter.unusedVariables false
variable {T : Nat → Type}
def lendC (h : List (HI T)) : XV T → XV T
  | .as E i lo n co => match h[i]? with
    | some (.arr _ E' _ zs) => if hE : E' = E then .sl E (((hE ▸ zs : List (T E)).drop lo).take n) none else .junk
    | _ => .junk
  | v => v
def lendV (h : List (HI T)) : XV T → XV T
  | .agg l => .agg (l.map (lendC h))
  | v => lendC h v
/-- A value without memory. -/
def XV.scal : XV T → Bool
  | .int _ _ | .bool _ | .str _ | .nilptr | .fn _ => true
  | _ => false
def XV.scal2 : XV T → Bool
  | .agg l => l.all XV.scal
  | v => v.scal
def XV.scal3 : XV T → Bool
  | .tup l => l.all XV.scal2
  | v => v.scal2
section
variable {C : Codec T} {P : Program} {N N' : Nat} {ρ ρ' : Nat → AV} {h : List (HI T)} {σ τ : St} {U U0 : Nat → Prop}
theorem scal_sv {v : XV T} {a : AV} (hs : v.scal = true) (h : SV C N ρ v a) : SV C N' ρ' v a ∧ ∀ w B, Valid w B a := by
  cases v with
  | int k n => rw [sv_int.1 h]; exact ⟨sv_int.2 rfl, fun w B => valid_raw _⟩
  | bool b => rw [sv_bool.1 h]; exact ⟨sv_bool.2 rfl, fun w B => valid_raw _⟩
  | str s => rw [sv_str.1 h]; exact ⟨sv_str.2 rfl, fun w B => valid_raw _⟩
  | nilptr => rw [sv_nilptr.1 h]; exact ⟨sv_nilptr.2 rfl, fun w B => valid_raw _⟩
  | fn f => rw [sv_fn.1 h]; exact ⟨sv_fn.2 rfl, fun w B => valid_raw _⟩
  | _ => cases hs
theorem scals_sv : ∀ {l : List (XV T)} {as_ : List AV}, l.all XV.scal = true → SVs C N ρ l as_ → SVs C N' ρ' l as_ ∧ ∀ w B, ∀ a ∈ as_, Valid w B a
  | [], as_, _, h => by rw [SVs_nil.1 h]; exact ⟨.none, by simp⟩
  | v :: l, as_, hs, h => by
    rw [List.all_cons, Bool.and_eq_true] at hs
    obtain ⟨a, bs, rfl, h1, h2⟩ := h.to
    obtain ⟨g1, g2⟩ := scal_sv (N' := N') (ρ' := ρ') hs.1 h1
    obtain ⟨g3, g4⟩ := scals_sv hs.2 h2
    exact ⟨.cons g1 g3, fun w B x hx => by
      rcases List.mem_cons.1 hx with rfl | hx
      · exact g2 w B
      · exact g4 w B x hx⟩
theorem scal2_sv {v : XV T} {a : AV} (hs : v.scal2 = true) (h : SV C N ρ v a) : SV C N' ρ' v a ∧ ∀ w B, Valid w B a := by
  by_cases hv : ∃ l, v = .agg l
  · obtain ⟨l, rfl⟩ := hv
    obtain ⟨ls, rfl, h1⟩ := sv_agg.1 h
    obtain ⟨g1, g2⟩ := scals_sv (N' := N') (ρ' := ρ') hs h1
    exact ⟨sv_agg.2 ⟨ls, rfl, g1⟩, fun w B => by unfold Valid; exact Valids.iff.2 (g2 w B)⟩
  · refine scal_sv ?_ h
    cases v <;> first | exact hs | exact absurd ⟨_, rfl⟩ hv
theorem scals2_sv : ∀ {l : List (XV T)} {as_ : List AV}, l.all XV.scal2 = true → SVs C N ρ l as_ → SVs C N' ρ' l as_ ∧ ∀ w B, ∀ a ∈ as_, Valid w B a
  | [], as_, _, h => by rw [SVs_nil.1 h]; exact ⟨.none, by simp⟩
  | v :: l, as_, hs, h => by
    rw [List.all_cons, Bool.and_eq_true] at hs
    obtain ⟨a, bs, rfl, h1, h2⟩ := h.to
    obtain ⟨g1, g2⟩ := scal2_sv (N' := N') (ρ' := ρ') hs.1 h1
    obtain ⟨g3, g4⟩ := scals2_sv hs.2 h2
    exact ⟨.cons g1 g3, fun w B x hx => by
      rcases List.mem_cons.1 hx with rfl | hx
      · exact g2 w B
      · exact g4 w B x hx⟩
theorem scal3_sv {v : XV T} {a : AV} (hs : v.scal3 = true) (h : SV C N ρ v a) : SV C N' ρ' v a ∧ ∀ w B, Valid w B a := by
  by_cases hv : ∃ l, v = .tup l
  · obtain ⟨l, rfl⟩ := hv
    obtain ⟨ls, rfl, h1⟩ := sv_tup.1 h
    obtain ⟨g1, g2⟩ := scals2_sv (N' := N') (ρ' := ρ') hs h1
    exact ⟨sv_tup.2 ⟨ls, rfl, g1⟩, fun w B => by unfold Valid; exact Valids.iff.2 (g2 w B)⟩
  · refine scal2_sv ?_ h
    cases v <;> first | exact hs | exact absurd ⟨_, rfl⟩ hv
open Classical in
section
variable {n m : Nat}
end
end
end Go.Proofs.YtmffcfjdacoigaaGreat
