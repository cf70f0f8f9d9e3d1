/- What a place is marked with. -/
import Derived.Test.YtlmmpfbdgiokmaaGreatG0
import Derived.Test.YtlmmpfbdgiokmaaGreatPl
import Derived.Test.YtlmmpfbdgiokmaaGreatAp
namespace Go.Proofs.YtlmmpfbdgiokmaaGreat
open Go.RowKit
set_option linter.unusedSimpArgs false
set_option maxRecDepth 100000
set_option linter.unusedVariables false
theorem Zoo (n : Int) : ∃ u, b8 (IntKind.u8.wrap n) = some u := by
 rw [IntKind.wrap_u8]
 unfold b8 g8
 dsimp only
 rw [if_pos (by omega)]
 exact ⟨_, rfl⟩
theorem Zic (k i : Int) : ∃ r, ZaJ k i = some r := by
 unfold ZaJ Zdi
 obtain ⟨u2, h2⟩ := Zoo k
 obtain ⟨u3, h3⟩ := Zoo ((k : Int).fdiv (2 ^ min (8 : Int).toNat (IntKind.i64.bits)))
 obtain ⟨u4, h4⟩ := Zoo ((k : Int).fdiv (2 ^ min (16 : Int).toNat (IntKind.i64.bits)))
 obtain ⟨u6, h6⟩ := Zoo i
 obtain ⟨u7, h7⟩ := Zoo ((i : Int).fdiv (2 ^ min (8 : Int).toNat (IntKind.i64.bits)))
 obtain ⟨u8, h8⟩ := Zoo ((i : Int).fdiv (2 ^ min (16 : Int).toNat (IntKind.i64.bits)))
 exact ⟨_, Zab (Zab rfl (Zab h2 (Zab h3 (Zab h4 (Zab rfl (Zab h6 (Zab h7 (Zab h8 rfl)))))))) rfl⟩
noncomputable def ZaF (k i : Int) : Zae := match ZaJ k i with
 | some r => r.1
 | none => ⟨[], []⟩
theorem Zid (k i : Int) : ZaJ k i = some (ZaF k i, ()) := by
 unfold ZaF
 obtain ⟨⟨d, u⟩, h⟩ := Zic k i
 rw [h]
theorem ZeL (k i : Int) : ∀ v ∈ CT.enc 3 (ZaF k i), v.flatB = true := by
 intro v hv
 have h : (CT.enc 3 (ZaF k i)).all XV.flatB = true := rfl
 exact List.all_eq_true.1 h v hv
theorem Zie {N : Nat} {ρ : Nat -> AV} {a : AV} {k i : Int} (h : SV CT N ρ (.agg (CT.enc 3 (ZaF k i))) a) : a = .agg ((CT.enc 3 (ZaF k i)).map avF) := by
 obtain ⟨as_, rfl, hx⟩ := Zfi.1 h
 rw [ZAj (ZeL k i) hx]
theorem ZhJ (k i : Int) : ∀ a ∈ (CT.enc 3 (ZaF k i)).map avF, a.one = true := ZBh (ZeL k i)
theorem ZhK (k i : Int) : ZnO [.s, .s] (((CT.enc 3 (ZaF k i)).map avF).map AV.val) := ⟨⟨_, rfl⟩, ⟨_, rfl⟩, trivial⟩
end Go.Proofs.YtlmmpfbdgiokmaaGreat
