/- What a place is marked with. -/
import Derived.Test.YtlmmpfbdgiokmaaGreatG0
import Derived.Test.YtlmmpfbdgiokmaaGreatPl
import Derived.Test.YtlmmpfbdgiokmaaGreatAp
namespace Go.Proofs.YtlmmpfbdgiokmaaGreat
open Go.RowKit
set_option linter.unusedSimpArgs false
set_option maxRecDepth 100000
set_option linter.unusedVariables false
theorem b8_any (n : Int) : ∃ u, b8 (IntKind.u8.wrap n) = some u := by
  rw [IntKind.wrap_u8]
  unfold b8 g8
  dsimp only
  rw [if_pos (by omega)]
  exact ⟨_, rfl⟩
theorem watershedkit_markRow_any (k i : Int) : ∃ r, watershedkit_markRow k i = some r := by
  unfold watershedkit_markRow watershedkit_markText
  obtain ⟨u2, h2⟩ := b8_any k
  obtain ⟨u3, h3⟩ := b8_any ((k : Int).fdiv (2 ^ min (8 : Int).toNat (IntKind.i64.bits)))
  obtain ⟨u4, h4⟩ := b8_any ((k : Int).fdiv (2 ^ min (16 : Int).toNat (IntKind.i64.bits)))
  obtain ⟨u6, h6⟩ := b8_any i
  obtain ⟨u7, h7⟩ := b8_any ((i : Int).fdiv (2 ^ min (8 : Int).toNat (IntKind.i64.bits)))
  obtain ⟨u8, h8⟩ := b8_any ((i : Int).fdiv (2 ^ min (16 : Int).toNat (IntKind.i64.bits)))
  exact ⟨_, bindS (bindS rfl (bindS h2 (bindS h3 (bindS h4 (bindS rfl (bindS h6 (bindS h7 (bindS h8 rfl)))))))) rfl⟩
noncomputable def watershedkit_markRow_v (k i : Int) : DRow := match watershedkit_markRow k i with
  | some r => r.1
  | none => ⟨[], []⟩
theorem watershedkit_markRow_vok (k i : Int) : watershedkit_markRow k i = some (watershedkit_markRow_v k i, ()) := by
  unfold watershedkit_markRow_v
  obtain ⟨⟨d, u⟩, h⟩ := watershedkit_markRow_any k i
  rw [h]
theorem watershedkit_markRow_flat (k i : Int) : ∀ v ∈ CT.enc 3 (watershedkit_markRow_v k i), v.flatB = true := by
  intro v hv
  have h : (CT.enc 3 (watershedkit_markRow_v k i)).all XV.flatB = true := rfl
  exact List.all_eq_true.1 h v hv
theorem watershedkit_markRow_vav {N : Nat} {ρ : Nat → AV} {a : AV} {k i : Int} (h : SV CT N ρ (.agg (CT.enc 3 (watershedkit_markRow_v k i))) a) : a = .agg ((CT.enc 3 (watershedkit_markRow_v k i)).map avF) := by
  obtain ⟨as_, rfl, hx⟩ := sv_agg.1 h
  rw [avF_sv (watershedkit_markRow_flat k i) hx]
theorem watershedkit_markRow_vone (k i : Int) : ∀ a ∈ (CT.enc 3 (watershedkit_markRow_v k i)).map avF, a.one = true := avF_one (watershedkit_markRow_flat k i)
theorem watershedkit_markRow_vfit (k i : Int) : fitL [.s, .s] (((CT.enc 3 (watershedkit_markRow_v k i)).map avF).map AV.val) := ⟨⟨_, rfl⟩, ⟨_, rfl⟩, trivial⟩
end Go.Proofs.YtlmmpfbdgiokmaaGreat
