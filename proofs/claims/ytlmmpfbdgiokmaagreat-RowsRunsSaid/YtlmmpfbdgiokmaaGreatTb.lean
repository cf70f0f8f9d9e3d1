/- Typed data, by program. -/
import Derived.Test.YtlmmpfbdgiokmaaGreatBr
import Derived.Test.YtlmmpfbdgiokmaaGreatChecked
namespace Go.Proofs.YtlmmpfbdgiokmaaGreat
open Go.RowKit
set_option maxRecDepth 100000
set_option linter.unusedVariables false
structure DRow where
  key : List UInt8
  value : List UInt8
  deriving DecidableEq
structure DSpan where
  lo : List UInt8
  hi : List UInt8
  deriving DecidableEq
structure DDeed where
  kind : Int
  rows : List (DRow)
  span : DSpan
  deriving DecidableEq
structure DText where
  s : List UInt8
  deriving DecidableEq
structure DLow where
  text : DText
  deriving DecidableEq
structure DHigh where
  text : DText
  deriving DecidableEq
structure DRows where
  l : List (DRow)
  deriving DecidableEq
@[reducible] def Ty : Nat → Type
  | 0 => Int
  | 1 => UInt8
  | 2 => List UInt8
  | 3 => DRow
  | 4 => List (DRow)
  | 5 => DSpan
  | 6 => DDeed
  | 7 => DText
  | 8 => DLow
  | 9 => DHigh
  | 10 => DRows
  | 11 => List (DDeed)
  | 12 => List (List UInt8)
  | _ => Unit
abbrev X := XV Ty
def szT : Nat → Nat
  | 0 => 1
  | 1 => 1
  | 2 => 1
  | 3 => 2
  | 4 => 1
  | 5 => 2
  | 6 => 4
  | 7 => 1
  | 8 => 1
  | 9 => 1
  | 10 => 1
  | 11 => 1
  | 12 => 1
  | _ => 1
def encT : (E : Nat) → Ty E → List X
  | 0, x => [.int .i64 x]
  | 1, x => [.int .u8 (x.toNat : Int)]
  | 2, x => [.str x]
  | 3, x => [.str x.key, .str x.value]
  | 4, x => [.sl 3 x none]
  | 5, x => [.str x.lo, .str x.hi]
  | 6, x => [.int .i64 x.kind, .sl 3 x.rows none, .str x.span.lo, .str x.span.hi]
  | 7, x => [.str x.s]
  | 8, x => [.str x.text.s]
  | 9, x => [.str x.text.s]
  | 10, x => [.sl 3 x.l none]
  | 11, x => [.sl 6 x none]
  | 12, x => [.sl 2 x none]
  | E, _ => List.replicate (szT E) (.bool true)
def gI (k : IntKind) (v : X) : Option Int := match v with
  | .int k' n => if k' = k then some n else none
  | _ => none
def g8 (v : X) : Option UInt8 := match v with
  | .int .u8 n => if 0 ≤ n ∧ n < 256 then some (UInt8.ofNat n.toNat) else none
  | _ => none
def gB (v : X) : Option Bool := match v with
  | .bool b => some b
  | _ => none
def gS (v : X) : Option (List UInt8) := match v with
  | .str b => some b
  | _ => none
def gL (E : Nat) (v : X) : Option (List (Ty E)) := match v with
  | .sl E' xs _ => if h : E' = E then some (h ▸ xs) else none
  | .nil => some []
  | .slx E' xs _ => if h : E' = E then some (h ▸ xs) else none
  | _ => none
theorem gI_wk {k : IntKind} {v : X} {n : Int} (h : gI k v = some n) : Wk v (.int k n) := by
  unfold gI at h
  split at h
  · split at h
    · rename_i e; subst e; injection h with h; subst h; exact .same _
    · cases h
  · cases h
theorem g8_wk {v : X} {n : UInt8} (h : g8 v = some n) : Wk v (.int .u8 (n.toNat : Int)) := by
  unfold g8 at h
  split at h
  · split at h
    · rename_i m hr; injection h with h; subst h
      have : ((UInt8.ofNat m.toNat).toNat : Int) = m := by simp; omega
      rw [this]; exact .same _
    · cases h
  · cases h
theorem gB_wk {v : X} {b : Bool} (h : gB v = some b) : Wk v (.bool b) := by
  unfold gB at h
  split at h
  · injection h with h; subst h; exact .same _
  · cases h
theorem gS_wk {v : X} {b : List UInt8} (h : gS v = some b) : Wk v (.str b) := by
  unfold gS at h
  split at h
  · injection h with h; subst h; exact .same _
  · cases h
theorem gL_wk {E : Nat} {v : X} {xs : List (Ty E)} (h : gL E v = some xs) : Wk v (.sl E xs none) := by
  unfold gL at h
  split at h
  · split at h
    · rename_i o e; subst e; injection h with h; subst h
      cases o with
      | none => exact .same _
      | some r => exact .drop _ _ _
    · cases h
  · injection h with h; subst h; exact .nil _
  · split at h
    · rename_i e; subst e; injection h with h; subst h; exact .spare _ _ _
    · cases h
  · cases h
def decT : (E : Nat) → List X → Option (Ty E)
  | 0, [v0] => (gI .i64 v0).bind fun a0 => some a0
  | 1, [v0] => (g8 v0).bind fun a0 => some a0
  | 2, [v0] => (gS v0).bind fun a0 => some a0
  | 3, [v0, v1] => (gS v0).bind fun a0 => (gS v1).bind fun a1 => some ⟨a0, a1⟩
  | 4, [v0] => (gL 3 v0).bind fun a0 => some a0
  | 5, [v0, v1] => (gS v0).bind fun a0 => (gS v1).bind fun a1 => some ⟨a0, a1⟩
  | 6, [v0, v1, v2, v3] => (gI .i64 v0).bind fun a0 => (gL 3 v1).bind fun a1 => (gS v2).bind fun a2 => (gS v3).bind fun a3 => some ⟨a0, a1, ⟨a2, a3⟩⟩
  | 7, [v0] => (gS v0).bind fun a0 => some ⟨a0⟩
  | 8, [v0] => (gS v0).bind fun a0 => some ⟨⟨a0⟩⟩
  | 9, [v0] => (gS v0).bind fun a0 => some ⟨⟨a0⟩⟩
  | 10, [v0] => (gL 3 v0).bind fun a0 => some ⟨a0⟩
  | 11, [v0] => (gL 6 v0).bind fun a0 => some a0
  | 12, [v0] => (gL 2 v0).bind fun a0 => some a0
  | _, _ => none
def codeT : Nat → Option Nat
  | 3 => some 0
  | 5 => some 1
  | 9 => some 2
  | 22 => some 11
  | 23 => some 12
  | 29 => some 4
  | 31 => some 10
  | 36 => some 5
  | 38 => some 6
  | 48 => some 3
  | 238 => some 7
  | 240 => some 8
  | 241 => some 9
  | _ => none
theorem back_T : ∀ (E : Nat) (l : List X) (x : Ty E), decT E l = some x → Wks l (encT E x) := by
  intro E l x h
  unfold decT at h
  split at h
  · obtain ⟨a0, h0, h⟩ := bind_some' h
    injection h with h; subst h
    exact .cons (gI_wk h0) (.nil)
  · obtain ⟨a0, h0, h⟩ := bind_some' h
    injection h with h; subst h
    exact .cons (g8_wk h0) (.nil)
  · obtain ⟨a0, h0, h⟩ := bind_some' h
    injection h with h; subst h
    exact .cons (gS_wk h0) (.nil)
  · obtain ⟨a0, h0, h⟩ := bind_some' h
    obtain ⟨a1, h1, h⟩ := bind_some' h
    injection h with h; subst h
    exact .cons (gS_wk h0) (.cons (gS_wk h1) (.nil))
  · obtain ⟨a0, h0, h⟩ := bind_some' h
    injection h with h; subst h
    exact .cons (gL_wk h0) (.nil)
  · obtain ⟨a0, h0, h⟩ := bind_some' h
    obtain ⟨a1, h1, h⟩ := bind_some' h
    injection h with h; subst h
    exact .cons (gS_wk h0) (.cons (gS_wk h1) (.nil))
  · obtain ⟨a0, h0, h⟩ := bind_some' h
    obtain ⟨a1, h1, h⟩ := bind_some' h
    obtain ⟨a2, h2, h⟩ := bind_some' h
    obtain ⟨a3, h3, h⟩ := bind_some' h
    injection h with h; subst h
    exact .cons (gI_wk h0) (.cons (gL_wk h1) (.cons (gS_wk h2) (.cons (gS_wk h3) (.nil))))
  · obtain ⟨a0, h0, h⟩ := bind_some' h
    injection h with h; subst h
    exact .cons (gS_wk h0) (.nil)
  · obtain ⟨a0, h0, h⟩ := bind_some' h
    injection h with h; subst h
    exact .cons (gS_wk h0) (.nil)
  · obtain ⟨a0, h0, h⟩ := bind_some' h
    injection h with h; subst h
    exact .cons (gS_wk h0) (.nil)
  · obtain ⟨a0, h0, h⟩ := bind_some' h
    injection h with h; subst h
    exact .cons (gL_wk h0) (.nil)
  · obtain ⟨a0, h0, h⟩ := bind_some' h
    injection h with h; subst h
    exact .cons (gL_wk h0) (.nil)
  · obtain ⟨a0, h0, h⟩ := bind_some' h
    injection h with h; subst h
    exact .cons (gL_wk h0) (.nil)
  · cases h
def bytT : (E : Nat) → List (Ty E) → Option (List UInt8)
  | 1, xs => some xs
  | _, _ => none
theorem enc_b1 : ∀ xs : List UInt8, xs.flatMap (encT 1) = xs.map fun b => XV.int .u8 (b.toNat : Int)
  | [] => rfl
  | x :: xs => by rw [List.flatMap_cons, enc_b1 xs]; rfl
def unbT : (E : Nat) → List UInt8 → Option (List (Ty E))
  | 1, xs => some xs
  | _, _ => none
def CT : Codec Ty where
  unb := unbT
  unb_ok := by
    intro E bs xs h
    unfold unbT at h
    split at h
    · injection h with h; subst h; exact enc_b1 _
    · cases h
  unb_len := by
    intro E bs xs h
    unfold unbT at h
    split at h
    · injection h with h; subst h; rfl
    · cases h
  byt := bytT
  byt_ok := by
    intro E xs bs h
    unfold bytT at h
    split at h
    · injection h with h; subst h; exact enc_b1 _
    · cases h
  byt_sz := by
    intro E xs bs h
    unfold bytT at h
    split at h
    · rfl
    · cases h
  enc := encT
  dec := decT
  sz := szT
  code := codeT
  full := fun E => Nat.beq E 3
  len := by intro E x; unfold encT; split <;> first | rfl | exact List.length_replicate
  pos := by intro E; unfold szT; split <;> decide
  shut := by
    intro E x v hv
    have key : ∀ l : List X, (l.all XV.closed) = true → v ∈ l → v.closed = true := fun l h1 h2 => List.all_eq_true.1 h1 v h2
    unfold encT at hv
    split at hv
    all_goals first | (rw [List.eq_of_mem_replicate hv]; rfl) | exact key _ rfl hv
  back := back_T
def b8 (n : Int) : Option UInt8 := (g8 (.int .u8 n)).bind fun a0 => some a0
theorem mixedP : Tryz.prog.follows .mixedOrders = true := by kernel_rfl
def ok_Ii64 (x : Int) : Prop := InK .i64 x
def ok_UInt8 (x : UInt8) : Prop := True
def ok_ListUInt8 (x : List UInt8) : Prop := x.length ≤ 140737488355328
def ok_DRow (x : DRow) : Prop := ok_ListUInt8 x.key ∧ ok_ListUInt8 x.value ∧ True
def ok_LDRow (x : List (DRow)) : Prop := OkL 32 ok_DRow x
def ok_DSpan (x : DSpan) : Prop := ok_ListUInt8 x.lo ∧ ok_ListUInt8 x.hi ∧ True
def ok_DDeed (x : DDeed) : Prop := ok_Ii64 x.kind ∧ ok_LDRow x.rows ∧ ok_DSpan x.span ∧ True
def ok_DText (x : DText) : Prop := ok_ListUInt8 x.s ∧ True
def ok_DLow (x : DLow) : Prop := ok_DText x.text ∧ True
def ok_DHigh (x : DHigh) : Prop := ok_DText x.text ∧ True
def ok_DRows (x : DRows) : Prop := ok_LDRow x.l ∧ True
def ok_LDDeed (x : List (DDeed)) : Prop := OkL 64 ok_DDeed x
def ok_LListUInt8 (x : List (List UInt8)) : Prop := OkL 16 ok_ListUInt8 x
theorem fit_0 : ∀ ds, FitsAll [.i .i64] ds → (∀ d ∈ ds, Small d) → ∃ x : Ty 0, DXs CT (CT.enc 0 x) ds ∧ ok_Ii64 x := by
  intro ds h hs
  obtain ⟨d0, ds0, rfl, f0, h⟩ := fitsAll_cons h
  obtain rfl := fitsAll_nil h
  obtain ⟨a0, rfl, k0⟩ := fits_i f0
  exact ⟨a0, .int _ _ (.none), k0⟩
theorem fit_1 : ∀ ds, FitsAll [.i .u8] ds → (∀ d ∈ ds, Small d) → ∃ x : Ty 1, DXs CT (CT.enc 1 x) ds ∧ ok_UInt8 x := by
  intro ds h hs
  obtain ⟨d0, ds0, rfl, f0, h⟩ := fitsAll_cons h
  obtain rfl := fitsAll_nil h
  obtain ⟨a0, rfl⟩ := fits_byte f0
  exact ⟨a0, .int _ _ (.none), trivial⟩
theorem fit_2 : ∀ ds, FitsAll [.s] ds → (∀ d ∈ ds, Small d) → ∃ x : Ty 2, DXs CT (CT.enc 2 x) ds ∧ ok_ListUInt8 x := by
  intro ds h hs
  obtain ⟨d0, ds0, rfl, f0, h⟩ := fitsAll_cons h
  obtain rfl := fitsAll_nil h
  obtain ⟨a0, rfl, k0⟩ := fits_s f0
  exact ⟨a0, .str _ (.none), k0⟩
theorem fit_3 : ∀ ds, FitsAll [.s, .s] ds → (∀ d ∈ ds, Small d) → ∃ x : Ty 3, DXs CT (CT.enc 3 x) ds ∧ ok_DRow x := by
  intro ds h hs
  obtain ⟨d0, ds0, rfl, f0, h⟩ := fitsAll_cons h
  obtain ⟨d1, ds1, rfl, f1, h⟩ := fitsAll_cons h
  obtain rfl := fitsAll_nil h
  obtain ⟨a0, rfl, k0⟩ := fits_s f0
  obtain ⟨a1, rfl, k1⟩ := fits_s f1
  exact ⟨⟨a0, a1⟩, .str _ (.str _ (.none)), ⟨k0, k1, trivial⟩⟩
theorem fit_4 : ∀ ds, FitsAll [.l [.s, .s]] ds → (∀ d ∈ ds, Small d) → ∃ x : Ty 4, DXs CT (CT.enc 4 x) ds ∧ ok_LDRow x := by
  intro ds h hs
  obtain ⟨d0, ds0, rfl, f0, h⟩ := fitsAll_cons h
  obtain rfl := fitsAll_nil h
  obtain ⟨a0, es0, rfl, q0, k0⟩ := fits_sl fit_3 rfl f0 (hs _ (by simp))
  exact ⟨a0, .sl _ _ _ q0 (.none), k0⟩
theorem fit_5 : ∀ ds, FitsAll [.s, .s] ds → (∀ d ∈ ds, Small d) → ∃ x : Ty 5, DXs CT (CT.enc 5 x) ds ∧ ok_DSpan x := by
  intro ds h hs
  obtain ⟨d0, ds0, rfl, f0, h⟩ := fitsAll_cons h
  obtain ⟨d1, ds1, rfl, f1, h⟩ := fitsAll_cons h
  obtain rfl := fitsAll_nil h
  obtain ⟨a0, rfl, k0⟩ := fits_s f0
  obtain ⟨a1, rfl, k1⟩ := fits_s f1
  exact ⟨⟨a0, a1⟩, .str _ (.str _ (.none)), ⟨k0, k1, trivial⟩⟩
theorem fit_6 : ∀ ds, FitsAll [.i .i64, .l [.s, .s], .s, .s] ds → (∀ d ∈ ds, Small d) → ∃ x : Ty 6, DXs CT (CT.enc 6 x) ds ∧ ok_DDeed x := by
  intro ds h hs
  obtain ⟨d0, ds0, rfl, f0, h⟩ := fitsAll_cons h
  obtain ⟨d1, ds1, rfl, f1, h⟩ := fitsAll_cons h
  obtain ⟨d2, ds2, rfl, f2, h⟩ := fitsAll_cons h
  obtain ⟨d3, ds3, rfl, f3, h⟩ := fitsAll_cons h
  obtain rfl := fitsAll_nil h
  obtain ⟨a0, rfl, k0⟩ := fits_i f0
  obtain ⟨a1, es1, rfl, q1, k1⟩ := fits_sl fit_3 rfl f1 (hs _ (by simp))
  obtain ⟨a2, rfl, k2⟩ := fits_s f2
  obtain ⟨a3, rfl, k3⟩ := fits_s f3
  exact ⟨⟨a0, a1, ⟨a2, a3⟩⟩, .int _ _ (.sl _ _ _ q1 (.str _ (.str _ (.none)))), ⟨k0, k1, ⟨k2, k3, trivial⟩, trivial⟩⟩
theorem fit_7 : ∀ ds, FitsAll [.s] ds → (∀ d ∈ ds, Small d) → ∃ x : Ty 7, DXs CT (CT.enc 7 x) ds ∧ ok_DText x := by
  intro ds h hs
  obtain ⟨d0, ds0, rfl, f0, h⟩ := fitsAll_cons h
  obtain rfl := fitsAll_nil h
  obtain ⟨a0, rfl, k0⟩ := fits_s f0
  exact ⟨⟨a0⟩, .str _ (.none), ⟨k0, trivial⟩⟩
theorem fit_8 : ∀ ds, FitsAll [.s] ds → (∀ d ∈ ds, Small d) → ∃ x : Ty 8, DXs CT (CT.enc 8 x) ds ∧ ok_DLow x := by
  intro ds h hs
  obtain ⟨d0, ds0, rfl, f0, h⟩ := fitsAll_cons h
  obtain rfl := fitsAll_nil h
  obtain ⟨a0, rfl, k0⟩ := fits_s f0
  exact ⟨⟨⟨a0⟩⟩, .str _ (.none), ⟨⟨k0, trivial⟩, trivial⟩⟩
theorem fit_9 : ∀ ds, FitsAll [.s] ds → (∀ d ∈ ds, Small d) → ∃ x : Ty 9, DXs CT (CT.enc 9 x) ds ∧ ok_DHigh x := by
  intro ds h hs
  obtain ⟨d0, ds0, rfl, f0, h⟩ := fitsAll_cons h
  obtain rfl := fitsAll_nil h
  obtain ⟨a0, rfl, k0⟩ := fits_s f0
  exact ⟨⟨⟨a0⟩⟩, .str _ (.none), ⟨⟨k0, trivial⟩, trivial⟩⟩
theorem fit_10 : ∀ ds, FitsAll [.l [.s, .s]] ds → (∀ d ∈ ds, Small d) → ∃ x : Ty 10, DXs CT (CT.enc 10 x) ds ∧ ok_DRows x := by
  intro ds h hs
  obtain ⟨d0, ds0, rfl, f0, h⟩ := fitsAll_cons h
  obtain rfl := fitsAll_nil h
  obtain ⟨a0, es0, rfl, q0, k0⟩ := fits_sl fit_3 rfl f0 (hs _ (by simp))
  exact ⟨⟨a0⟩, .sl _ _ _ q0 (.none), ⟨k0, trivial⟩⟩
theorem fit_11 : ∀ ds, FitsAll [.l [.i .i64, .l [.s, .s], .s, .s]] ds → (∀ d ∈ ds, Small d) → ∃ x : Ty 11, DXs CT (CT.enc 11 x) ds ∧ ok_LDDeed x := by
  intro ds h hs
  obtain ⟨d0, ds0, rfl, f0, h⟩ := fitsAll_cons h
  obtain rfl := fitsAll_nil h
  obtain ⟨a0, es0, rfl, q0, k0⟩ := fits_sl fit_6 rfl f0 (hs _ (by simp))
  exact ⟨a0, .sl _ _ _ q0 (.none), k0⟩
theorem fit_12 : ∀ ds, FitsAll [.l [.s]] ds → (∀ d ∈ ds, Small d) → ∃ x : Ty 12, DXs CT (CT.enc 12 x) ds ∧ ok_LListUInt8 x := by
  intro ds h hs
  obtain ⟨d0, ds0, rfl, f0, h⟩ := fitsAll_cons h
  obtain rfl := fitsAll_nil h
  obtain ⟨a0, es0, rfl, q0, k0⟩ := fits_sl fit_2 rfl f0 (hs _ (by simp))
  exact ⟨a0, .sl _ _ _ q0 (.none), k0⟩
end Go.Proofs.YtlmmpfbdgiokmaaGreat
