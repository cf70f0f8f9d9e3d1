/- Typed data, by program. -/
import Derived.Test.YtcamfdmgpmdmhaaGreatBr
import Derived.Test.YtcamfdmgpmdmhaaGreatChecked
namespace Go.Proofs.YtcamfdmgpmdmhaaGreat
open Go.RowKit
set_option maxRecDepth 100000
set_option linter.unusedVariables false
structure DSpan where
  lo : List UInt8
  hi : List UInt8
  deriving DecidableEq
structure DShare where
  span : DSpan
  group : Int
  epoch : Int
  deriving DecidableEq
structure DScheme where
  num : Int
  span : DSpan
  from_ : Int
  to_ : Int
  epoch : Int
  under : Int
  stage : Int
  deriving DecidableEq
structure DShares where
  epoch : Int
  list : List (DShare)
  deriving DecidableEq
structure DWork where
  shares : DShares
  deriving DecidableEq
structure DText where
  s : List UInt8
  deriving DecidableEq
structure DLow where
  text : DText
  deriving DecidableEq
structure DHigh where
  text : DText
  deriving DecidableEq
structure DWork2 where
  scheme : DScheme
  deriving DecidableEq
structure DPlace where
  made : Bool
  failed : Bool
  left : List (UInt8)
  deriving DecidableEq
structure DReader where
  place : DPlace
  deriving DecidableEq
structure DReader2 where
  left : List (UInt8)
  failed : Bool
  deriving DecidableEq
@[reducible] def Ty : Nat → Type
  | 0 => Int
  | 1 => UInt8
  | 2 => List UInt8
  | 3 => List (List UInt8)
  | 4 => DSpan
  | 5 => DShare
  | 6 => DShare
  | 7 => DShare
  | 8 => Int
  | 9 => DScheme
  | 10 => List (DShare)
  | 11 => DShares
  | 12 => DWork
  | 13 => DText
  | 14 => DLow
  | 15 => DHigh
  | 16 => DWork2
  | 17 => List (UInt8)
  | 18 => Bool
  | 19 => DPlace
  | 20 => DReader
  | 21 => DReader2
  | _ => Unit
abbrev X := XV Ty
def szT : Nat → Nat
  | 0 => 1
  | 1 => 1
  | 2 => 1
  | 3 => 1
  | 4 => 2
  | 5 => 4
  | 6 => 4
  | 7 => 4
  | 8 => 1
  | 9 => 8
  | 10 => 1
  | 11 => 2
  | 12 => 2
  | 13 => 1
  | 14 => 1
  | 15 => 1
  | 16 => 8
  | 17 => 1
  | 18 => 1
  | 19 => 3
  | 20 => 3
  | 21 => 2
  | _ => 1
def encT : (E : Nat) → Ty E → List X
  | 0, x => [.int .i64 x]
  | 1, x => [.int .u8 (x.toNat : Int)]
  | 2, x => [.str x]
  | 3, x => [.sl 2 x none]
  | 4, x => [.str x.lo, .str x.hi]
  | 5, x => [.str x.span.lo, .str x.span.hi, .int .i64 x.group, .int .i64 x.epoch]
  | 6, x => [.str x.span.lo, .str x.span.hi, .int .i64 x.group, .int .i64 x.epoch]
  | 7, x => [.str x.span.lo, .str x.span.hi, .int .i64 x.group, .int .i64 x.epoch]
  | 8, x => [.int .u8 x]
  | 9, x => [.int .i64 x.num, .str x.span.lo, .str x.span.hi, .int .i64 x.from_, .int .i64 x.to_, .int .i64 x.epoch, .int .i64 x.under, .int .u8 x.stage]
  | 10, x => [.sl 5 x none]
  | 11, x => [.int .i64 x.epoch, .sl 5 x.list none]
  | 12, x => [.int .i64 x.shares.epoch, .sl 5 x.shares.list none]
  | 13, x => [.str x.s]
  | 14, x => [.str x.text.s]
  | 15, x => [.str x.text.s]
  | 16, x => [.int .i64 x.scheme.num, .str x.scheme.span.lo, .str x.scheme.span.hi, .int .i64 x.scheme.from_, .int .i64 x.scheme.to_, .int .i64 x.scheme.epoch, .int .i64 x.scheme.under, .int .u8 x.scheme.stage]
  | 17, x => [.sl 1 x none]
  | 18, x => [.bool x]
  | 19, x => [.bool x.made, .bool x.failed, .sl 1 x.left none]
  | 20, x => [.bool x.place.made, .bool x.place.failed, .sl 1 x.place.left none]
  | 21, x => [.sl 1 x.left none, .bool x.failed]
  | E, _ => List.replicate (szT E) (.bool true)
def gI (k : IntKind) (v : X) : Option Int := match v with
  | .int k' n => if k' = k then some n else none
  | _ => none
def g8 (v : X) : Option UInt8 := match v with
  | .int .u8 n => if 0 ≤ n ∧ n < 256 then some (UInt8.ofNat n.toNat) else none
  | _ => none
def gB (v : X) : Option Bool := match v with
  | .bool b => some b
  | _ => none
def gS (v : X) : Option (List UInt8) := match v with
  | .str b => some b
  | _ => none
def gL (E : Nat) (v : X) : Option (List (Ty E)) := match v with
  | .sl E' xs _ => if h : E' = E then some (h ▸ xs) else none
  | .nil => some []
  | .slx E' xs _ => if h : E' = E then some (h ▸ xs) else none
  | _ => none
theorem gI_wk {k : IntKind} {v : X} {n : Int} (h : gI k v = some n) : Wk v (.int k n) := by
  unfold gI at h
  split at h
  · split at h
    · rename_i e; subst e; injection h with h; subst h; exact .same _
    · cases h
  · cases h
theorem g8_wk {v : X} {n : UInt8} (h : g8 v = some n) : Wk v (.int .u8 (n.toNat : Int)) := by
  unfold g8 at h
  split at h
  · split at h
    · rename_i m hr; injection h with h; subst h
      have : ((UInt8.ofNat m.toNat).toNat : Int) = m := by simp; omega
      rw [this]; exact .same _
    · cases h
  · cases h
theorem gB_wk {v : X} {b : Bool} (h : gB v = some b) : Wk v (.bool b) := by
  unfold gB at h
  split at h
  · injection h with h; subst h; exact .same _
  · cases h
theorem gS_wk {v : X} {b : List UInt8} (h : gS v = some b) : Wk v (.str b) := by
  unfold gS at h
  split at h
  · injection h with h; subst h; exact .same _
  · cases h
theorem gL_wk {E : Nat} {v : X} {xs : List (Ty E)} (h : gL E v = some xs) : Wk v (.sl E xs none) := by
  unfold gL at h
  split at h
  · split at h
    · rename_i o e; subst e; injection h with h; subst h
      cases o with
      | none => exact .same _
      | some r => exact .drop _ _ _
    · cases h
  · injection h with h; subst h; exact .nil _
  · split at h
    · rename_i e; subst e; injection h with h; subst h; exact .spare _ _ _
    · cases h
  · cases h
def decT : (E : Nat) → List X → Option (Ty E)
  | 0, [v0] => (gI .i64 v0).bind fun a0 => some a0
  | 1, [v0] => (g8 v0).bind fun a0 => some a0
  | 2, [v0] => (gS v0).bind fun a0 => some a0
  | 3, [v0] => (gL 2 v0).bind fun a0 => some a0
  | 4, [v0, v1] => (gS v0).bind fun a0 => (gS v1).bind fun a1 => some ⟨a0, a1⟩
  | 5, [v0, v1, v2, v3] => (gS v0).bind fun a0 => (gS v1).bind fun a1 => (gI .i64 v2).bind fun a2 => (gI .i64 v3).bind fun a3 => some ⟨⟨a0, a1⟩, a2, a3⟩
  | 6, [v0, v1, v2, v3] => (gS v0).bind fun a0 => (gS v1).bind fun a1 => (gI .i64 v2).bind fun a2 => (gI .i64 v3).bind fun a3 => some ⟨⟨a0, a1⟩, a2, a3⟩
  | 7, [v0, v1, v2, v3] => (gS v0).bind fun a0 => (gS v1).bind fun a1 => (gI .i64 v2).bind fun a2 => (gI .i64 v3).bind fun a3 => some ⟨⟨a0, a1⟩, a2, a3⟩
  | 8, [v0] => (gI .u8 v0).bind fun a0 => some a0
  | 9, [v0, v1, v2, v3, v4, v5, v6, v7] => (gI .i64 v0).bind fun a0 => (gS v1).bind fun a1 => (gS v2).bind fun a2 => (gI .i64 v3).bind fun a3 => (gI .i64 v4).bind fun a4 => (gI .i64 v5).bind fun a5 => (gI .i64 v6).bind fun a6 => (gI .u8 v7).bind fun a7 => some ⟨a0, ⟨a1, a2⟩, a3, a4, a5, a6, a7⟩
  | 10, [v0] => (gL 5 v0).bind fun a0 => some a0
  | 11, [v0, v1] => (gI .i64 v0).bind fun a0 => (gL 5 v1).bind fun a1 => some ⟨a0, a1⟩
  | 12, [v0, v1] => (gI .i64 v0).bind fun a0 => (gL 5 v1).bind fun a1 => some ⟨⟨a0, a1⟩⟩
  | 13, [v0] => (gS v0).bind fun a0 => some ⟨a0⟩
  | 14, [v0] => (gS v0).bind fun a0 => some ⟨⟨a0⟩⟩
  | 15, [v0] => (gS v0).bind fun a0 => some ⟨⟨a0⟩⟩
  | 16, [v0, v1, v2, v3, v4, v5, v6, v7] => (gI .i64 v0).bind fun a0 => (gS v1).bind fun a1 => (gS v2).bind fun a2 => (gI .i64 v3).bind fun a3 => (gI .i64 v4).bind fun a4 => (gI .i64 v5).bind fun a5 => (gI .i64 v6).bind fun a6 => (gI .u8 v7).bind fun a7 => some ⟨⟨a0, ⟨a1, a2⟩, a3, a4, a5, a6, a7⟩⟩
  | 17, [v0] => (gL 1 v0).bind fun a0 => some a0
  | 18, [v0] => (gB v0).bind fun a0 => some a0
  | 19, [v0, v1, v2] => (gB v0).bind fun a0 => (gB v1).bind fun a1 => (gL 1 v2).bind fun a2 => some ⟨a0, a1, a2⟩
  | 20, [v0, v1, v2] => (gB v0).bind fun a0 => (gB v1).bind fun a1 => (gL 1 v2).bind fun a2 => some ⟨⟨a0, a1, a2⟩⟩
  | 21, [v0, v1] => (gL 1 v0).bind fun a0 => (gB v1).bind fun a1 => some ⟨a0, a1⟩
  | _, _ => none
def codeT : Nat → Option Nat
  | 3 => some 0
  | 4 => some 18
  | 5 => some 1
  | 9 => some 2
  | 23 => some 4
  | 24 => some 1
  | 26 => some 9
  | 27 => some 10
  | 29 => some 11
  | 46 => some 17
  | 60 => some 21
  | 71 => some 5
  | 79 => some 16
  | 99 => some 3
  | 101 => some 19
  | 103 => some 20
  | 111 => some 12
  | 136 => some 13
  | 138 => some 14
  | 139 => some 15
  | _ => none
theorem back_T : ∀ (E : Nat) (l : List X) (x : Ty E), decT E l = some x → Wks l (encT E x) := by
  intro E l x h
  unfold decT at h
  split at h
  · obtain ⟨a0, h0, h⟩ := bind_some' h
    injection h with h; subst h
    exact .cons (gI_wk h0) (.nil)
  · obtain ⟨a0, h0, h⟩ := bind_some' h
    injection h with h; subst h
    exact .cons (g8_wk h0) (.nil)
  · obtain ⟨a0, h0, h⟩ := bind_some' h
    injection h with h; subst h
    exact .cons (gS_wk h0) (.nil)
  · obtain ⟨a0, h0, h⟩ := bind_some' h
    injection h with h; subst h
    exact .cons (gL_wk h0) (.nil)
  · obtain ⟨a0, h0, h⟩ := bind_some' h
    obtain ⟨a1, h1, h⟩ := bind_some' h
    injection h with h; subst h
    exact .cons (gS_wk h0) (.cons (gS_wk h1) (.nil))
  · obtain ⟨a0, h0, h⟩ := bind_some' h
    obtain ⟨a1, h1, h⟩ := bind_some' h
    obtain ⟨a2, h2, h⟩ := bind_some' h
    obtain ⟨a3, h3, h⟩ := bind_some' h
    injection h with h; subst h
    exact .cons (gS_wk h0) (.cons (gS_wk h1) (.cons (gI_wk h2) (.cons (gI_wk h3) (.nil))))
  · obtain ⟨a0, h0, h⟩ := bind_some' h
    obtain ⟨a1, h1, h⟩ := bind_some' h
    obtain ⟨a2, h2, h⟩ := bind_some' h
    obtain ⟨a3, h3, h⟩ := bind_some' h
    injection h with h; subst h
    exact .cons (gS_wk h0) (.cons (gS_wk h1) (.cons (gI_wk h2) (.cons (gI_wk h3) (.nil))))
  · obtain ⟨a0, h0, h⟩ := bind_some' h
    obtain ⟨a1, h1, h⟩ := bind_some' h
    obtain ⟨a2, h2, h⟩ := bind_some' h
    obtain ⟨a3, h3, h⟩ := bind_some' h
    injection h with h; subst h
    exact .cons (gS_wk h0) (.cons (gS_wk h1) (.cons (gI_wk h2) (.cons (gI_wk h3) (.nil))))
  · obtain ⟨a0, h0, h⟩ := bind_some' h
    injection h with h; subst h
    exact .cons (gI_wk h0) (.nil)
  · obtain ⟨a0, h0, h⟩ := bind_some' h
    obtain ⟨a1, h1, h⟩ := bind_some' h
    obtain ⟨a2, h2, h⟩ := bind_some' h
    obtain ⟨a3, h3, h⟩ := bind_some' h
    obtain ⟨a4, h4, h⟩ := bind_some' h
    obtain ⟨a5, h5, h⟩ := bind_some' h
    obtain ⟨a6, h6, h⟩ := bind_some' h
    obtain ⟨a7, h7, h⟩ := bind_some' h
    injection h with h; subst h
    exact .cons (gI_wk h0) (.cons (gS_wk h1) (.cons (gS_wk h2) (.cons (gI_wk h3) (.cons (gI_wk h4) (.cons (gI_wk h5) (.cons (gI_wk h6) (.cons (gI_wk h7) (.nil))))))))
  · obtain ⟨a0, h0, h⟩ := bind_some' h
    injection h with h; subst h
    exact .cons (gL_wk h0) (.nil)
  · obtain ⟨a0, h0, h⟩ := bind_some' h
    obtain ⟨a1, h1, h⟩ := bind_some' h
    injection h with h; subst h
    exact .cons (gI_wk h0) (.cons (gL_wk h1) (.nil))
  · obtain ⟨a0, h0, h⟩ := bind_some' h
    obtain ⟨a1, h1, h⟩ := bind_some' h
    injection h with h; subst h
    exact .cons (gI_wk h0) (.cons (gL_wk h1) (.nil))
  · obtain ⟨a0, h0, h⟩ := bind_some' h
    injection h with h; subst h
    exact .cons (gS_wk h0) (.nil)
  · obtain ⟨a0, h0, h⟩ := bind_some' h
    injection h with h; subst h
    exact .cons (gS_wk h0) (.nil)
  · obtain ⟨a0, h0, h⟩ := bind_some' h
    injection h with h; subst h
    exact .cons (gS_wk h0) (.nil)
  · obtain ⟨a0, h0, h⟩ := bind_some' h
    obtain ⟨a1, h1, h⟩ := bind_some' h
    obtain ⟨a2, h2, h⟩ := bind_some' h
    obtain ⟨a3, h3, h⟩ := bind_some' h
    obtain ⟨a4, h4, h⟩ := bind_some' h
    obtain ⟨a5, h5, h⟩ := bind_some' h
    obtain ⟨a6, h6, h⟩ := bind_some' h
    obtain ⟨a7, h7, h⟩ := bind_some' h
    injection h with h; subst h
    exact .cons (gI_wk h0) (.cons (gS_wk h1) (.cons (gS_wk h2) (.cons (gI_wk h3) (.cons (gI_wk h4) (.cons (gI_wk h5) (.cons (gI_wk h6) (.cons (gI_wk h7) (.nil))))))))
  · obtain ⟨a0, h0, h⟩ := bind_some' h
    injection h with h; subst h
    exact .cons (gL_wk h0) (.nil)
  · obtain ⟨a0, h0, h⟩ := bind_some' h
    injection h with h; subst h
    exact .cons (gB_wk h0) (.nil)
  · obtain ⟨a0, h0, h⟩ := bind_some' h
    obtain ⟨a1, h1, h⟩ := bind_some' h
    obtain ⟨a2, h2, h⟩ := bind_some' h
    injection h with h; subst h
    exact .cons (gB_wk h0) (.cons (gB_wk h1) (.cons (gL_wk h2) (.nil)))
  · obtain ⟨a0, h0, h⟩ := bind_some' h
    obtain ⟨a1, h1, h⟩ := bind_some' h
    obtain ⟨a2, h2, h⟩ := bind_some' h
    injection h with h; subst h
    exact .cons (gB_wk h0) (.cons (gB_wk h1) (.cons (gL_wk h2) (.nil)))
  · obtain ⟨a0, h0, h⟩ := bind_some' h
    obtain ⟨a1, h1, h⟩ := bind_some' h
    injection h with h; subst h
    exact .cons (gL_wk h0) (.cons (gB_wk h1) (.nil))
  · cases h
def bytT : (E : Nat) → List (Ty E) → Option (List UInt8)
  | 1, xs => some xs
  | _, _ => none
theorem enc_b1 : ∀ xs : List UInt8, xs.flatMap (encT 1) = xs.map fun b => XV.int .u8 (b.toNat : Int)
  | [] => rfl
  | x :: xs => by rw [List.flatMap_cons, enc_b1 xs]; rfl
def unbT : (E : Nat) → List UInt8 → Option (List (Ty E))
  | 1, xs => some xs
  | _, _ => none
def CT : Codec Ty where
  unb := unbT
  unb_ok := by
    intro E bs xs h
    unfold unbT at h
    split at h
    · injection h with h; subst h; exact enc_b1 _
    · cases h
  unb_len := by
    intro E bs xs h
    unfold unbT at h
    split at h
    · injection h with h; subst h; rfl
    · cases h
  byt := bytT
  byt_ok := by
    intro E xs bs h
    unfold bytT at h
    split at h
    · injection h with h; subst h; exact enc_b1 _
    · cases h
  byt_sz := by
    intro E xs bs h
    unfold bytT at h
    split at h
    · rfl
    · cases h
  enc := encT
  dec := decT
  sz := szT
  code := codeT
  full := fun E => Nat.beq E 6
  scr := fun E => Nat.beq E 7
  len := by intro E x; unfold encT; split <;> first | rfl | exact List.length_replicate
  pos := by intro E; unfold szT; split <;> decide
  shut := by
    intro E x v hv
    have key : ∀ l : List X, (l.all XV.closed) = true → v ∈ l → v.closed = true := fun l h1 h2 => List.all_eq_true.1 h1 v h2
    unfold encT at hv
    split at hv
    all_goals first | (rw [List.eq_of_mem_replicate hv]; rfl) | exact key _ rfl hv
  back := back_T
def b8 (n : Int) : Option UInt8 := (g8 (.int .u8 n)).bind fun a0 => some a0
theorem mixedP : Tryz.prog.follows .mixedOrders = true := by kernel_rfl
def ok_Ii64 (x : Int) : Prop := InK .i64 x
def ok_UInt8 (x : UInt8) : Prop := True
def ok_ListUInt8 (x : List UInt8) : Prop := x.length ≤ 140737488355328
def ok_LListUInt8 (x : List (List UInt8)) : Prop := OkL 16 ok_ListUInt8 x
def ok_DSpan (x : DSpan) : Prop := ok_ListUInt8 x.lo ∧ ok_ListUInt8 x.hi ∧ True
def ok_DShare (x : DShare) : Prop := ok_DSpan x.span ∧ ok_Ii64 x.group ∧ ok_Ii64 x.epoch ∧ True
def ok_Iu8 (x : Int) : Prop := InK .u8 x
def ok_DScheme (x : DScheme) : Prop := ok_Ii64 x.num ∧ ok_DSpan x.span ∧ ok_Ii64 x.from_ ∧ ok_Ii64 x.to_ ∧ ok_Ii64 x.epoch ∧ ok_Ii64 x.under ∧ ok_Iu8 x.stage ∧ True
def ok_LDShare (x : List (DShare)) : Prop := OkL 48 ok_DShare x
def ok_DShares (x : DShares) : Prop := ok_Ii64 x.epoch ∧ ok_LDShare x.list ∧ True
def ok_DWork (x : DWork) : Prop := ok_DShares x.shares ∧ True
def ok_DText (x : DText) : Prop := ok_ListUInt8 x.s ∧ True
def ok_DLow (x : DLow) : Prop := ok_DText x.text ∧ True
def ok_DHigh (x : DHigh) : Prop := ok_DText x.text ∧ True
def ok_DWork2 (x : DWork2) : Prop := ok_DScheme x.scheme ∧ True
def ok_LUInt8 (x : List (UInt8)) : Prop := OkL 1 ok_UInt8 x
def ok_Bool (x : Bool) : Prop := True
def ok_DPlace (x : DPlace) : Prop := ok_Bool x.made ∧ ok_Bool x.failed ∧ ok_LUInt8 x.left ∧ True
def ok_DReader (x : DReader) : Prop := ok_DPlace x.place ∧ True
def ok_DReader2 (x : DReader2) : Prop := ok_LUInt8 x.left ∧ ok_Bool x.failed ∧ True
theorem fit_1 : ∀ ds, FitsAll [.i .u8] ds → (∀ d ∈ ds, Small d) → ∃ x : Ty 1, DXs CT (CT.enc 1 x) ds ∧ ok_UInt8 x := by
  intro ds h hs
  obtain ⟨d0, ds0, rfl, f0, h⟩ := fitsAll_cons h
  obtain rfl := fitsAll_nil h
  obtain ⟨a0, rfl⟩ := fits_byte f0
  exact ⟨a0, .int _ _ (.none), trivial⟩
theorem fit_9 : ∀ ds, FitsAll [.i .i64, .s, .s, .i .i64, .i .i64, .i .i64, .i .i64, .i .u8] ds → (∀ d ∈ ds, Small d) → ∃ x : Ty 9, DXs CT (CT.enc 9 x) ds ∧ ok_DScheme x := by
  intro ds h hs
  obtain ⟨d0, ds0, rfl, f0, h⟩ := fitsAll_cons h
  obtain ⟨d1, ds1, rfl, f1, h⟩ := fitsAll_cons h
  obtain ⟨d2, ds2, rfl, f2, h⟩ := fitsAll_cons h
  obtain ⟨d3, ds3, rfl, f3, h⟩ := fitsAll_cons h
  obtain ⟨d4, ds4, rfl, f4, h⟩ := fitsAll_cons h
  obtain ⟨d5, ds5, rfl, f5, h⟩ := fitsAll_cons h
  obtain ⟨d6, ds6, rfl, f6, h⟩ := fitsAll_cons h
  obtain ⟨d7, ds7, rfl, f7, h⟩ := fitsAll_cons h
  obtain rfl := fitsAll_nil h
  obtain ⟨a0, rfl, k0⟩ := fits_i f0
  obtain ⟨a1, rfl, k1⟩ := fits_s f1
  obtain ⟨a2, rfl, k2⟩ := fits_s f2
  obtain ⟨a3, rfl, k3⟩ := fits_i f3
  obtain ⟨a4, rfl, k4⟩ := fits_i f4
  obtain ⟨a5, rfl, k5⟩ := fits_i f5
  obtain ⟨a6, rfl, k6⟩ := fits_i f6
  obtain ⟨a7, rfl, k7⟩ := fits_i f7
  exact ⟨⟨a0, ⟨a1, a2⟩, a3, a4, a5, a6, a7⟩, .int _ _ (.str _ (.str _ (.int _ _ (.int _ _ (.int _ _ (.int _ _ (.int _ _ (.none)))))))), ⟨k0, ⟨k1, k2, trivial⟩, k3, k4, k5, k6, k7, trivial⟩⟩
theorem fit_17 : ∀ ds, FitsAll [.l [.i .u8]] ds → (∀ d ∈ ds, Small d) → ∃ x : Ty 17, DXs CT (CT.enc 17 x) ds ∧ ok_LUInt8 x := by
  intro ds h hs
  obtain ⟨d0, ds0, rfl, f0, h⟩ := fitsAll_cons h
  obtain rfl := fitsAll_nil h
  obtain ⟨a0, es0, rfl, q0, k0⟩ := fits_sl fit_1 rfl f0 (hs _ (by simp))
  exact ⟨a0, .sl _ _ _ q0 (.none), k0⟩
end Go.Proofs.YtcamfdmgpmdmhaaGreat
