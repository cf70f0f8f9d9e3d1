/- Typed data, by program. -/
import Derived.Test.YtaihdjknneiciaaGreatBr
import Derived.Test.YtaihdjknneiciaaGreatChecked
namespace Go.Proofs.YtaihdjknneiciaaGreat
open Go.RowKit
set_option maxRecDepth 100000
set_option linter.unusedVariables false
set_option maxHeartbeats 4000000
structure DSpan where
  lo : List UInt8
  hi : List UInt8
  deriving DecidableEq
structure DShare where
  span : DSpan
  group : Int
  epoch : Int
  deriving DecidableEq
structure DName where
  client : Int
  num : Int
  deriving DecidableEq
structure DRead where
  key : List UInt8
  is : Bool
  value : List UInt8
  deriving DecidableEq
structure DVerdict where
  name : DName
  commit : Bool
  at_ : Int
  reads : List (DRead)
  deriving DecidableEq
structure DDeed where
  kind : Int
  span : DSpan
  to_ : Int
  num : Int
  stage : Int
  verdict : DVerdict
  deriving DecidableEq
structure DShares where
  epoch : Int
  list : List (DShare)
  deriving DecidableEq
structure DWork where
  shares : DShares
  deriving DecidableEq
structure DText where
  s : List UInt8
  deriving DecidableEq
structure DLow where
  text : DText
  deriving DecidableEq
structure DHigh where
  text : DText
  deriving DecidableEq
structure DScheme where
  num : Int
  span : DSpan
  from_ : Int
  to_ : Int
  epoch : Int
  under : Int
  stage : Int
  deriving DecidableEq
structure DPlan where
  shares : DShares
  under : Bool
  x : DScheme
  deriving DecidableEq
structure DWork2 where
  scheme : DScheme
  deriving DecidableEq
structure DPlace where
  made : Bool
  failed : Bool
  left : List (UInt8)
  deriving DecidableEq
structure DReader where
  place : DPlace
  deriving DecidableEq
@[reducible] def Ty : Nat → Type
  | 0 => Int
  | 1 => UInt8
  | 2 => List UInt8
  | 3 => List (List UInt8)
  | 4 => DSpan
  | 5 => DShare
  | 6 => DShare
  | 7 => Int
  | 8 => DName
  | 9 => Bool
  | 10 => DRead
  | 11 => List (DRead)
  | 12 => DVerdict
  | 13 => DDeed
  | 14 => List (DShare)
  | 15 => DShares
  | 16 => DWork
  | 17 => DText
  | 18 => DLow
  | 19 => DHigh
  | 20 => DScheme
  | 21 => DPlan
  | 22 => DWork2
  | 23 => List (UInt8)
  | 24 => DPlace
  | 25 => DReader
  | 26 => List (DDeed)
  | _ => Unit
abbrev X := XV Ty
def szT : Nat → Nat
  | 0 => 1
  | 1 => 1
  | 2 => 1
  | 3 => 1
  | 4 => 2
  | 5 => 4
  | 6 => 4
  | 7 => 1
  | 8 => 2
  | 9 => 1
  | 10 => 3
  | 11 => 1
  | 12 => 5
  | 13 => 11
  | 14 => 1
  | 15 => 2
  | 16 => 2
  | 17 => 1
  | 18 => 1
  | 19 => 1
  | 20 => 8
  | 21 => 11
  | 22 => 8
  | 23 => 1
  | 24 => 3
  | 25 => 3
  | 26 => 1
  | _ => 1
def encT : (E : Nat) → Ty E → List X
  | 0, x => [.int .i64 x]
  | 1, x => [.int .u8 (x.toNat : Int)]
  | 2, x => [.str x]
  | 3, x => [.sl 2 x none]
  | 4, x => [.str x.lo, .str x.hi]
  | 5, x => [.str x.span.lo, .str x.span.hi, .int .i64 x.group, .int .i64 x.epoch]
  | 6, x => [.str x.span.lo, .str x.span.hi, .int .i64 x.group, .int .i64 x.epoch]
  | 7, x => [.int .u8 x]
  | 8, x => [.int .i64 x.client, .int .i64 x.num]
  | 9, x => [.bool x]
  | 10, x => [.str x.key, .bool x.is, .str x.value]
  | 11, x => [.sl 10 x none]
  | 12, x => [.int .i64 x.name.client, .int .i64 x.name.num, .bool x.commit, .int .i64 x.at_, .sl 10 x.reads none]
  | 13, x => [.int .i64 x.kind, .str x.span.lo, .str x.span.hi, .int .i64 x.to_, .int .i64 x.num, .int .u8 x.stage, .int .i64 x.verdict.name.client, .int .i64 x.verdict.name.num, .bool x.verdict.commit, .int .i64 x.verdict.at_, .sl 10 x.verdict.reads none]
  | 14, x => [.sl 5 x none]
  | 15, x => [.int .i64 x.epoch, .sl 5 x.list none]
  | 16, x => [.int .i64 x.shares.epoch, .sl 5 x.shares.list none]
  | 17, x => [.str x.s]
  | 18, x => [.str x.text.s]
  | 19, x => [.str x.text.s]
  | 20, x => [.int .i64 x.num, .str x.span.lo, .str x.span.hi, .int .i64 x.from_, .int .i64 x.to_, .int .i64 x.epoch, .int .i64 x.under, .int .u8 x.stage]
  | 21, x => [.int .i64 x.shares.epoch, .sl 5 x.shares.list none, .bool x.under, .int .i64 x.x.num, .str x.x.span.lo, .str x.x.span.hi, .int .i64 x.x.from_, .int .i64 x.x.to_, .int .i64 x.x.epoch, .int .i64 x.x.under, .int .u8 x.x.stage]
  | 22, x => [.int .i64 x.scheme.num, .str x.scheme.span.lo, .str x.scheme.span.hi, .int .i64 x.scheme.from_, .int .i64 x.scheme.to_, .int .i64 x.scheme.epoch, .int .i64 x.scheme.under, .int .u8 x.scheme.stage]
  | 23, x => [.sl 1 x none]
  | 24, x => [.bool x.made, .bool x.failed, .sl 1 x.left none]
  | 25, x => [.bool x.place.made, .bool x.place.failed, .sl 1 x.place.left none]
  | 26, x => [.sl 13 x none]
  | E, _ => List.replicate (szT E) (.bool true)
def gI (k : IntKind) (v : X) : Option Int := match v with
  | .int k' n => if k' = k then some n else none
  | _ => none
def g8 (v : X) : Option UInt8 := match v with
  | .int .u8 n => if 0 ≤ n ∧ n < 256 then some (UInt8.ofNat n.toNat) else none
  | _ => none
def gB (v : X) : Option Bool := match v with
  | .bool b => some b
  | _ => none
def gS (v : X) : Option (List UInt8) := match v with
  | .str b => some b
  | _ => none
def gL (E : Nat) (v : X) : Option (List (Ty E)) := match v with
  | .sl E' xs _ => if h : E' = E then some (h ▸ xs) else none
  | .nil => some []
  | .slx E' xs _ => if h : E' = E then some (h ▸ xs) else none
  | _ => none
theorem gI_wk {k : IntKind} {v : X} {n : Int} (h : gI k v = some n) : Wk v (.int k n) := by
  unfold gI at h
  split at h
  · split at h
    · rename_i e; subst e; injection h with h; subst h; exact .same _
    · cases h
  · cases h
theorem g8_wk {v : X} {n : UInt8} (h : g8 v = some n) : Wk v (.int .u8 (n.toNat : Int)) := by
  unfold g8 at h
  split at h
  · split at h
    · rename_i m hr; injection h with h; subst h
      have : ((UInt8.ofNat m.toNat).toNat : Int) = m := by simp; omega
      rw [this]; exact .same _
    · cases h
  · cases h
theorem gB_wk {v : X} {b : Bool} (h : gB v = some b) : Wk v (.bool b) := by
  unfold gB at h
  split at h
  · injection h with h; subst h; exact .same _
  · cases h
theorem gS_wk {v : X} {b : List UInt8} (h : gS v = some b) : Wk v (.str b) := by
  unfold gS at h
  split at h
  · injection h with h; subst h; exact .same _
  · cases h
theorem gL_wk {E : Nat} {v : X} {xs : List (Ty E)} (h : gL E v = some xs) : Wk v (.sl E xs none) := by
  unfold gL at h
  split at h
  · split at h
    · rename_i o e; subst e; injection h with h; subst h
      cases o with
      | none => exact .same _
      | some r => exact .drop _ _ _
    · cases h
  · injection h with h; subst h; exact .nil _
  · split at h
    · rename_i e; subst e; injection h with h; subst h; exact .spare _ _ _
    · cases h
  · cases h
def decT : (E : Nat) → List X → Option (Ty E)
  | 0, [v0] => (gI .i64 v0).bind fun a0 => some a0
  | 1, [v0] => (g8 v0).bind fun a0 => some a0
  | 2, [v0] => (gS v0).bind fun a0 => some a0
  | 3, [v0] => (gL 2 v0).bind fun a0 => some a0
  | 4, [v0, v1] => (gS v0).bind fun a0 => (gS v1).bind fun a1 => some ⟨a0, a1⟩
  | 5, [v0, v1, v2, v3] => (gS v0).bind fun a0 => (gS v1).bind fun a1 => (gI .i64 v2).bind fun a2 => (gI .i64 v3).bind fun a3 => some ⟨⟨a0, a1⟩, a2, a3⟩
  | 6, [v0, v1, v2, v3] => (gS v0).bind fun a0 => (gS v1).bind fun a1 => (gI .i64 v2).bind fun a2 => (gI .i64 v3).bind fun a3 => some ⟨⟨a0, a1⟩, a2, a3⟩
  | 7, [v0] => (gI .u8 v0).bind fun a0 => some a0
  | 8, [v0, v1] => (gI .i64 v0).bind fun a0 => (gI .i64 v1).bind fun a1 => some ⟨a0, a1⟩
  | 9, [v0] => (gB v0).bind fun a0 => some a0
  | 10, [v0, v1, v2] => (gS v0).bind fun a0 => (gB v1).bind fun a1 => (gS v2).bind fun a2 => some ⟨a0, a1, a2⟩
  | 11, [v0] => (gL 10 v0).bind fun a0 => some a0
  | 12, [v0, v1, v2, v3, v4] => (gI .i64 v0).bind fun a0 => (gI .i64 v1).bind fun a1 => (gB v2).bind fun a2 => (gI .i64 v3).bind fun a3 => (gL 10 v4).bind fun a4 => some ⟨⟨a0, a1⟩, a2, a3, a4⟩
  | 13, [v0, v1, v2, v3, v4, v5, v6, v7, v8, v9, v10] => (gI .i64 v0).bind fun a0 => (gS v1).bind fun a1 => (gS v2).bind fun a2 => (gI .i64 v3).bind fun a3 => (gI .i64 v4).bind fun a4 => (gI .u8 v5).bind fun a5 => (gI .i64 v6).bind fun a6 => (gI .i64 v7).bind fun a7 => (gB v8).bind fun a8 => (gI .i64 v9).bind fun a9 => (gL 10 v10).bind fun a10 => some ⟨a0, ⟨a1, a2⟩, a3, a4, a5, ⟨⟨a6, a7⟩, a8, a9, a10⟩⟩
  | 14, [v0] => (gL 5 v0).bind fun a0 => some a0
  | 15, [v0, v1] => (gI .i64 v0).bind fun a0 => (gL 5 v1).bind fun a1 => some ⟨a0, a1⟩
  | 16, [v0, v1] => (gI .i64 v0).bind fun a0 => (gL 5 v1).bind fun a1 => some ⟨⟨a0, a1⟩⟩
  | 17, [v0] => (gS v0).bind fun a0 => some ⟨a0⟩
  | 18, [v0] => (gS v0).bind fun a0 => some ⟨⟨a0⟩⟩
  | 19, [v0] => (gS v0).bind fun a0 => some ⟨⟨a0⟩⟩
  | 20, [v0, v1, v2, v3, v4, v5, v6, v7] => (gI .i64 v0).bind fun a0 => (gS v1).bind fun a1 => (gS v2).bind fun a2 => (gI .i64 v3).bind fun a3 => (gI .i64 v4).bind fun a4 => (gI .i64 v5).bind fun a5 => (gI .i64 v6).bind fun a6 => (gI .u8 v7).bind fun a7 => some ⟨a0, ⟨a1, a2⟩, a3, a4, a5, a6, a7⟩
  | 21, [v0, v1, v2, v3, v4, v5, v6, v7, v8, v9, v10] => (gI .i64 v0).bind fun a0 => (gL 5 v1).bind fun a1 => (gB v2).bind fun a2 => (gI .i64 v3).bind fun a3 => (gS v4).bind fun a4 => (gS v5).bind fun a5 => (gI .i64 v6).bind fun a6 => (gI .i64 v7).bind fun a7 => (gI .i64 v8).bind fun a8 => (gI .i64 v9).bind fun a9 => (gI .u8 v10).bind fun a10 => some ⟨⟨a0, a1⟩, a2, ⟨a3, ⟨a4, a5⟩, a6, a7, a8, a9, a10⟩⟩
  | 22, [v0, v1, v2, v3, v4, v5, v6, v7] => (gI .i64 v0).bind fun a0 => (gS v1).bind fun a1 => (gS v2).bind fun a2 => (gI .i64 v3).bind fun a3 => (gI .i64 v4).bind fun a4 => (gI .i64 v5).bind fun a5 => (gI .i64 v6).bind fun a6 => (gI .u8 v7).bind fun a7 => some ⟨⟨a0, ⟨a1, a2⟩, a3, a4, a5, a6, a7⟩⟩
  | 23, [v0] => (gL 1 v0).bind fun a0 => some a0
  | 24, [v0, v1, v2] => (gB v0).bind fun a0 => (gB v1).bind fun a1 => (gL 1 v2).bind fun a2 => some ⟨a0, a1, a2⟩
  | 25, [v0, v1, v2] => (gB v0).bind fun a0 => (gB v1).bind fun a1 => (gL 1 v2).bind fun a2 => some ⟨⟨a0, a1, a2⟩⟩
  | 26, [v0] => (gL 13 v0).bind fun a0 => some a0
  | _, _ => none
def codeT : Nat → Option Nat
  | 3 => some 0
  | 4 => some 9
  | 5 => some 1
  | 9 => some 2
  | 22 => some 26
  | 27 => some 14
  | 29 => some 15
  | 35 => some 4
  | 36 => some 1
  | 38 => some 8
  | 39 => some 11
  | 41 => some 12
  | 43 => some 13
  | 48 => some 23
  | 71 => some 20
  | 84 => some 3
  | 99 => some 5
  | 107 => some 21
  | 168 => some 24
  | 170 => some 25
  | 188 => some 16
  | 247 => some 10
  | 252 => some 22
  | 262 => some 17
  | 264 => some 18
  | 265 => some 19
  | _ => none
theorem back_T : ∀ (E : Nat) (l : List X) (x : Ty E), decT E l = some x → Wks l (encT E x) := by
  intro E l x h
  unfold decT at h
  split at h
  · obtain ⟨a0, h0, h⟩ := bind_some' h
    injection h with h; subst h
    exact .cons (gI_wk h0) (.nil)
  · obtain ⟨a0, h0, h⟩ := bind_some' h
    injection h with h; subst h
    exact .cons (g8_wk h0) (.nil)
  · obtain ⟨a0, h0, h⟩ := bind_some' h
    injection h with h; subst h
    exact .cons (gS_wk h0) (.nil)
  · obtain ⟨a0, h0, h⟩ := bind_some' h
    injection h with h; subst h
    exact .cons (gL_wk h0) (.nil)
  · obtain ⟨a0, h0, h⟩ := bind_some' h
    obtain ⟨a1, h1, h⟩ := bind_some' h
    injection h with h; subst h
    exact .cons (gS_wk h0) (.cons (gS_wk h1) (.nil))
  · obtain ⟨a0, h0, h⟩ := bind_some' h
    obtain ⟨a1, h1, h⟩ := bind_some' h
    obtain ⟨a2, h2, h⟩ := bind_some' h
    obtain ⟨a3, h3, h⟩ := bind_some' h
    injection h with h; subst h
    exact .cons (gS_wk h0) (.cons (gS_wk h1) (.cons (gI_wk h2) (.cons (gI_wk h3) (.nil))))
  · obtain ⟨a0, h0, h⟩ := bind_some' h
    obtain ⟨a1, h1, h⟩ := bind_some' h
    obtain ⟨a2, h2, h⟩ := bind_some' h
    obtain ⟨a3, h3, h⟩ := bind_some' h
    injection h with h; subst h
    exact .cons (gS_wk h0) (.cons (gS_wk h1) (.cons (gI_wk h2) (.cons (gI_wk h3) (.nil))))
  · obtain ⟨a0, h0, h⟩ := bind_some' h
    injection h with h; subst h
    exact .cons (gI_wk h0) (.nil)
  · obtain ⟨a0, h0, h⟩ := bind_some' h
    obtain ⟨a1, h1, h⟩ := bind_some' h
    injection h with h; subst h
    exact .cons (gI_wk h0) (.cons (gI_wk h1) (.nil))
  · obtain ⟨a0, h0, h⟩ := bind_some' h
    injection h with h; subst h
    exact .cons (gB_wk h0) (.nil)
  · obtain ⟨a0, h0, h⟩ := bind_some' h
    obtain ⟨a1, h1, h⟩ := bind_some' h
    obtain ⟨a2, h2, h⟩ := bind_some' h
    injection h with h; subst h
    exact .cons (gS_wk h0) (.cons (gB_wk h1) (.cons (gS_wk h2) (.nil)))
  · obtain ⟨a0, h0, h⟩ := bind_some' h
    injection h with h; subst h
    exact .cons (gL_wk h0) (.nil)
  · obtain ⟨a0, h0, h⟩ := bind_some' h
    obtain ⟨a1, h1, h⟩ := bind_some' h
    obtain ⟨a2, h2, h⟩ := bind_some' h
    obtain ⟨a3, h3, h⟩ := bind_some' h
    obtain ⟨a4, h4, h⟩ := bind_some' h
    injection h with h; subst h
    exact .cons (gI_wk h0) (.cons (gI_wk h1) (.cons (gB_wk h2) (.cons (gI_wk h3) (.cons (gL_wk h4) (.nil)))))
  · obtain ⟨a0, h0, h⟩ := bind_some' h
    obtain ⟨a1, h1, h⟩ := bind_some' h
    obtain ⟨a2, h2, h⟩ := bind_some' h
    obtain ⟨a3, h3, h⟩ := bind_some' h
    obtain ⟨a4, h4, h⟩ := bind_some' h
    obtain ⟨a5, h5, h⟩ := bind_some' h
    obtain ⟨a6, h6, h⟩ := bind_some' h
    obtain ⟨a7, h7, h⟩ := bind_some' h
    obtain ⟨a8, h8, h⟩ := bind_some' h
    obtain ⟨a9, h9, h⟩ := bind_some' h
    obtain ⟨a10, h10, h⟩ := bind_some' h
    injection h with h; subst h
    exact .cons (gI_wk h0) (.cons (gS_wk h1) (.cons (gS_wk h2) (.cons (gI_wk h3) (.cons (gI_wk h4) (.cons (gI_wk h5) (.cons (gI_wk h6) (.cons (gI_wk h7) (.cons (gB_wk h8) (.cons (gI_wk h9) (.cons (gL_wk h10) (.nil)))))))))))
  · obtain ⟨a0, h0, h⟩ := bind_some' h
    injection h with h; subst h
    exact .cons (gL_wk h0) (.nil)
  · obtain ⟨a0, h0, h⟩ := bind_some' h
    obtain ⟨a1, h1, h⟩ := bind_some' h
    injection h with h; subst h
    exact .cons (gI_wk h0) (.cons (gL_wk h1) (.nil))
  · obtain ⟨a0, h0, h⟩ := bind_some' h
    obtain ⟨a1, h1, h⟩ := bind_some' h
    injection h with h; subst h
    exact .cons (gI_wk h0) (.cons (gL_wk h1) (.nil))
  · obtain ⟨a0, h0, h⟩ := bind_some' h
    injection h with h; subst h
    exact .cons (gS_wk h0) (.nil)
  · obtain ⟨a0, h0, h⟩ := bind_some' h
    injection h with h; subst h
    exact .cons (gS_wk h0) (.nil)
  · obtain ⟨a0, h0, h⟩ := bind_some' h
    injection h with h; subst h
    exact .cons (gS_wk h0) (.nil)
  · obtain ⟨a0, h0, h⟩ := bind_some' h
    obtain ⟨a1, h1, h⟩ := bind_some' h
    obtain ⟨a2, h2, h⟩ := bind_some' h
    obtain ⟨a3, h3, h⟩ := bind_some' h
    obtain ⟨a4, h4, h⟩ := bind_some' h
    obtain ⟨a5, h5, h⟩ := bind_some' h
    obtain ⟨a6, h6, h⟩ := bind_some' h
    obtain ⟨a7, h7, h⟩ := bind_some' h
    injection h with h; subst h
    exact .cons (gI_wk h0) (.cons (gS_wk h1) (.cons (gS_wk h2) (.cons (gI_wk h3) (.cons (gI_wk h4) (.cons (gI_wk h5) (.cons (gI_wk h6) (.cons (gI_wk h7) (.nil))))))))
  · obtain ⟨a0, h0, h⟩ := bind_some' h
    obtain ⟨a1, h1, h⟩ := bind_some' h
    obtain ⟨a2, h2, h⟩ := bind_some' h
    obtain ⟨a3, h3, h⟩ := bind_some' h
    obtain ⟨a4, h4, h⟩ := bind_some' h
    obtain ⟨a5, h5, h⟩ := bind_some' h
    obtain ⟨a6, h6, h⟩ := bind_some' h
    obtain ⟨a7, h7, h⟩ := bind_some' h
    obtain ⟨a8, h8, h⟩ := bind_some' h
    obtain ⟨a9, h9, h⟩ := bind_some' h
    obtain ⟨a10, h10, h⟩ := bind_some' h
    injection h with h; subst h
    exact .cons (gI_wk h0) (.cons (gL_wk h1) (.cons (gB_wk h2) (.cons (gI_wk h3) (.cons (gS_wk h4) (.cons (gS_wk h5) (.cons (gI_wk h6) (.cons (gI_wk h7) (.cons (gI_wk h8) (.cons (gI_wk h9) (.cons (gI_wk h10) (.nil)))))))))))
  · obtain ⟨a0, h0, h⟩ := bind_some' h
    obtain ⟨a1, h1, h⟩ := bind_some' h
    obtain ⟨a2, h2, h⟩ := bind_some' h
    obtain ⟨a3, h3, h⟩ := bind_some' h
    obtain ⟨a4, h4, h⟩ := bind_some' h
    obtain ⟨a5, h5, h⟩ := bind_some' h
    obtain ⟨a6, h6, h⟩ := bind_some' h
    obtain ⟨a7, h7, h⟩ := bind_some' h
    injection h with h; subst h
    exact .cons (gI_wk h0) (.cons (gS_wk h1) (.cons (gS_wk h2) (.cons (gI_wk h3) (.cons (gI_wk h4) (.cons (gI_wk h5) (.cons (gI_wk h6) (.cons (gI_wk h7) (.nil))))))))
  · obtain ⟨a0, h0, h⟩ := bind_some' h
    injection h with h; subst h
    exact .cons (gL_wk h0) (.nil)
  · obtain ⟨a0, h0, h⟩ := bind_some' h
    obtain ⟨a1, h1, h⟩ := bind_some' h
    obtain ⟨a2, h2, h⟩ := bind_some' h
    injection h with h; subst h
    exact .cons (gB_wk h0) (.cons (gB_wk h1) (.cons (gL_wk h2) (.nil)))
  · obtain ⟨a0, h0, h⟩ := bind_some' h
    obtain ⟨a1, h1, h⟩ := bind_some' h
    obtain ⟨a2, h2, h⟩ := bind_some' h
    injection h with h; subst h
    exact .cons (gB_wk h0) (.cons (gB_wk h1) (.cons (gL_wk h2) (.nil)))
  · obtain ⟨a0, h0, h⟩ := bind_some' h
    injection h with h; subst h
    exact .cons (gL_wk h0) (.nil)
  · cases h
def bytT : (E : Nat) → List (Ty E) → Option (List UInt8)
  | 1, xs => some xs
  | _, _ => none
theorem enc_b1 : ∀ xs : List UInt8, xs.flatMap (encT 1) = xs.map fun b => XV.int .u8 (b.toNat : Int)
  | [] => rfl
  | x :: xs => by rw [List.flatMap_cons, enc_b1 xs]; rfl
def unbT : (E : Nat) → List UInt8 → Option (List (Ty E))
  | 1, xs => some xs
  | _, _ => none
def CT : Codec Ty where
  unb := unbT
  unb_ok := by
    intro E bs xs h
    unfold unbT at h
    split at h
    · injection h with h; subst h; exact enc_b1 _
    · cases h
  unb_len := by
    intro E bs xs h
    unfold unbT at h
    split at h
    · injection h with h; subst h; rfl
    · cases h
  byt := bytT
  byt_ok := by
    intro E xs bs h
    unfold bytT at h
    split at h
    · injection h with h; subst h; exact enc_b1 _
    · cases h
  byt_sz := by
    intro E xs bs h
    unfold bytT at h
    split at h
    · rfl
    · cases h
  enc := encT
  dec := decT
  sz := szT
  code := codeT
  full := fun E => Nat.beq E 6
  len := by intro E x; unfold encT; split <;> first | rfl | exact List.length_replicate
  pos := by intro E; unfold szT; split <;> decide
  shut := by
    intro E x v hv
    have key : ∀ l : List X, (l.all XV.closed) = true → v ∈ l → v.closed = true := fun l h1 h2 => List.all_eq_true.1 h1 v h2
    unfold encT at hv
    split at hv
    all_goals first | (rw [List.eq_of_mem_replicate hv]; rfl) | exact key _ rfl hv
  back := back_T
def b8 (n : Int) : Option UInt8 := (g8 (.int .u8 n)).bind fun a0 => some a0
theorem mixedP : Tryz.prog.follows .mixedOrders = true := by kernel_rfl
abbrev LI := List Int
abbrev LB := List UInt8
abbrev CEp := CE CT Tryz.prog
abbrev LEp := LE CT Tryz.prog
def lt0 : List LEp := []
def dr0 : Nat → Nat → DrA | _, _ => ⟨[], [], [], [], [], false, []⟩
theorem ceO {f : FuncId} {fn : Func} {args : List Vs} {hs : List Hs} {res : Rs} {outs : List Hs} {m : VsD Ty args → HsD Ty hs → Option (res.D Ty × HsD Ty outs)} (hf : Tryz.prog.funcs[f]? = some fn) (hok : fnOk Tryz.prog fn args.length = true) (tb : List CEp) (hn : (loopsOf (bodyOf fn)).length = 0) (hrun : ∀ d dh, xfun CT Tryz.prog (touOf tb) (orcOf tb) dr0 (lpsOf lt0) fn (stVs CT args d) (stHs CT hs dh) (fun v h => rdOut CT hs.length res outs (idPi 0 hs) v h fun d dh => some (d, dh)) = m d dh) : ∀ d dh r, m d dh = some r → Tr CT Tryz.prog (fun _ => True) f (stVs CT args d) (stHs CT hs dh) (res.st CT r.1) (stHs CT outs r.2) := ce_ok mixedP hf hok (orcOf_ok tb) (lps := lpsOf lt0) (lps_fn (no_loop hn)) hrun
def ok_Ii64 (x : Int) : Prop := InK .i64 x
def ok_ListUInt8 (x : List UInt8) : Prop := x.length ≤ 140737488355328
def ok_LListUInt8 (x : List (List UInt8)) : Prop := OkL 16 ok_ListUInt8 x
def ok_DSpan (x : DSpan) : Prop := ok_ListUInt8 x.lo ∧ ok_ListUInt8 x.hi ∧ True
def ok_Iu8 (x : Int) : Prop := InK .u8 x
def ok_DName (x : DName) : Prop := ok_Ii64 x.client ∧ ok_Ii64 x.num ∧ True
def ok_Bool (x : Bool) : Prop := True
def ok_DRead (x : DRead) : Prop := ok_ListUInt8 x.key ∧ ok_Bool x.is ∧ ok_ListUInt8 x.value ∧ True
def ok_LDRead (x : List (DRead)) : Prop := OkL 33 ok_DRead x
def ok_DVerdict (x : DVerdict) : Prop := ok_DName x.name ∧ ok_Bool x.commit ∧ ok_Ii64 x.at_ ∧ ok_LDRead x.reads ∧ True
def ok_DDeed (x : DDeed) : Prop := ok_Ii64 x.kind ∧ ok_DSpan x.span ∧ ok_Ii64 x.to_ ∧ ok_Ii64 x.num ∧ ok_Iu8 x.stage ∧ ok_DVerdict x.verdict ∧ True
def ok_LDDeed (x : List (DDeed)) : Prop := OkL 106 ok_DDeed x
theorem fit_0 : ∀ ds, FitsAll [.i .i64] ds → (∀ d ∈ ds, Small d) → ∃ x : Ty 0, DXs CT (CT.enc 0 x) ds ∧ ok_Ii64 x := by
  intro ds h hs
  obtain ⟨d0, ds0, rfl, f0, h⟩ := fitsAll_cons h
  obtain rfl := fitsAll_nil h
  obtain ⟨a0, rfl, k0⟩ := fits_i f0
  exact ⟨a0, .int _ _ (.none), k0⟩
theorem fit_2 : ∀ ds, FitsAll [.s] ds → (∀ d ∈ ds, Small d) → ∃ x : Ty 2, DXs CT (CT.enc 2 x) ds ∧ ok_ListUInt8 x := by
  intro ds h hs
  obtain ⟨d0, ds0, rfl, f0, h⟩ := fitsAll_cons h
  obtain rfl := fitsAll_nil h
  obtain ⟨a0, rfl, k0⟩ := fits_s f0
  exact ⟨a0, .str _ (.none), k0⟩
theorem fit_3 : ∀ ds, FitsAll [.l [.s]] ds → (∀ d ∈ ds, Small d) → ∃ x : Ty 3, DXs CT (CT.enc 3 x) ds ∧ ok_LListUInt8 x := by
  intro ds h hs
  obtain ⟨d0, ds0, rfl, f0, h⟩ := fitsAll_cons h
  obtain rfl := fitsAll_nil h
  obtain ⟨a0, es0, rfl, q0, k0⟩ := fits_sl fit_2 rfl f0 (hs _ (by simp))
  exact ⟨a0, .sl _ _ _ q0 (.none), k0⟩
theorem fit_10 : ∀ ds, FitsAll [.s, .b, .s] ds → (∀ d ∈ ds, Small d) → ∃ x : Ty 10, DXs CT (CT.enc 10 x) ds ∧ ok_DRead x := by
  intro ds h hs
  obtain ⟨d0, ds0, rfl, f0, h⟩ := fitsAll_cons h
  obtain ⟨d1, ds1, rfl, f1, h⟩ := fitsAll_cons h
  obtain ⟨d2, ds2, rfl, f2, h⟩ := fitsAll_cons h
  obtain rfl := fitsAll_nil h
  obtain ⟨a0, rfl, k0⟩ := fits_s f0
  obtain ⟨a1, rfl⟩ := fits_b f1
  obtain ⟨a2, rfl, k2⟩ := fits_s f2
  exact ⟨⟨a0, a1, a2⟩, .str _ (.bool _ (.str _ (.none))), ⟨k0, trivial, k2, trivial⟩⟩
theorem fit_13 : ∀ ds, FitsAll [.i .i64, .s, .s, .i .i64, .i .i64, .i .u8, .i .i64, .i .i64, .b, .i .i64, .l [.s, .b, .s]] ds → (∀ d ∈ ds, Small d) → ∃ x : Ty 13, DXs CT (CT.enc 13 x) ds ∧ ok_DDeed x := by
  intro ds h hs
  obtain ⟨d0, ds0, rfl, f0, h⟩ := fitsAll_cons h
  obtain ⟨d1, ds1, rfl, f1, h⟩ := fitsAll_cons h
  obtain ⟨d2, ds2, rfl, f2, h⟩ := fitsAll_cons h
  obtain ⟨d3, ds3, rfl, f3, h⟩ := fitsAll_cons h
  obtain ⟨d4, ds4, rfl, f4, h⟩ := fitsAll_cons h
  obtain ⟨d5, ds5, rfl, f5, h⟩ := fitsAll_cons h
  obtain ⟨d6, ds6, rfl, f6, h⟩ := fitsAll_cons h
  obtain ⟨d7, ds7, rfl, f7, h⟩ := fitsAll_cons h
  obtain ⟨d8, ds8, rfl, f8, h⟩ := fitsAll_cons h
  obtain ⟨d9, ds9, rfl, f9, h⟩ := fitsAll_cons h
  obtain ⟨d10, ds10, rfl, f10, h⟩ := fitsAll_cons h
  obtain rfl := fitsAll_nil h
  obtain ⟨a0, rfl, k0⟩ := fits_i f0
  obtain ⟨a1, rfl, k1⟩ := fits_s f1
  obtain ⟨a2, rfl, k2⟩ := fits_s f2
  obtain ⟨a3, rfl, k3⟩ := fits_i f3
  obtain ⟨a4, rfl, k4⟩ := fits_i f4
  obtain ⟨a5, rfl, k5⟩ := fits_i f5
  obtain ⟨a6, rfl, k6⟩ := fits_i f6
  obtain ⟨a7, rfl, k7⟩ := fits_i f7
  obtain ⟨a8, rfl⟩ := fits_b f8
  obtain ⟨a9, rfl, k9⟩ := fits_i f9
  obtain ⟨a10, es10, rfl, q10, k10⟩ := fits_sl fit_10 rfl f10 (hs _ (by simp))
  exact ⟨⟨a0, ⟨a1, a2⟩, a3, a4, a5, ⟨⟨a6, a7⟩, a8, a9, a10⟩⟩, .int _ _ (.str _ (.str _ (.int _ _ (.int _ _ (.int _ _ (.int _ _ (.int _ _ (.bool _ (.int _ _ (.sl _ _ _ q10 (.none))))))))))), ⟨k0, ⟨k1, k2, trivial⟩, k3, k4, k5, ⟨⟨k6, k7, trivial⟩, trivial, k9, k10, trivial⟩, trivial⟩⟩
theorem fit_26 : ∀ ds, FitsAll [.l [.i .i64, .s, .s, .i .i64, .i .i64, .i .u8, .i .i64, .i .i64, .b, .i .i64, .l [.s, .b, .s]]] ds → (∀ d ∈ ds, Small d) → ∃ x : Ty 26, DXs CT (CT.enc 26 x) ds ∧ ok_LDDeed x := by
  intro ds h hs
  obtain ⟨d0, ds0, rfl, f0, h⟩ := fitsAll_cons h
  obtain rfl := fitsAll_nil h
  obtain ⟨a0, es0, rfl, q0, k0⟩ := fits_sl fit_13 rfl f0 (hs _ (by simp))
  exact ⟨a0, .sl _ _ _ q0 (.none), k0⟩
end Go.Proofs.YtaihdjknneiciaaGreat
