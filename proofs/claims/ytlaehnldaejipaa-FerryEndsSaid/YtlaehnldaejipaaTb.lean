/- Typed data, by program. -/
import Derived.Test.YtlaehnldaejipaaBr
import Derived.Test.YtlaehnldaejipaaBu
import Derived.Test.YtlaehnldaejipaaChecked
namespace Go.Proofs.Ytlaehnldaejipaa
open Go.RowKit
set_option maxRecDepth 100000
set_option linter.unusedVariables false
structure DConfigX where
  voters : List (Int) × List (Int)
  old : List (Int) × List (Int)
  learners : List (Int) × List (Int)
  want : List (Int) × List (Int)
  deriving DecidableEq
structure DEntryX where
  term_ : Int
  kind : Int
  command : List (UInt8) × List (UInt8)
  config : DConfigX
  deriving DecidableEq
structure DConfig where
  voters : List (Int)
  old : List (Int)
  learners : List (Int)
  want : List (Int)
  deriving DecidableEq
structure DBase where
  index : Int
  term_ : Int
  config : DConfig
  deriving DecidableEq
structure DImage where
  base : DBase
  bytes : List (UInt8)
  deriving DecidableEq
structure DEntry where
  term_ : Int
  kind : Int
  command : List (UInt8)
  config : DConfig
  deriving DecidableEq
structure DLetter where
  kind : Int
  group : Int
  from_ : Int
  to_ : Int
  term_ : Int
  index : Int
  logTerm : Int
  commit : Int
  ok : Bool
  entries : List (DEntry)
  base : DBase
  size : Int
  at_ : Int
  tag : Int
  bytes : List (UInt8)
  deriving DecidableEq
structure DCrossing where
  term_ : Int
  index : Int
  base : Int
  size : Int
  deriving DecidableEq
@[reducible] def Ty : Nat → Type
  | 0 => Int
  | 1 => UInt8
  | 2 => List UInt8
  | 3 => Int
  | 4 => List (UInt8) × List (UInt8)
  | 5 => List (Int) × List (Int)
  | 6 => DConfigX
  | 7 => DEntryX
  | 8 => List (DEntryX)
  | 9 => DEntryX
  | 10 => Int
  | 11 => UInt8
  | 12 => List (Int)
  | 13 => DConfig
  | 14 => DBase
  | 15 => List (UInt8)
  | 16 => DImage
  | 17 => Bool
  | 18 => DEntry
  | 19 => List (DEntry)
  | 20 => DLetter
  | 21 => DCrossing
  | 22 => List (DLetter)
  | _ => Unit
abbrev X := XV Ty
def szT : Nat → Nat
  | 0 => 1
  | 1 => 1
  | 2 => 1
  | 3 => 1
  | 4 => 1
  | 5 => 1
  | 6 => 4
  | 7 => 7
  | 8 => 1
  | 9 => 1
  | 10 => 1
  | 11 => 1
  | 12 => 1
  | 13 => 4
  | 14 => 6
  | 15 => 1
  | 16 => 7
  | 17 => 1
  | 18 => 7
  | 19 => 1
  | 20 => 20
  | 21 => 4
  | 22 => 1
  | _ => 1
def encT : (E : Nat) → Ty E → List X
  | 0, x => [.int .i64 x]
  | 1, x => [.int .u8 (x.toNat : Int)]
  | 2, x => [.str x]
  | 3, x => [.int .u8 x]
  | 4, x => [.slx 1 x.1 x.2]
  | 5, x => [.slx 0 x.1 x.2]
  | 6, x => [.slx 0 x.voters.1 x.voters.2, .slx 0 x.old.1 x.old.2, .slx 0 x.learners.1 x.learners.2, .slx 0 x.want.1 x.want.2]
  | 7, x => [.int .i64 x.term_, .int .u8 x.kind, .slx 1 x.command.1 x.command.2, .slx 0 x.config.voters.1 x.config.voters.2, .slx 0 x.config.old.1 x.config.old.2, .slx 0 x.config.learners.1 x.config.learners.2, .slx 0 x.config.want.1 x.config.want.2]
  | 10, x => [.int .i64 x]
  | 11, x => [.int .u8 (x.toNat : Int)]
  | 12, x => [.sl 0 x none]
  | 13, x => [.sl 0 x.voters none, .sl 0 x.old none, .sl 0 x.learners none, .sl 0 x.want none]
  | 14, x => [.int .i64 x.index, .int .i64 x.term_, .sl 0 x.config.voters none, .sl 0 x.config.old none, .sl 0 x.config.learners none, .sl 0 x.config.want none]
  | 15, x => [.sl 1 x none]
  | 16, x => [.int .i64 x.base.index, .int .i64 x.base.term_, .sl 0 x.base.config.voters none, .sl 0 x.base.config.old none, .sl 0 x.base.config.learners none, .sl 0 x.base.config.want none, .sl 1 x.bytes none]
  | 17, x => [.bool x]
  | 18, x => [.int .i64 x.term_, .int .u8 x.kind, .sl 1 x.command none, .sl 0 x.config.voters none, .sl 0 x.config.old none, .sl 0 x.config.learners none, .sl 0 x.config.want none]
  | 19, x => [.sl 18 x none]
  | 20, x => [.int .u8 x.kind, .int .i64 x.group, .int .i64 x.from_, .int .i64 x.to_, .int .i64 x.term_, .int .i64 x.index, .int .i64 x.logTerm, .int .i64 x.commit, .bool x.ok, .sl 18 x.entries none, .int .i64 x.base.index, .int .i64 x.base.term_, .sl 0 x.base.config.voters none, .sl 0 x.base.config.old none, .sl 0 x.base.config.learners none, .sl 0 x.base.config.want none, .int .i64 x.size, .int .i64 x.at_, .int .i64 x.tag, .sl 1 x.bytes none]
  | 21, x => [.int .i64 x.term_, .int .i64 x.index, .int .i64 x.base, .int .i64 x.size]
  | 22, x => [.sl 20 x none]
  | E, _ => List.replicate (szT E) (.bool true)
def gI (k : IntKind) (v : X) : Option Int := match v with
  | .int k' n => if k' = k then some n else none
  | _ => none
def g8 (v : X) : Option UInt8 := match v with
  | .int .u8 n => if 0 ≤ n ∧ n < 256 then some (UInt8.ofNat n.toNat) else none
  | _ => none
def gB (v : X) : Option Bool := match v with
  | .bool b => some b
  | _ => none
def gS (v : X) : Option (List UInt8) := match v with
  | .str b => some b
  | _ => none
def gL (E : Nat) (v : X) : Option (List (Ty E)) := match v with
  | .sl E' xs _ => if h : E' = E then some (h ▸ xs) else none
  | .nil => some []
  | .slx E' xs _ => if h : E' = E then some (h ▸ xs) else none
  | _ => none
theorem gI_wk {k : IntKind} {v : X} {n : Int} (h : gI k v = some n) : Wk v (.int k n) := by
  unfold gI at h
  split at h
  · split at h
    · rename_i e; subst e; injection h with h; subst h; exact .same _
    · cases h
  · cases h
theorem g8_wk {v : X} {n : UInt8} (h : g8 v = some n) : Wk v (.int .u8 (n.toNat : Int)) := by
  unfold g8 at h
  split at h
  · split at h
    · rename_i m hr; injection h with h; subst h
      have : ((UInt8.ofNat m.toNat).toNat : Int) = m := by simp; omega
      rw [this]; exact .same _
    · cases h
  · cases h
theorem gB_wk {v : X} {b : Bool} (h : gB v = some b) : Wk v (.bool b) := by
  unfold gB at h
  split at h
  · injection h with h; subst h; exact .same _
  · cases h
theorem gS_wk {v : X} {b : List UInt8} (h : gS v = some b) : Wk v (.str b) := by
  unfold gS at h
  split at h
  · injection h with h; subst h; exact .same _
  · cases h
theorem gL_wk {E : Nat} {v : X} {xs : List (Ty E)} (h : gL E v = some xs) : Wk v (.sl E xs none) := by
  unfold gL at h
  split at h
  · split at h
    · rename_i o e; subst e; injection h with h; subst h
      cases o with
      | none => exact .same _
      | some r => exact .drop _ _ _
    · cases h
  · injection h with h; subst h; exact .nil _
  · split at h
    · rename_i e; subst e; injection h with h; subst h; exact .spare _ _ _
    · cases h
  · cases h
def gX (E : Nat) (v : X) : Option (List (Ty E) × List (Ty E)) := match v with
  | .slx E' xs ys => if h : E' = E then some (h ▸ xs, h ▸ ys) else none
  | .nil => some ([], [])
  | _ => none
theorem gX_wk {E : Nat} {v : X} {a : List (Ty E) × List (Ty E)} (h : gX E v = some a) : Wk v (.slx E a.1 a.2) := by
  unfold gX at h
  split at h
  · split at h
    · rename_i e; subst e; injection h with h; subst h; exact .same _
    · cases h
  · injection h with h; subst h; exact .nilx _
  · cases h
def decT : (E : Nat) → List X → Option (Ty E)
  | 0, [v0] => (gI .i64 v0).bind fun a0 => some a0
  | 1, [v0] => (g8 v0).bind fun a0 => some a0
  | 2, [v0] => (gS v0).bind fun a0 => some a0
  | 3, [v0] => (gI .u8 v0).bind fun a0 => some a0
  | 4, [v0] => (gX 1 v0).bind fun a0 => some a0
  | 5, [v0] => (gX 0 v0).bind fun a0 => some a0
  | 6, [v0, v1, v2, v3] => (gX 0 v0).bind fun a0 => (gX 0 v1).bind fun a1 => (gX 0 v2).bind fun a2 => (gX 0 v3).bind fun a3 => some ⟨a0, a1, a2, a3⟩
  | 7, [v0, v1, v2, v3, v4, v5, v6] => (gI .i64 v0).bind fun a0 => (gI .u8 v1).bind fun a1 => (gX 1 v2).bind fun a2 => (gX 0 v3).bind fun a3 => (gX 0 v4).bind fun a4 => (gX 0 v5).bind fun a5 => (gX 0 v6).bind fun a6 => some ⟨a0, a1, a2, ⟨a3, a4, a5, a6⟩⟩
  | 10, [v0] => (gI .i64 v0).bind fun a0 => some a0
  | 11, [v0] => (g8 v0).bind fun a0 => some a0
  | 12, [v0] => (gL 0 v0).bind fun a0 => some a0
  | 13, [v0, v1, v2, v3] => (gL 0 v0).bind fun a0 => (gL 0 v1).bind fun a1 => (gL 0 v2).bind fun a2 => (gL 0 v3).bind fun a3 => some ⟨a0, a1, a2, a3⟩
  | 14, [v0, v1, v2, v3, v4, v5] => (gI .i64 v0).bind fun a0 => (gI .i64 v1).bind fun a1 => (gL 0 v2).bind fun a2 => (gL 0 v3).bind fun a3 => (gL 0 v4).bind fun a4 => (gL 0 v5).bind fun a5 => some ⟨a0, a1, ⟨a2, a3, a4, a5⟩⟩
  | 15, [v0] => (gL 1 v0).bind fun a0 => some a0
  | 16, [v0, v1, v2, v3, v4, v5, v6] => (gI .i64 v0).bind fun a0 => (gI .i64 v1).bind fun a1 => (gL 0 v2).bind fun a2 => (gL 0 v3).bind fun a3 => (gL 0 v4).bind fun a4 => (gL 0 v5).bind fun a5 => (gL 1 v6).bind fun a6 => some ⟨⟨a0, a1, ⟨a2, a3, a4, a5⟩⟩, a6⟩
  | 17, [v0] => (gB v0).bind fun a0 => some a0
  | 18, [v0, v1, v2, v3, v4, v5, v6] => (gI .i64 v0).bind fun a0 => (gI .u8 v1).bind fun a1 => (gL 1 v2).bind fun a2 => (gL 0 v3).bind fun a3 => (gL 0 v4).bind fun a4 => (gL 0 v5).bind fun a5 => (gL 0 v6).bind fun a6 => some ⟨a0, a1, a2, ⟨a3, a4, a5, a6⟩⟩
  | 19, [v0] => (gL 18 v0).bind fun a0 => some a0
  | 20, [v0, v1, v2, v3, v4, v5, v6, v7, v8, v9, v10, v11, v12, v13, v14, v15, v16, v17, v18, v19] => (gI .u8 v0).bind fun a0 => (gI .i64 v1).bind fun a1 => (gI .i64 v2).bind fun a2 => (gI .i64 v3).bind fun a3 => (gI .i64 v4).bind fun a4 => (gI .i64 v5).bind fun a5 => (gI .i64 v6).bind fun a6 => (gI .i64 v7).bind fun a7 => (gB v8).bind fun a8 => (gL 18 v9).bind fun a9 => (gI .i64 v10).bind fun a10 => (gI .i64 v11).bind fun a11 => (gL 0 v12).bind fun a12 => (gL 0 v13).bind fun a13 => (gL 0 v14).bind fun a14 => (gL 0 v15).bind fun a15 => (gI .i64 v16).bind fun a16 => (gI .i64 v17).bind fun a17 => (gI .i64 v18).bind fun a18 => (gL 1 v19).bind fun a19 => some ⟨a0, a1, a2, a3, a4, a5, a6, a7, a8, a9, ⟨a10, a11, ⟨a12, a13, a14, a15⟩⟩, a16, a17, a18, a19⟩
  | 21, [v0, v1, v2, v3] => (gI .i64 v0).bind fun a0 => (gI .i64 v1).bind fun a1 => (gI .i64 v2).bind fun a2 => (gI .i64 v3).bind fun a3 => some ⟨a0, a1, a2, a3⟩
  | 22, [v0] => (gL 20 v0).bind fun a0 => some a0
  | _, _ => none
def codeT : Nat → Option Nat
  | 3 => some 0
  | 4 => some 17
  | 5 => some 1
  | 23 => some 19
  | 24 => some 12
  | 26 => some 13
  | 28 => some 14
  | 29 => some 15
  | 31 => some 20
  | 33 => some 16
  | 36 => some 22
  | 54 => some 21
  | 80 => some 18
  | _ => none
theorem back_T : ∀ (E : Nat) (l : List X) (x : Ty E), decT E l = some x → Wks l (encT E x) := by
  intro E l x h
  unfold decT at h
  split at h
  · obtain ⟨a0, h0, h⟩ := bind_some' h
    injection h with h; subst h
    exact .cons (gI_wk h0) (.nil)
  · obtain ⟨a0, h0, h⟩ := bind_some' h
    injection h with h; subst h
    exact .cons (g8_wk h0) (.nil)
  · obtain ⟨a0, h0, h⟩ := bind_some' h
    injection h with h; subst h
    exact .cons (gS_wk h0) (.nil)
  · obtain ⟨a0, h0, h⟩ := bind_some' h
    injection h with h; subst h
    exact .cons (gI_wk h0) (.nil)
  · obtain ⟨a0, h0, h⟩ := bind_some' h
    injection h with h; subst h
    exact .cons (gX_wk h0) (.nil)
  · obtain ⟨a0, h0, h⟩ := bind_some' h
    injection h with h; subst h
    exact .cons (gX_wk h0) (.nil)
  · obtain ⟨a0, h0, h⟩ := bind_some' h
    obtain ⟨a1, h1, h⟩ := bind_some' h
    obtain ⟨a2, h2, h⟩ := bind_some' h
    obtain ⟨a3, h3, h⟩ := bind_some' h
    injection h with h; subst h
    exact .cons (gX_wk h0) (.cons (gX_wk h1) (.cons (gX_wk h2) (.cons (gX_wk h3) (.nil))))
  · obtain ⟨a0, h0, h⟩ := bind_some' h
    obtain ⟨a1, h1, h⟩ := bind_some' h
    obtain ⟨a2, h2, h⟩ := bind_some' h
    obtain ⟨a3, h3, h⟩ := bind_some' h
    obtain ⟨a4, h4, h⟩ := bind_some' h
    obtain ⟨a5, h5, h⟩ := bind_some' h
    obtain ⟨a6, h6, h⟩ := bind_some' h
    injection h with h; subst h
    exact .cons (gI_wk h0) (.cons (gI_wk h1) (.cons (gX_wk h2) (.cons (gX_wk h3) (.cons (gX_wk h4) (.cons (gX_wk h5) (.cons (gX_wk h6) (.nil)))))))
  · obtain ⟨a0, h0, h⟩ := bind_some' h
    injection h with h; subst h
    exact .cons (gI_wk h0) (.nil)
  · obtain ⟨a0, h0, h⟩ := bind_some' h
    injection h with h; subst h
    exact .cons (g8_wk h0) (.nil)
  · obtain ⟨a0, h0, h⟩ := bind_some' h
    injection h with h; subst h
    exact .cons (gL_wk h0) (.nil)
  · obtain ⟨a0, h0, h⟩ := bind_some' h
    obtain ⟨a1, h1, h⟩ := bind_some' h
    obtain ⟨a2, h2, h⟩ := bind_some' h
    obtain ⟨a3, h3, h⟩ := bind_some' h
    injection h with h; subst h
    exact .cons (gL_wk h0) (.cons (gL_wk h1) (.cons (gL_wk h2) (.cons (gL_wk h3) (.nil))))
  · obtain ⟨a0, h0, h⟩ := bind_some' h
    obtain ⟨a1, h1, h⟩ := bind_some' h
    obtain ⟨a2, h2, h⟩ := bind_some' h
    obtain ⟨a3, h3, h⟩ := bind_some' h
    obtain ⟨a4, h4, h⟩ := bind_some' h
    obtain ⟨a5, h5, h⟩ := bind_some' h
    injection h with h; subst h
    exact .cons (gI_wk h0) (.cons (gI_wk h1) (.cons (gL_wk h2) (.cons (gL_wk h3) (.cons (gL_wk h4) (.cons (gL_wk h5) (.nil))))))
  · obtain ⟨a0, h0, h⟩ := bind_some' h
    injection h with h; subst h
    exact .cons (gL_wk h0) (.nil)
  · obtain ⟨a0, h0, h⟩ := bind_some' h
    obtain ⟨a1, h1, h⟩ := bind_some' h
    obtain ⟨a2, h2, h⟩ := bind_some' h
    obtain ⟨a3, h3, h⟩ := bind_some' h
    obtain ⟨a4, h4, h⟩ := bind_some' h
    obtain ⟨a5, h5, h⟩ := bind_some' h
    obtain ⟨a6, h6, h⟩ := bind_some' h
    injection h with h; subst h
    exact .cons (gI_wk h0) (.cons (gI_wk h1) (.cons (gL_wk h2) (.cons (gL_wk h3) (.cons (gL_wk h4) (.cons (gL_wk h5) (.cons (gL_wk h6) (.nil)))))))
  · obtain ⟨a0, h0, h⟩ := bind_some' h
    injection h with h; subst h
    exact .cons (gB_wk h0) (.nil)
  · obtain ⟨a0, h0, h⟩ := bind_some' h
    obtain ⟨a1, h1, h⟩ := bind_some' h
    obtain ⟨a2, h2, h⟩ := bind_some' h
    obtain ⟨a3, h3, h⟩ := bind_some' h
    obtain ⟨a4, h4, h⟩ := bind_some' h
    obtain ⟨a5, h5, h⟩ := bind_some' h
    obtain ⟨a6, h6, h⟩ := bind_some' h
    injection h with h; subst h
    exact .cons (gI_wk h0) (.cons (gI_wk h1) (.cons (gL_wk h2) (.cons (gL_wk h3) (.cons (gL_wk h4) (.cons (gL_wk h5) (.cons (gL_wk h6) (.nil)))))))
  · obtain ⟨a0, h0, h⟩ := bind_some' h
    injection h with h; subst h
    exact .cons (gL_wk h0) (.nil)
  · obtain ⟨a0, h0, h⟩ := bind_some' h
    obtain ⟨a1, h1, h⟩ := bind_some' h
    obtain ⟨a2, h2, h⟩ := bind_some' h
    obtain ⟨a3, h3, h⟩ := bind_some' h
    obtain ⟨a4, h4, h⟩ := bind_some' h
    obtain ⟨a5, h5, h⟩ := bind_some' h
    obtain ⟨a6, h6, h⟩ := bind_some' h
    obtain ⟨a7, h7, h⟩ := bind_some' h
    obtain ⟨a8, h8, h⟩ := bind_some' h
    obtain ⟨a9, h9, h⟩ := bind_some' h
    obtain ⟨a10, h10, h⟩ := bind_some' h
    obtain ⟨a11, h11, h⟩ := bind_some' h
    obtain ⟨a12, h12, h⟩ := bind_some' h
    obtain ⟨a13, h13, h⟩ := bind_some' h
    obtain ⟨a14, h14, h⟩ := bind_some' h
    obtain ⟨a15, h15, h⟩ := bind_some' h
    obtain ⟨a16, h16, h⟩ := bind_some' h
    obtain ⟨a17, h17, h⟩ := bind_some' h
    obtain ⟨a18, h18, h⟩ := bind_some' h
    obtain ⟨a19, h19, h⟩ := bind_some' h
    injection h with h; subst h
    exact .cons (gI_wk h0) (.cons (gI_wk h1) (.cons (gI_wk h2) (.cons (gI_wk h3) (.cons (gI_wk h4) (.cons (gI_wk h5) (.cons (gI_wk h6) (.cons (gI_wk h7) (.cons (gB_wk h8) (.cons (gL_wk h9) (.cons (gI_wk h10) (.cons (gI_wk h11) (.cons (gL_wk h12) (.cons (gL_wk h13) (.cons (gL_wk h14) (.cons (gL_wk h15) (.cons (gI_wk h16) (.cons (gI_wk h17) (.cons (gI_wk h18) (.cons (gL_wk h19) (.nil))))))))))))))))))))
  · obtain ⟨a0, h0, h⟩ := bind_some' h
    obtain ⟨a1, h1, h⟩ := bind_some' h
    obtain ⟨a2, h2, h⟩ := bind_some' h
    obtain ⟨a3, h3, h⟩ := bind_some' h
    injection h with h; subst h
    exact .cons (gI_wk h0) (.cons (gI_wk h1) (.cons (gI_wk h2) (.cons (gI_wk h3) (.nil))))
  · obtain ⟨a0, h0, h⟩ := bind_some' h
    injection h with h; subst h
    exact .cons (gL_wk h0) (.nil)
  · cases h
def bytT : (E : Nat) → List (Ty E) → Option (List UInt8)
  | 1, xs => some xs
  | 11, xs => some xs
  | _, _ => none
theorem enc_b1 : ∀ xs : List UInt8, xs.flatMap (encT 1) = xs.map fun b => XV.int .u8 (b.toNat : Int)
  | [] => rfl
  | x :: xs => by rw [List.flatMap_cons, enc_b1 xs]; rfl
theorem enc_b11 : ∀ xs : List UInt8, xs.flatMap (encT 11) = xs.map fun b => XV.int .u8 (b.toNat : Int)
  | [] => rfl
  | x :: xs => by rw [List.flatMap_cons, enc_b11 xs]; rfl
def unbT : (E : Nat) → List UInt8 → Option (List (Ty E))
  | 1, xs => some xs
  | 11, xs => some xs
  | _, _ => none
def gshT : (E : Nat) → Ty E → St → AV → Prop
  | 8, x, σ, a => Bun encT 80 7 σ x a
  | 9, x, σ, a => Bun1 encT 80 7 σ x a
  | _, _, _, _ => False
def CT : Codec Ty where
  gsv := bunV
  gsv_one := fun _ _ _ _ h => bunV_one h
  gsv_ptr := fun _ _ _ _ _ h => bunV_ptr h
  gsh := gshT
  gsh_used := by
    intro E x σ a b h hb
    unfold gshT at h
    split at h
    · exact (Bun.own h hb).1
    · exact (Bun1.own h hb).1
    · exact h.elim
  gsh_blk := by
    intro E x σ a b h hb
    unfold gshT at h
    split at h
    · exact (Bun.own h hb).2
    · exact (Bun1.own h hb).2
    · exact h.elim
  gsh_but := by
    intro E x σ τ a S h hX hS
    unfold gshT at h ⊢
    split at h
    · exact Bun.but h hX hS
    · exact Bun1.but h hX hS
    · exact h.elim
  unb := unbT
  unb_ok := by
    intro E bs xs h
    unfold unbT at h
    split at h
    · injection h with h; subst h; exact enc_b1 _
    · injection h with h; subst h; exact enc_b11 _
    · cases h
  unb_len := by
    intro E bs xs h
    unfold unbT at h
    split at h
    · injection h with h; subst h; rfl
    · injection h with h; subst h; rfl
    · cases h
  byt := bytT
  byt_ok := by
    intro E xs bs h
    unfold bytT at h
    split at h
    · injection h with h; subst h; exact enc_b1 _
    · injection h with h; subst h; exact enc_b11 _
    · cases h
  byt_sz := by
    intro E xs bs h
    unfold bytT at h
    split at h
    · rfl
    · rfl
    · cases h
  enc := encT
  dec := decT
  sz := szT
  code := codeT
  full := fun E => Nat.beq E 0 || Nat.beq E 1 || Nat.beq E 10 || Nat.beq E 11
  scr := fun E => Nat.beq E 10 || Nat.beq E 11
  len := by intro E x; unfold encT; split <;> first | rfl | exact List.length_replicate
  pos := by intro E; unfold szT; split <;> decide
  shut := by
    intro E x v hv
    have key : ∀ l : List X, (l.all XV.closed) = true → v ∈ l → v.closed = true := fun l h1 h2 => List.all_eq_true.1 h1 v h2
    unfold encT at hv
    split at hv
    all_goals first | (rw [List.eq_of_mem_replicate hv]; rfl) | exact key _ rfl hv
  back := back_T
def b8 (n : Int) : Option UInt8 := (g8 (.int .u8 n)).bind fun a0 => some a0
theorem mixedP : Try.prog.follows .mixedOrders = true := by kernel_rfl
abbrev LI := List Int
abbrev LB := List UInt8
abbrev CEp := CE CT Try.prog
abbrev LEp := LE CT Try.prog
def lt0 : List LEp := []
def dr0 : Nat → Nat → DrA | _, _ => ⟨[], [], [], [], [], false, []⟩
theorem ceO {f : FuncId} {fn : Func} {args : List Vs} {hs : List Hs} {res : Rs} {outs : List Hs} {m : VsD Ty args → HsD Ty hs → Option (res.D Ty × HsD Ty outs)} (hf : Try.prog.funcs[f]? = some fn) (hok : fnOk Try.prog fn args.length = true) (tb : List CEp) (hn : (loopsOf (bodyOf fn)).length = 0) (hrun : ∀ d dh, xfun CT Try.prog (touOf tb) (orcOf tb) dr0 (lpsOf lt0) fn (stVs CT args d) (stHs CT hs dh) (fun v h => rdOut CT hs.length res outs (idPi 0 hs) v h fun d dh => some (d, dh)) = m d dh) : ∀ d dh r, m d dh = some r → Tr CT Try.prog (fun _ => True) f (stVs CT args d) (stHs CT hs dh) (res.st CT r.1) (stHs CT outs r.2) := ce_ok mixedP hf hok (orcOf_ok tb) (lps := lpsOf lt0) (lps_fn (no_loop hn)) hrun
def ok_Ii64 (x : Int) : Prop := InK .i64 x
def ok_UInt8 (x : UInt8) : Prop := True
def ok_Iu8 (x : Int) : Prop := InK .u8 x
def ok_LIi64 (x : List (Int)) : Prop := OkL 8 ok_Ii64 x
def ok_DConfig (x : DConfig) : Prop := ok_LIi64 x.voters ∧ ok_LIi64 x.old ∧ ok_LIi64 x.learners ∧ ok_LIi64 x.want ∧ True
def ok_DBase (x : DBase) : Prop := ok_Ii64 x.index ∧ ok_Ii64 x.term_ ∧ ok_DConfig x.config ∧ True
def ok_LUInt8 (x : List (UInt8)) : Prop := OkL 1 ok_UInt8 x
def ok_DImage (x : DImage) : Prop := ok_DBase x.base ∧ ok_LUInt8 x.bytes ∧ True
def ok_Bool (x : Bool) : Prop := True
def ok_DEntry (x : DEntry) : Prop := ok_Ii64 x.term_ ∧ ok_Iu8 x.kind ∧ ok_LUInt8 x.command ∧ ok_DConfig x.config ∧ True
def ok_LDEntry (x : List (DEntry)) : Prop := OkL 129 ok_DEntry x
def ok_DLetter (x : DLetter) : Prop := ok_Iu8 x.kind ∧ ok_Ii64 x.group ∧ ok_Ii64 x.from_ ∧ ok_Ii64 x.to_ ∧ ok_Ii64 x.term_ ∧ ok_Ii64 x.index ∧ ok_Ii64 x.logTerm ∧ ok_Ii64 x.commit ∧ ok_Bool x.ok ∧ ok_LDEntry x.entries ∧ ok_DBase x.base ∧ ok_Ii64 x.size ∧ ok_Ii64 x.at_ ∧ ok_Ii64 x.tag ∧ ok_LUInt8 x.bytes ∧ True
def ok_LDLetter (x : List (DLetter)) : Prop := OkL 242 ok_DLetter x
noncomputable def BCT : BunC CT where
  bn := fun E => match E with
    | 8 => some ⟨7, 80, rfl⟩
    | _ => none
  b1 := fun E => match E with
    | 9 => some ⟨7, 80, rfl⟩
    | _ => none
  sc := fun E => Nat.beq E 0 || Nat.beq E 1
  gsh := by
    intro E b h x σ a
    split at h
    · injection h with h; subst h; exact Iff.rfl
    · cases h
  gsh1 := by
    intro E b h x σ a
    split at h
    · injection h with h; subst h; exact Iff.rfl
    · cases h
  gsv := fun _ _ _ _ => Iff.rfl
  flat := by
    intro E b h x v hv
    have key : ∀ l : List X, (l.all fun v => isSc v || isSlx v) = true → v ∈ l → (isSc v || isSlx v) = true := fun l h1 h2 => List.all_eq_true.1 h1 v h2
    split at h
    · injection h with h; subst h; exact key _ rfl hv
    · cases h
  flat1 := by
    intro E b h x v hv
    have key : ∀ l : List X, (l.all fun v => isSc v || isSlx v) = true → v ∈ l → (isSc v || isSlx v) = true := fun l h1 h2 => List.all_eq_true.1 h1 v h2
    split at h
    · injection h with h; subst h; exact key _ rfl hv
    · cases h
  sc_ok := by
    intro E h
    simp only [Bool.or_eq_true] at h
    have key : ∀ l : List X, (l.all isSc) = true → ∀ v, v ∈ l → isSc v = true := fun l h1 v h2 => List.all_eq_true.1 h1 v h2
    rcases h with h | h <;> (have h := Nat.eq_of_beq_eq_true h; subst h; exact ⟨rfl, fun x v hv => key _ rfl v hv⟩)
noncomputable def HK0 : Hook CT Try.prog := bunHook BCT ⟨fun _ => none, fun _ => none⟩ Try.prog
noncomputable def HK1 : Hook CT Try.prog := bunHook BCT ⟨fun t => bif Nat.beq t 23 then some 8 else  none, fun t => bif Nat.beq t 23 then some 9 else  none⟩ Try.prog
end Go.Proofs.Ytlaehnldaejipaa
