/- Typed data, by program. -/
import Derived.Test.YtmffcfjdacoigaaGreatBr
import Derived.Test.YtmffcfjdacoigaaGreatChecked
namespace Go.Proofs.YtmffcfjdacoigaaGreat
open Go.RowKit
set_option maxRecDepth 100000
set_option linter.unusedVariables false
structure DConfig where
  voters : List (Int)
  old : List (Int)
  learners : List (Int)
  want : List (Int)
  deriving DecidableEq
structure DEntry where
  term_ : Int
  kind : Int
  command : List (UInt8)
  config : DConfig
  deriving DecidableEq
structure DBase where
  index : Int
  term_ : Int
  config : DConfig
  deriving DecidableEq
structure DLetter where
  kind : Int
  group : Int
  from_ : Int
  to_ : Int
  term_ : Int
  index : Int
  logTerm : Int
  commit : Int
  ok : Bool
  entries : List (DEntry)
  base : DBase
  size : Int
  at_ : Int
  tag : Int
  bytes : List (UInt8)
  deriving DecidableEq
structure DCall where
  kind : Int
  n : Int
  letter : DLetter
  rows : List (List (UInt8))
  want : List (Int)
  base : DBase
  deriving DecidableEq
structure DGroup where
  config : DConfig
  deriving DecidableEq
structure DPeer where
  id : Int
  term_ : Int
  vote : Int
  role : Int
  lead : Int
  commit : Int
  deriving DecidableEq
@[reducible] def Ty : Nat → Type
  | 0 => Int
  | 1 => UInt8
  | 2 => List UInt8
  | 3 => Int
  | 4 => Bool
  | 5 => List (UInt8)
  | 6 => List (Int)
  | 7 => DConfig
  | 8 => DEntry
  | 9 => List (DEntry)
  | 10 => DBase
  | 11 => DLetter
  | 12 => List (List (UInt8))
  | 13 => DCall
  | 14 => DGroup
  | 15 => DPeer
  | _ => Unit
abbrev X := XV Ty
def szT : Nat → Nat
  | 0 => 1
  | 1 => 1
  | 2 => 1
  | 3 => 1
  | 4 => 1
  | 5 => 1
  | 6 => 1
  | 7 => 4
  | 8 => 7
  | 9 => 1
  | 10 => 6
  | 11 => 20
  | 12 => 1
  | 13 => 30
  | 14 => 4
  | 15 => 6
  | _ => 1
def encT : (E : Nat) → Ty E → List X
  | 0, x => [.int .i64 x]
  | 1, x => [.int .u8 (x.toNat : Int)]
  | 2, x => [.str x]
  | 3, x => [.int .u8 x]
  | 4, x => [.bool x]
  | 5, x => [.sl 1 x none]
  | 6, x => [.sl 0 x none]
  | 7, x => [.sl 0 x.voters none, .sl 0 x.old none, .sl 0 x.learners none, .sl 0 x.want none]
  | 8, x => [.int .i64 x.term_, .int .u8 x.kind, .sl 1 x.command none, .sl 0 x.config.voters none, .sl 0 x.config.old none, .sl 0 x.config.learners none, .sl 0 x.config.want none]
  | 9, x => [.sl 8 x none]
  | 10, x => [.int .i64 x.index, .int .i64 x.term_, .sl 0 x.config.voters none, .sl 0 x.config.old none, .sl 0 x.config.learners none, .sl 0 x.config.want none]
  | 11, x => [.int .u8 x.kind, .int .i64 x.group, .int .i64 x.from_, .int .i64 x.to_, .int .i64 x.term_, .int .i64 x.index, .int .i64 x.logTerm, .int .i64 x.commit, .bool x.ok, .sl 8 x.entries none, .int .i64 x.base.index, .int .i64 x.base.term_, .sl 0 x.base.config.voters none, .sl 0 x.base.config.old none, .sl 0 x.base.config.learners none, .sl 0 x.base.config.want none, .int .i64 x.size, .int .i64 x.at_, .int .i64 x.tag, .sl 1 x.bytes none]
  | 12, x => [.sl 5 x none]
  | 13, x => [.int .i64 x.kind, .int .i64 x.n, .int .u8 x.letter.kind, .int .i64 x.letter.group, .int .i64 x.letter.from_, .int .i64 x.letter.to_, .int .i64 x.letter.term_, .int .i64 x.letter.index, .int .i64 x.letter.logTerm, .int .i64 x.letter.commit, .bool x.letter.ok, .sl 8 x.letter.entries none, .int .i64 x.letter.base.index, .int .i64 x.letter.base.term_, .sl 0 x.letter.base.config.voters none, .sl 0 x.letter.base.config.old none, .sl 0 x.letter.base.config.learners none, .sl 0 x.letter.base.config.want none, .int .i64 x.letter.size, .int .i64 x.letter.at_, .int .i64 x.letter.tag, .sl 1 x.letter.bytes none, .sl 5 x.rows none, .sl 0 x.want none, .int .i64 x.base.index, .int .i64 x.base.term_, .sl 0 x.base.config.voters none, .sl 0 x.base.config.old none, .sl 0 x.base.config.learners none, .sl 0 x.base.config.want none]
  | 14, x => [.sl 0 x.config.voters none, .sl 0 x.config.old none, .sl 0 x.config.learners none, .sl 0 x.config.want none]
  | 15, x => [.int .i64 x.id, .int .i64 x.term_, .int .i64 x.vote, .int .u8 x.role, .int .i64 x.lead, .int .i64 x.commit]
  | E, _ => List.replicate (szT E) (.bool true)
def gI (k : IntKind) (v : X) : Option Int := match v with
  | .int k' n => if k' = k then some n else none
  | _ => none
def g8 (v : X) : Option UInt8 := match v with
  | .int .u8 n => if 0 ≤ n ∧ n < 256 then some (UInt8.ofNat n.toNat) else none
  | _ => none
def gB (v : X) : Option Bool := match v with
  | .bool b => some b
  | _ => none
def gS (v : X) : Option (List UInt8) := match v with
  | .str b => some b
  | _ => none
def gL (E : Nat) (v : X) : Option (List (Ty E)) := match v with
  | .sl E' xs _ => if h : E' = E then some (h ▸ xs) else none
  | .nil => some []
  | .slx E' xs _ => if h : E' = E then some (h ▸ xs) else none
  | _ => none
theorem gI_wk {k : IntKind} {v : X} {n : Int} (h : gI k v = some n) : Wk v (.int k n) := by
  unfold gI at h
  split at h
  · split at h
    · rename_i e; subst e; injection h with h; subst h; exact .same _
    · cases h
  · cases h
theorem g8_wk {v : X} {n : UInt8} (h : g8 v = some n) : Wk v (.int .u8 (n.toNat : Int)) := by
  unfold g8 at h
  split at h
  · split at h
    · rename_i m hr; injection h with h; subst h
      have : ((UInt8.ofNat m.toNat).toNat : Int) = m := by simp; omega
      rw [this]; exact .same _
    · cases h
  · cases h
theorem gB_wk {v : X} {b : Bool} (h : gB v = some b) : Wk v (.bool b) := by
  unfold gB at h
  split at h
  · injection h with h; subst h; exact .same _
  · cases h
theorem gS_wk {v : X} {b : List UInt8} (h : gS v = some b) : Wk v (.str b) := by
  unfold gS at h
  split at h
  · injection h with h; subst h; exact .same _
  · cases h
theorem gL_wk {E : Nat} {v : X} {xs : List (Ty E)} (h : gL E v = some xs) : Wk v (.sl E xs none) := by
  unfold gL at h
  split at h
  · split at h
    · rename_i o e; subst e; injection h with h; subst h
      cases o with
      | none => exact .same _
      | some r => exact .drop _ _ _
    · cases h
  · injection h with h; subst h; exact .nil _
  · split at h
    · rename_i e; subst e; injection h with h; subst h; exact .spare _ _ _
    · cases h
  · cases h
def decT : (E : Nat) → List X → Option (Ty E)
  | 0, [v0] => (gI .i64 v0).bind fun a0 => some a0
  | 1, [v0] => (g8 v0).bind fun a0 => some a0
  | 2, [v0] => (gS v0).bind fun a0 => some a0
  | 3, [v0] => (gI .u8 v0).bind fun a0 => some a0
  | 4, [v0] => (gB v0).bind fun a0 => some a0
  | 5, [v0] => (gL 1 v0).bind fun a0 => some a0
  | 6, [v0] => (gL 0 v0).bind fun a0 => some a0
  | 7, [v0, v1, v2, v3] => (gL 0 v0).bind fun a0 => (gL 0 v1).bind fun a1 => (gL 0 v2).bind fun a2 => (gL 0 v3).bind fun a3 => some ⟨a0, a1, a2, a3⟩
  | 8, [v0, v1, v2, v3, v4, v5, v6] => (gI .i64 v0).bind fun a0 => (gI .u8 v1).bind fun a1 => (gL 1 v2).bind fun a2 => (gL 0 v3).bind fun a3 => (gL 0 v4).bind fun a4 => (gL 0 v5).bind fun a5 => (gL 0 v6).bind fun a6 => some ⟨a0, a1, a2, ⟨a3, a4, a5, a6⟩⟩
  | 9, [v0] => (gL 8 v0).bind fun a0 => some a0
  | 10, [v0, v1, v2, v3, v4, v5] => (gI .i64 v0).bind fun a0 => (gI .i64 v1).bind fun a1 => (gL 0 v2).bind fun a2 => (gL 0 v3).bind fun a3 => (gL 0 v4).bind fun a4 => (gL 0 v5).bind fun a5 => some ⟨a0, a1, ⟨a2, a3, a4, a5⟩⟩
  | 11, [v0, v1, v2, v3, v4, v5, v6, v7, v8, v9, v10, v11, v12, v13, v14, v15, v16, v17, v18, v19] => (gI .u8 v0).bind fun a0 => (gI .i64 v1).bind fun a1 => (gI .i64 v2).bind fun a2 => (gI .i64 v3).bind fun a3 => (gI .i64 v4).bind fun a4 => (gI .i64 v5).bind fun a5 => (gI .i64 v6).bind fun a6 => (gI .i64 v7).bind fun a7 => (gB v8).bind fun a8 => (gL 8 v9).bind fun a9 => (gI .i64 v10).bind fun a10 => (gI .i64 v11).bind fun a11 => (gL 0 v12).bind fun a12 => (gL 0 v13).bind fun a13 => (gL 0 v14).bind fun a14 => (gL 0 v15).bind fun a15 => (gI .i64 v16).bind fun a16 => (gI .i64 v17).bind fun a17 => (gI .i64 v18).bind fun a18 => (gL 1 v19).bind fun a19 => some ⟨a0, a1, a2, a3, a4, a5, a6, a7, a8, a9, ⟨a10, a11, ⟨a12, a13, a14, a15⟩⟩, a16, a17, a18, a19⟩
  | 12, [v0] => (gL 5 v0).bind fun a0 => some a0
  | 13, [v0, v1, v2, v3, v4, v5, v6, v7, v8, v9, v10, v11, v12, v13, v14, v15, v16, v17, v18, v19, v20, v21, v22, v23, v24, v25, v26, v27, v28, v29] => (gI .i64 v0).bind fun a0 => (gI .i64 v1).bind fun a1 => (gI .u8 v2).bind fun a2 => (gI .i64 v3).bind fun a3 => (gI .i64 v4).bind fun a4 => (gI .i64 v5).bind fun a5 => (gI .i64 v6).bind fun a6 => (gI .i64 v7).bind fun a7 => (gI .i64 v8).bind fun a8 => (gI .i64 v9).bind fun a9 => (gB v10).bind fun a10 => (gL 8 v11).bind fun a11 => (gI .i64 v12).bind fun a12 => (gI .i64 v13).bind fun a13 => (gL 0 v14).bind fun a14 => (gL 0 v15).bind fun a15 => (gL 0 v16).bind fun a16 => (gL 0 v17).bind fun a17 => (gI .i64 v18).bind fun a18 => (gI .i64 v19).bind fun a19 => (gI .i64 v20).bind fun a20 => (gL 1 v21).bind fun a21 => (gL 5 v22).bind fun a22 => (gL 0 v23).bind fun a23 => (gI .i64 v24).bind fun a24 => (gI .i64 v25).bind fun a25 => (gL 0 v26).bind fun a26 => (gL 0 v27).bind fun a27 => (gL 0 v28).bind fun a28 => (gL 0 v29).bind fun a29 => some ⟨a0, a1, ⟨a2, a3, a4, a5, a6, a7, a8, a9, a10, a11, ⟨a12, a13, ⟨a14, a15, a16, a17⟩⟩, a18, a19, a20, a21⟩, a22, a23, ⟨a24, a25, ⟨a26, a27, a28, a29⟩⟩⟩
  | 14, [v0, v1, v2, v3] => (gL 0 v0).bind fun a0 => (gL 0 v1).bind fun a1 => (gL 0 v2).bind fun a2 => (gL 0 v3).bind fun a3 => some ⟨⟨a0, a1, a2, a3⟩⟩
  | 15, [v0, v1, v2, v3, v4, v5] => (gI .i64 v0).bind fun a0 => (gI .i64 v1).bind fun a1 => (gI .i64 v2).bind fun a2 => (gI .u8 v3).bind fun a3 => (gI .i64 v4).bind fun a4 => (gI .i64 v5).bind fun a5 => some ⟨a0, a1, a2, a3, a4, a5⟩
  | _, _ => none
def codeT : Nat → Option Nat
  | 3 => some 0
  | 4 => some 4
  | 5 => some 1
  | 31 => some 6
  | 32 => some 9
  | 38 => some 15
  | 42 => some 7
  | 44 => some 10
  | 45 => some 5
  | 47 => some 11
  | 56 => some 12
  | 58 => some 13
  | 83 => some 8
  | 129 => some 14
  | _ => none
theorem back_T : ∀ (E : Nat) (l : List X) (x : Ty E), decT E l = some x → Wks l (encT E x) := by
  intro E l x h
  unfold decT at h
  split at h
  · obtain ⟨a0, h0, h⟩ := bind_some' h
    injection h with h; subst h
    exact .cons (gI_wk h0) (.nil)
  · obtain ⟨a0, h0, h⟩ := bind_some' h
    injection h with h; subst h
    exact .cons (g8_wk h0) (.nil)
  · obtain ⟨a0, h0, h⟩ := bind_some' h
    injection h with h; subst h
    exact .cons (gS_wk h0) (.nil)
  · obtain ⟨a0, h0, h⟩ := bind_some' h
    injection h with h; subst h
    exact .cons (gI_wk h0) (.nil)
  · obtain ⟨a0, h0, h⟩ := bind_some' h
    injection h with h; subst h
    exact .cons (gB_wk h0) (.nil)
  · obtain ⟨a0, h0, h⟩ := bind_some' h
    injection h with h; subst h
    exact .cons (gL_wk h0) (.nil)
  · obtain ⟨a0, h0, h⟩ := bind_some' h
    injection h with h; subst h
    exact .cons (gL_wk h0) (.nil)
  · obtain ⟨a0, h0, h⟩ := bind_some' h
    obtain ⟨a1, h1, h⟩ := bind_some' h
    obtain ⟨a2, h2, h⟩ := bind_some' h
    obtain ⟨a3, h3, h⟩ := bind_some' h
    injection h with h; subst h
    exact .cons (gL_wk h0) (.cons (gL_wk h1) (.cons (gL_wk h2) (.cons (gL_wk h3) (.nil))))
  · obtain ⟨a0, h0, h⟩ := bind_some' h
    obtain ⟨a1, h1, h⟩ := bind_some' h
    obtain ⟨a2, h2, h⟩ := bind_some' h
    obtain ⟨a3, h3, h⟩ := bind_some' h
    obtain ⟨a4, h4, h⟩ := bind_some' h
    obtain ⟨a5, h5, h⟩ := bind_some' h
    obtain ⟨a6, h6, h⟩ := bind_some' h
    injection h with h; subst h
    exact .cons (gI_wk h0) (.cons (gI_wk h1) (.cons (gL_wk h2) (.cons (gL_wk h3) (.cons (gL_wk h4) (.cons (gL_wk h5) (.cons (gL_wk h6) (.nil)))))))
  · obtain ⟨a0, h0, h⟩ := bind_some' h
    injection h with h; subst h
    exact .cons (gL_wk h0) (.nil)
  · obtain ⟨a0, h0, h⟩ := bind_some' h
    obtain ⟨a1, h1, h⟩ := bind_some' h
    obtain ⟨a2, h2, h⟩ := bind_some' h
    obtain ⟨a3, h3, h⟩ := bind_some' h
    obtain ⟨a4, h4, h⟩ := bind_some' h
    obtain ⟨a5, h5, h⟩ := bind_some' h
    injection h with h; subst h
    exact .cons (gI_wk h0) (.cons (gI_wk h1) (.cons (gL_wk h2) (.cons (gL_wk h3) (.cons (gL_wk h4) (.cons (gL_wk h5) (.nil))))))
  · obtain ⟨a0, h0, h⟩ := bind_some' h
    obtain ⟨a1, h1, h⟩ := bind_some' h
    obtain ⟨a2, h2, h⟩ := bind_some' h
    obtain ⟨a3, h3, h⟩ := bind_some' h
    obtain ⟨a4, h4, h⟩ := bind_some' h
    obtain ⟨a5, h5, h⟩ := bind_some' h
    obtain ⟨a6, h6, h⟩ := bind_some' h
    obtain ⟨a7, h7, h⟩ := bind_some' h
    obtain ⟨a8, h8, h⟩ := bind_some' h
    obtain ⟨a9, h9, h⟩ := bind_some' h
    obtain ⟨a10, h10, h⟩ := bind_some' h
    obtain ⟨a11, h11, h⟩ := bind_some' h
    obtain ⟨a12, h12, h⟩ := bind_some' h
    obtain ⟨a13, h13, h⟩ := bind_some' h
    obtain ⟨a14, h14, h⟩ := bind_some' h
    obtain ⟨a15, h15, h⟩ := bind_some' h
    obtain ⟨a16, h16, h⟩ := bind_some' h
    obtain ⟨a17, h17, h⟩ := bind_some' h
    obtain ⟨a18, h18, h⟩ := bind_some' h
    obtain ⟨a19, h19, h⟩ := bind_some' h
    injection h with h; subst h
    exact .cons (gI_wk h0) (.cons (gI_wk h1) (.cons (gI_wk h2) (.cons (gI_wk h3) (.cons (gI_wk h4) (.cons (gI_wk h5) (.cons (gI_wk h6) (.cons (gI_wk h7) (.cons (gB_wk h8) (.cons (gL_wk h9) (.cons (gI_wk h10) (.cons (gI_wk h11) (.cons (gL_wk h12) (.cons (gL_wk h13) (.cons (gL_wk h14) (.cons (gL_wk h15) (.cons (gI_wk h16) (.cons (gI_wk h17) (.cons (gI_wk h18) (.cons (gL_wk h19) (.nil))))))))))))))))))))
  · obtain ⟨a0, h0, h⟩ := bind_some' h
    injection h with h; subst h
    exact .cons (gL_wk h0) (.nil)
  · obtain ⟨a0, h0, h⟩ := bind_some' h
    obtain ⟨a1, h1, h⟩ := bind_some' h
    obtain ⟨a2, h2, h⟩ := bind_some' h
    obtain ⟨a3, h3, h⟩ := bind_some' h
    obtain ⟨a4, h4, h⟩ := bind_some' h
    obtain ⟨a5, h5, h⟩ := bind_some' h
    obtain ⟨a6, h6, h⟩ := bind_some' h
    obtain ⟨a7, h7, h⟩ := bind_some' h
    obtain ⟨a8, h8, h⟩ := bind_some' h
    obtain ⟨a9, h9, h⟩ := bind_some' h
    obtain ⟨a10, h10, h⟩ := bind_some' h
    obtain ⟨a11, h11, h⟩ := bind_some' h
    obtain ⟨a12, h12, h⟩ := bind_some' h
    obtain ⟨a13, h13, h⟩ := bind_some' h
    obtain ⟨a14, h14, h⟩ := bind_some' h
    obtain ⟨a15, h15, h⟩ := bind_some' h
    obtain ⟨a16, h16, h⟩ := bind_some' h
    obtain ⟨a17, h17, h⟩ := bind_some' h
    obtain ⟨a18, h18, h⟩ := bind_some' h
    obtain ⟨a19, h19, h⟩ := bind_some' h
    obtain ⟨a20, h20, h⟩ := bind_some' h
    obtain ⟨a21, h21, h⟩ := bind_some' h
    obtain ⟨a22, h22, h⟩ := bind_some' h
    obtain ⟨a23, h23, h⟩ := bind_some' h
    obtain ⟨a24, h24, h⟩ := bind_some' h
    obtain ⟨a25, h25, h⟩ := bind_some' h
    obtain ⟨a26, h26, h⟩ := bind_some' h
    obtain ⟨a27, h27, h⟩ := bind_some' h
    obtain ⟨a28, h28, h⟩ := bind_some' h
    obtain ⟨a29, h29, h⟩ := bind_some' h
    injection h with h; subst h
    exact .cons (gI_wk h0) (.cons (gI_wk h1) (.cons (gI_wk h2) (.cons (gI_wk h3) (.cons (gI_wk h4) (.cons (gI_wk h5) (.cons (gI_wk h6) (.cons (gI_wk h7) (.cons (gI_wk h8) (.cons (gI_wk h9) (.cons (gB_wk h10) (.cons (gL_wk h11) (.cons (gI_wk h12) (.cons (gI_wk h13) (.cons (gL_wk h14) (.cons (gL_wk h15) (.cons (gL_wk h16) (.cons (gL_wk h17) (.cons (gI_wk h18) (.cons (gI_wk h19) (.cons (gI_wk h20) (.cons (gL_wk h21) (.cons (gL_wk h22) (.cons (gL_wk h23) (.cons (gI_wk h24) (.cons (gI_wk h25) (.cons (gL_wk h26) (.cons (gL_wk h27) (.cons (gL_wk h28) (.cons (gL_wk h29) (.nil))))))))))))))))))))))))))))))
  · obtain ⟨a0, h0, h⟩ := bind_some' h
    obtain ⟨a1, h1, h⟩ := bind_some' h
    obtain ⟨a2, h2, h⟩ := bind_some' h
    obtain ⟨a3, h3, h⟩ := bind_some' h
    injection h with h; subst h
    exact .cons (gL_wk h0) (.cons (gL_wk h1) (.cons (gL_wk h2) (.cons (gL_wk h3) (.nil))))
  · obtain ⟨a0, h0, h⟩ := bind_some' h
    obtain ⟨a1, h1, h⟩ := bind_some' h
    obtain ⟨a2, h2, h⟩ := bind_some' h
    obtain ⟨a3, h3, h⟩ := bind_some' h
    obtain ⟨a4, h4, h⟩ := bind_some' h
    obtain ⟨a5, h5, h⟩ := bind_some' h
    injection h with h; subst h
    exact .cons (gI_wk h0) (.cons (gI_wk h1) (.cons (gI_wk h2) (.cons (gI_wk h3) (.cons (gI_wk h4) (.cons (gI_wk h5) (.nil))))))
  · cases h
def bytT : (E : Nat) → List (Ty E) → Option (List UInt8)
  | 1, xs => some xs
  | _, _ => none
theorem enc_b1 : ∀ xs : List UInt8, xs.flatMap (encT 1) = xs.map fun b => XV.int .u8 (b.toNat : Int)
  | [] => rfl
  | x :: xs => by rw [List.flatMap_cons, enc_b1 xs]; rfl
def unbT : (E : Nat) → List UInt8 → Option (List (Ty E))
  | 1, xs => some xs
  | _, _ => none
def CT : Codec Ty where
  unb := unbT
  unb_ok := by
    intro E bs xs h
    unfold unbT at h
    split at h
    · injection h with h; subst h; exact enc_b1 _
    · cases h
  unb_len := by
    intro E bs xs h
    unfold unbT at h
    split at h
    · injection h with h; subst h; rfl
    · cases h
  byt := bytT
  byt_ok := by
    intro E xs bs h
    unfold bytT at h
    split at h
    · injection h with h; subst h; exact enc_b1 _
    · cases h
  byt_sz := by
    intro E xs bs h
    unfold bytT at h
    split at h
    · rfl
    · cases h
  enc := encT
  dec := decT
  sz := szT
  code := codeT
  len := by intro E x; unfold encT; split <;> first | rfl | exact List.length_replicate
  pos := by intro E; unfold szT; split <;> decide
  shut := by
    intro E x v hv
    have key : ∀ l : List X, (l.all XV.closed) = true → v ∈ l → v.closed = true := fun l h1 h2 => List.all_eq_true.1 h1 v h2
    unfold encT at hv
    split at hv
    all_goals first | (rw [List.eq_of_mem_replicate hv]; rfl) | exact key _ rfl hv
  back := back_T
theorem mixedP : Tryz.prog.follows .mixedOrders = true := by kernel_rfl
abbrev LI := List Int
abbrev LB := List UInt8
abbrev CEp := CE CT Tryz.prog
abbrev LEp := LE CT Tryz.prog
def lt0 : List LEp := []
def dr0 : Nat → Nat → DrA | _, _ => ⟨[], [], [], [], [], false, []⟩
theorem ceO {f : FuncId} {fn : Func} {args : List Vs} {hs : List Hs} {res : Rs} {outs : List Hs} {m : VsD Ty args → HsD Ty hs → Option (res.D Ty × HsD Ty outs)} (hf : Tryz.prog.funcs[f]? = some fn) (hok : fnOk Tryz.prog fn args.length = true) (tb : List CEp) (hn : (loopsOf (bodyOf fn)).length = 0) (hrun : ∀ d dh, xfun CT Tryz.prog (touOf tb) (orcOf tb) dr0 (lpsOf lt0) fn (stVs CT args d) (stHs CT hs dh) (fun v h => rdOut CT hs.length res outs (idPi 0 hs) v h fun d dh => some (d, dh)) = m d dh) : ∀ d dh r, m d dh = some r → Tr CT Tryz.prog (fun _ => True) f (stVs CT args d) (stHs CT hs dh) (res.st CT r.1) (stHs CT outs r.2) := ce_ok mixedP hf hok (orcOf_ok tb) (lps := lpsOf lt0) (lps_fn (no_loop hn)) hrun
def ok_Ii64 (x : Int) : Prop := InK .i64 x
def ok_UInt8 (x : UInt8) : Prop := True
def ok_Iu8 (x : Int) : Prop := InK .u8 x
def ok_Bool (x : Bool) : Prop := True
def ok_LUInt8 (x : List (UInt8)) : Prop := OkL 1 ok_UInt8 x
def ok_LIi64 (x : List (Int)) : Prop := OkL 8 ok_Ii64 x
def ok_DConfig (x : DConfig) : Prop := ok_LIi64 x.voters ∧ ok_LIi64 x.old ∧ ok_LIi64 x.learners ∧ ok_LIi64 x.want ∧ True
def ok_DEntry (x : DEntry) : Prop := ok_Ii64 x.term_ ∧ ok_Iu8 x.kind ∧ ok_LUInt8 x.command ∧ ok_DConfig x.config ∧ True
def ok_LDEntry (x : List (DEntry)) : Prop := OkL 129 ok_DEntry x
def ok_DBase (x : DBase) : Prop := ok_Ii64 x.index ∧ ok_Ii64 x.term_ ∧ ok_DConfig x.config ∧ True
def ok_DLetter (x : DLetter) : Prop := ok_Iu8 x.kind ∧ ok_Ii64 x.group ∧ ok_Ii64 x.from_ ∧ ok_Ii64 x.to_ ∧ ok_Ii64 x.term_ ∧ ok_Ii64 x.index ∧ ok_Ii64 x.logTerm ∧ ok_Ii64 x.commit ∧ ok_Bool x.ok ∧ ok_LDEntry x.entries ∧ ok_DBase x.base ∧ ok_Ii64 x.size ∧ ok_Ii64 x.at_ ∧ ok_Ii64 x.tag ∧ ok_LUInt8 x.bytes ∧ True
def ok_LLUInt8 (x : List (List (UInt8))) : Prop := OkL 24 ok_LUInt8 x
def ok_DCall (x : DCall) : Prop := ok_Ii64 x.kind ∧ ok_Ii64 x.n ∧ ok_DLetter x.letter ∧ ok_LLUInt8 x.rows ∧ ok_LIi64 x.want ∧ ok_DBase x.base ∧ True
theorem fit_0 : ∀ ds, FitsAll [.i .i64] ds → (∀ d ∈ ds, Small d) → ∃ x : Ty 0, DXs CT (CT.enc 0 x) ds ∧ ok_Ii64 x := by
  intro ds h hs
  obtain ⟨d0, ds0, rfl, f0, h⟩ := fitsAll_cons h
  obtain rfl := fitsAll_nil h
  obtain ⟨a0, rfl, k0⟩ := fits_i f0
  exact ⟨a0, .int _ _ (.none), k0⟩
theorem fit_1 : ∀ ds, FitsAll [.i .u8] ds → (∀ d ∈ ds, Small d) → ∃ x : Ty 1, DXs CT (CT.enc 1 x) ds ∧ ok_UInt8 x := by
  intro ds h hs
  obtain ⟨d0, ds0, rfl, f0, h⟩ := fitsAll_cons h
  obtain rfl := fitsAll_nil h
  obtain ⟨a0, rfl⟩ := fits_byte f0
  exact ⟨a0, .int _ _ (.none), trivial⟩
theorem fit_5 : ∀ ds, FitsAll [.l [.i .u8]] ds → (∀ d ∈ ds, Small d) → ∃ x : Ty 5, DXs CT (CT.enc 5 x) ds ∧ ok_LUInt8 x := by
  intro ds h hs
  obtain ⟨d0, ds0, rfl, f0, h⟩ := fitsAll_cons h
  obtain rfl := fitsAll_nil h
  obtain ⟨a0, es0, rfl, q0, k0⟩ := fits_sl fit_1 rfl f0 (hs _ (by simp))
  exact ⟨a0, .sl _ _ _ q0 (.none), k0⟩
theorem fit_8 : ∀ ds, FitsAll [.i .i64, .i .u8, .l [.i .u8], .l [.i .i64], .l [.i .i64], .l [.i .i64], .l [.i .i64]] ds → (∀ d ∈ ds, Small d) → ∃ x : Ty 8, DXs CT (CT.enc 8 x) ds ∧ ok_DEntry x := by
  intro ds h hs
  obtain ⟨d0, ds0, rfl, f0, h⟩ := fitsAll_cons h
  obtain ⟨d1, ds1, rfl, f1, h⟩ := fitsAll_cons h
  obtain ⟨d2, ds2, rfl, f2, h⟩ := fitsAll_cons h
  obtain ⟨d3, ds3, rfl, f3, h⟩ := fitsAll_cons h
  obtain ⟨d4, ds4, rfl, f4, h⟩ := fitsAll_cons h
  obtain ⟨d5, ds5, rfl, f5, h⟩ := fitsAll_cons h
  obtain ⟨d6, ds6, rfl, f6, h⟩ := fitsAll_cons h
  obtain rfl := fitsAll_nil h
  obtain ⟨a0, rfl, k0⟩ := fits_i f0
  obtain ⟨a1, rfl, k1⟩ := fits_i f1
  obtain ⟨a2, es2, rfl, q2, k2⟩ := fits_sl fit_1 rfl f2 (hs _ (by simp))
  obtain ⟨a3, es3, rfl, q3, k3⟩ := fits_sl fit_0 rfl f3 (hs _ (by simp))
  obtain ⟨a4, es4, rfl, q4, k4⟩ := fits_sl fit_0 rfl f4 (hs _ (by simp))
  obtain ⟨a5, es5, rfl, q5, k5⟩ := fits_sl fit_0 rfl f5 (hs _ (by simp))
  obtain ⟨a6, es6, rfl, q6, k6⟩ := fits_sl fit_0 rfl f6 (hs _ (by simp))
  exact ⟨⟨a0, a1, a2, ⟨a3, a4, a5, a6⟩⟩, .int _ _ (.int _ _ (.sl _ _ _ q2 (.sl _ _ _ q3 (.sl _ _ _ q4 (.sl _ _ _ q5 (.sl _ _ _ q6 (.none))))))), ⟨k0, k1, k2, ⟨k3, k4, k5, k6, trivial⟩, trivial⟩⟩
theorem fit_13 : ∀ ds, FitsAll [.i .i64, .i .i64, .i .u8, .i .i64, .i .i64, .i .i64, .i .i64, .i .i64, .i .i64, .i .i64, .b, .l [.i .i64, .i .u8, .l [.i .u8], .l [.i .i64], .l [.i .i64], .l [.i .i64], .l [.i .i64]], .i .i64, .i .i64, .l [.i .i64], .l [.i .i64], .l [.i .i64], .l [.i .i64], .i .i64, .i .i64, .i .i64, .l [.i .u8], .l [.l [.i .u8]], .l [.i .i64], .i .i64, .i .i64, .l [.i .i64], .l [.i .i64], .l [.i .i64], .l [.i .i64]] ds → (∀ d ∈ ds, Small d) → ∃ x : Ty 13, DXs CT (CT.enc 13 x) ds ∧ ok_DCall x := by
  intro ds h hs
  obtain ⟨d0, ds0, rfl, f0, h⟩ := fitsAll_cons h
  obtain ⟨d1, ds1, rfl, f1, h⟩ := fitsAll_cons h
  obtain ⟨d2, ds2, rfl, f2, h⟩ := fitsAll_cons h
  obtain ⟨d3, ds3, rfl, f3, h⟩ := fitsAll_cons h
  obtain ⟨d4, ds4, rfl, f4, h⟩ := fitsAll_cons h
  obtain ⟨d5, ds5, rfl, f5, h⟩ := fitsAll_cons h
  obtain ⟨d6, ds6, rfl, f6, h⟩ := fitsAll_cons h
  obtain ⟨d7, ds7, rfl, f7, h⟩ := fitsAll_cons h
  obtain ⟨d8, ds8, rfl, f8, h⟩ := fitsAll_cons h
  obtain ⟨d9, ds9, rfl, f9, h⟩ := fitsAll_cons h
  obtain ⟨d10, ds10, rfl, f10, h⟩ := fitsAll_cons h
  obtain ⟨d11, ds11, rfl, f11, h⟩ := fitsAll_cons h
  obtain ⟨d12, ds12, rfl, f12, h⟩ := fitsAll_cons h
  obtain ⟨d13, ds13, rfl, f13, h⟩ := fitsAll_cons h
  obtain ⟨d14, ds14, rfl, f14, h⟩ := fitsAll_cons h
  obtain ⟨d15, ds15, rfl, f15, h⟩ := fitsAll_cons h
  obtain ⟨d16, ds16, rfl, f16, h⟩ := fitsAll_cons h
  obtain ⟨d17, ds17, rfl, f17, h⟩ := fitsAll_cons h
  obtain ⟨d18, ds18, rfl, f18, h⟩ := fitsAll_cons h
  obtain ⟨d19, ds19, rfl, f19, h⟩ := fitsAll_cons h
  obtain ⟨d20, ds20, rfl, f20, h⟩ := fitsAll_cons h
  obtain ⟨d21, ds21, rfl, f21, h⟩ := fitsAll_cons h
  obtain ⟨d22, ds22, rfl, f22, h⟩ := fitsAll_cons h
  obtain ⟨d23, ds23, rfl, f23, h⟩ := fitsAll_cons h
  obtain ⟨d24, ds24, rfl, f24, h⟩ := fitsAll_cons h
  obtain ⟨d25, ds25, rfl, f25, h⟩ := fitsAll_cons h
  obtain ⟨d26, ds26, rfl, f26, h⟩ := fitsAll_cons h
  obtain ⟨d27, ds27, rfl, f27, h⟩ := fitsAll_cons h
  obtain ⟨d28, ds28, rfl, f28, h⟩ := fitsAll_cons h
  obtain ⟨d29, ds29, rfl, f29, h⟩ := fitsAll_cons h
  obtain rfl := fitsAll_nil h
  obtain ⟨a0, rfl, k0⟩ := fits_i f0
  obtain ⟨a1, rfl, k1⟩ := fits_i f1
  obtain ⟨a2, rfl, k2⟩ := fits_i f2
  obtain ⟨a3, rfl, k3⟩ := fits_i f3
  obtain ⟨a4, rfl, k4⟩ := fits_i f4
  obtain ⟨a5, rfl, k5⟩ := fits_i f5
  obtain ⟨a6, rfl, k6⟩ := fits_i f6
  obtain ⟨a7, rfl, k7⟩ := fits_i f7
  obtain ⟨a8, rfl, k8⟩ := fits_i f8
  obtain ⟨a9, rfl, k9⟩ := fits_i f9
  obtain ⟨a10, rfl⟩ := fits_b f10
  obtain ⟨a11, es11, rfl, q11, k11⟩ := fits_sl fit_8 rfl f11 (hs _ (by simp))
  obtain ⟨a12, rfl, k12⟩ := fits_i f12
  obtain ⟨a13, rfl, k13⟩ := fits_i f13
  obtain ⟨a14, es14, rfl, q14, k14⟩ := fits_sl fit_0 rfl f14 (hs _ (by simp))
  obtain ⟨a15, es15, rfl, q15, k15⟩ := fits_sl fit_0 rfl f15 (hs _ (by simp))
  obtain ⟨a16, es16, rfl, q16, k16⟩ := fits_sl fit_0 rfl f16 (hs _ (by simp))
  obtain ⟨a17, es17, rfl, q17, k17⟩ := fits_sl fit_0 rfl f17 (hs _ (by simp))
  obtain ⟨a18, rfl, k18⟩ := fits_i f18
  obtain ⟨a19, rfl, k19⟩ := fits_i f19
  obtain ⟨a20, rfl, k20⟩ := fits_i f20
  obtain ⟨a21, es21, rfl, q21, k21⟩ := fits_sl fit_1 rfl f21 (hs _ (by simp))
  obtain ⟨a22, es22, rfl, q22, k22⟩ := fits_sl fit_5 rfl f22 (hs _ (by simp))
  obtain ⟨a23, es23, rfl, q23, k23⟩ := fits_sl fit_0 rfl f23 (hs _ (by simp))
  obtain ⟨a24, rfl, k24⟩ := fits_i f24
  obtain ⟨a25, rfl, k25⟩ := fits_i f25
  obtain ⟨a26, es26, rfl, q26, k26⟩ := fits_sl fit_0 rfl f26 (hs _ (by simp))
  obtain ⟨a27, es27, rfl, q27, k27⟩ := fits_sl fit_0 rfl f27 (hs _ (by simp))
  obtain ⟨a28, es28, rfl, q28, k28⟩ := fits_sl fit_0 rfl f28 (hs _ (by simp))
  obtain ⟨a29, es29, rfl, q29, k29⟩ := fits_sl fit_0 rfl f29 (hs _ (by simp))
  exact ⟨⟨a0, a1, ⟨a2, a3, a4, a5, a6, a7, a8, a9, a10, a11, ⟨a12, a13, ⟨a14, a15, a16, a17⟩⟩, a18, a19, a20, a21⟩, a22, a23, ⟨a24, a25, ⟨a26, a27, a28, a29⟩⟩⟩, .int _ _ (.int _ _ (.int _ _ (.int _ _ (.int _ _ (.int _ _ (.int _ _ (.int _ _ (.int _ _ (.int _ _ (.bool _ (.sl _ _ _ q11 (.int _ _ (.int _ _ (.sl _ _ _ q14 (.sl _ _ _ q15 (.sl _ _ _ q16 (.sl _ _ _ q17 (.int _ _ (.int _ _ (.int _ _ (.sl _ _ _ q21 (.sl _ _ _ q22 (.sl _ _ _ q23 (.int _ _ (.int _ _ (.sl _ _ _ q26 (.sl _ _ _ q27 (.sl _ _ _ q28 (.sl _ _ _ q29 (.none)))))))))))))))))))))))))))))), ⟨k0, k1, ⟨k2, k3, k4, k5, k6, k7, k8, k9, trivial, k11, ⟨k12, k13, ⟨k14, k15, k16, k17, trivial⟩, trivial⟩, k18, k19, k20, k21, trivial⟩, k22, k23, ⟨k24, k25, ⟨k26, k27, k28, k29, trivial⟩, trivial⟩, trivial⟩⟩
end Go.Proofs.YtmffcfjdacoigaaGreat
