/- Typed data, by program. -/
import Derived.Test.YtaihdjknneiciaaGreatBr
import Derived.Test.YtaihdjknneiciaaGreatChecked
namespace Go.Proofs.YtaihdjknneiciaaGreat
open Go.RowKit
set_option maxRecDepth 100000
set_option linter.unusedVariables false
set_option maxHeartbeats 4000000
structure Zao where
 lo : List UInt8
 hi : List UInt8
 deriving DecidableEq
structure Zaf where
 span : Zao
 group : Int
 epoch : Int
 deriving DecidableEq
structure Zai where
 epoch : Int
 list : List (Zaf)
 deriving DecidableEq
structure ZeT where
 shares : Zai
 deriving DecidableEq
structure ZqZ where
 s : List UInt8
 deriving DecidableEq
structure ZGg where
 text : ZqZ
 deriving DecidableEq
structure ZzE where
 text : ZqZ
 deriving DecidableEq
structure ZfX where
 client : Int
 num : Int
 deriving DecidableEq
structure ZaZ where
 key : List UInt8
 is : Bool
 value : List UInt8
 deriving DecidableEq
structure Zac where
 name : ZfX
 commit : Bool
 at_ : Int
 reads : List (ZaZ)
 deriving DecidableEq
structure Zak where
 num : Int
 span : Zao
 from_ : Int
 to_ : Int
 epoch : Int
 under : Int
 stage : Int
 deriving DecidableEq
structure ZjH where
 shares : Zai
 under : Bool
 x : Zak
 deriving DecidableEq
structure Zlu where
 scheme : Zak
 deriving DecidableEq
structure Zd8 where
 made : Bool
 failed : Bool
 left : List (UInt8)
 deriving DecidableEq
structure Zam where
 place : Zd8
 deriving DecidableEq
structure ZaA where
 left : List (UInt8)
 failed : Bool
 deriving DecidableEq
structure Zae where
 name : ZfX
 commit : Bool
 at_ : Int
 reads : List (ZaZ)
 deriving DecidableEq
@[reducible] def Ty : Nat -> Type
 | 0 => Int
 | 1 => UInt8
 | 2 => List UInt8
 | 3 => List (List UInt8)
 | 4 => Zao
 | 5 => Zaf
 | 6 => Zaf
 | 7 => List (Zaf)
 | 8 => Zai
 | 9 => ZeT
 | 10 => ZqZ
 | 11 => ZGg
 | 12 => ZzE
 | 13 => ZfX
 | 14 => Bool
 | 15 => ZaZ
 | 16 => List (ZaZ)
 | 17 => Zac
 | 18 => Int
 | 19 => Zak
 | 20 => ZjH
 | 21 => Zlu
 | 22 => List (UInt8)
 | 23 => Zd8
 | 24 => Zam
 | 25 => ZaA
 | 26 => Zae
 | _ => Unit
abbrev X := XV Ty
def szT : Nat -> Nat
 | 0 => 1
 | 1 => 1
 | 2 => 1
 | 3 => 1
 | 4 => 2
 | 5 => 4
 | 6 => 4
 | 7 => 1
 | 8 => 2
 | 9 => 2
 | 10 => 1
 | 11 => 1
 | 12 => 1
 | 13 => 2
 | 14 => 1
 | 15 => 3
 | 16 => 1
 | 17 => 5
 | 18 => 1
 | 19 => 8
 | 20 => 11
 | 21 => 8
 | 22 => 1
 | 23 => 3
 | 24 => 3
 | 25 => 2
 | 26 => 5
 | _ => 1
def ZEE : (E : Nat) -> Ty E -> List X
 | 0, x => [.int .i64 x]
 | 1, x => [.int .u8 (x.toNat : Int)]
 | 2, x => [.str x]
 | 3, x => [.sl 2 x none]
 | 4, x => [.str x.lo, .str x.hi]
 | 5, x => [.str x.span.lo, .str x.span.hi, .int .i64 x.group, .int .i64 x.epoch]
 | 6, x => [.str x.span.lo, .str x.span.hi, .int .i64 x.group, .int .i64 x.epoch]
 | 7, x => [.sl 5 x none]
 | 8, x => [.int .i64 x.epoch, .sl 5 x.list none]
 | 9, x => [.int .i64 x.shares.epoch, .sl 5 x.shares.list none]
 | 10, x => [.str x.s]
 | 11, x => [.str x.text.s]
 | 12, x => [.str x.text.s]
 | 13, x => [.int .i64 x.client, .int .i64 x.num]
 | 14, x => [.bool x]
 | 15, x => [.str x.key, .bool x.is, .str x.value]
 | 16, x => [.sl 15 x none]
 | 17, x => [.int .i64 x.name.client, .int .i64 x.name.num, .bool x.commit, .int .i64 x.at_, .sl 15 x.reads none]
 | 18, x => [.int .u8 x]
 | 19, x => [.int .i64 x.num, .str x.span.lo, .str x.span.hi, .int .i64 x.from_, .int .i64 x.to_, .int .i64 x.epoch, .int .i64 x.under, .int .u8 x.stage]
 | 20, x => [.int .i64 x.shares.epoch, .sl 5 x.shares.list none, .bool x.under, .int .i64 x.x.num, .str x.x.span.lo, .str x.x.span.hi, .int .i64 x.x.from_, .int .i64 x.x.to_, .int .i64 x.x.epoch, .int .i64 x.x.under, .int .u8 x.x.stage]
 | 21, x => [.int .i64 x.scheme.num, .str x.scheme.span.lo, .str x.scheme.span.hi, .int .i64 x.scheme.from_, .int .i64 x.scheme.to_, .int .i64 x.scheme.epoch, .int .i64 x.scheme.under, .int .u8 x.scheme.stage]
 | 22, x => [.sl 1 x none]
 | 23, x => [.bool x.made, .bool x.failed, .sl 1 x.left none]
 | 24, x => [.bool x.place.made, .bool x.place.failed, .sl 1 x.place.left none]
 | 25, x => [.sl 1 x.left none, .bool x.failed]
 | 26, x => [.int .i64 x.name.client, .int .i64 x.name.num, .bool x.commit, .int .i64 x.at_, .sl 15 x.reads none]
 | E, _ => List.replicate (szT E) (.bool true)
def gI (k : IntKind) (v : X) : Option Int := match v with
 | .int k' n => if k' = k then some n else none
 | _ => none
def g8 (v : X) : Option UInt8 := match v with
 | .int .u8 n => if 0 <= n /\ n < 256 then some (UInt8.ofNat n.toNat) else none
 | _ => none
def gB (v : X) : Option Bool := match v with
 | .bool b => some b
 | _ => none
def gS (v : X) : Option (List UInt8) := match v with
 | .str b => some b
 | _ => none
def gL (E : Nat) (v : X) : Option (List (Ty E)) := match v with
 | .sl E' xs _ => if h : E' = E then some (h ▸ xs) else none
 | .nil => some []
 | .slx E' xs _ => if h : E' = E then some (h ▸ xs) else none
 | _ => none
theorem ZcX {k : IntKind} {v : X} {n : Int} (h : gI k v = some n) : Wk v (.int k n) := by
 unfold gI at h
 split at h
 ·split at h
  ·rename_i e; subst e; injection h with h; subst h; exact .same _
  ·cases h
 ·cases h
theorem ZGh {v : X} {n : UInt8} (h : g8 v = some n) : Wk v (.int .u8 (n.toNat : Int)) := by
 unfold g8 at h
 split at h
 ·split at h
  ·rename_i m hr; injection h with h; subst h
   have : ((UInt8.ofNat m.toNat).toNat : Int) = m := by simp; omega
   rw [this]; exact .same _
  ·cases h
 ·cases h
theorem ZsG {v : X} {b : Bool} (h : gB v = some b) : Wk v (.bool b) := by
 unfold gB at h
 split at h
 ·injection h with h; subst h; exact .same _
 ·cases h
theorem Zjr {v : X} {b : List UInt8} (h : gS v = some b) : Wk v (.str b) := by
 unfold gS at h
 split at h
 ·injection h with h; subst h; exact .same _
 ·cases h
theorem Zpm {E : Nat} {v : X} {xs : List (Ty E)} (h : gL E v = some xs) : Wk v (.sl E xs none) := by
 unfold gL at h
 split at h
 ·split at h
  ·rename_i o e; subst e; injection h with h; subst h
   cases o with
   | none => exact .same _
   | some r => exact .drop _ _ _
  ·cases h
 ·injection h with h; subst h; exact .nil _
 ·split at h
  ·rename_i e; subst e; injection h with h; subst h; exact .spare _ _ _
  ·cases h
 ·cases h
def ZGi : (E : Nat) -> List X -> Option (Ty E)
 | 0, [v0] => (gI .i64 v0).bind fun a0 => some a0
 | 1, [v0] => (g8 v0).bind fun a0 => some a0
 | 2, [v0] => (gS v0).bind fun a0 => some a0
 | 3, [v0] => (gL 2 v0).bind fun a0 => some a0
 | 4, [v0, v1] => (gS v0).bind fun a0 => (gS v1).bind fun a1 => some ⟨a0, a1⟩
 | 5, [v0, v1, v2, v3] => (gS v0).bind fun a0 => (gS v1).bind fun a1 => (gI .i64 v2).bind fun a2 => (gI .i64 v3).bind fun a3 => some ⟨⟨a0, a1⟩, a2, a3⟩
 | 6, [v0, v1, v2, v3] => (gS v0).bind fun a0 => (gS v1).bind fun a1 => (gI .i64 v2).bind fun a2 => (gI .i64 v3).bind fun a3 => some ⟨⟨a0, a1⟩, a2, a3⟩
 | 7, [v0] => (gL 5 v0).bind fun a0 => some a0
 | 8, [v0, v1] => (gI .i64 v0).bind fun a0 => (gL 5 v1).bind fun a1 => some ⟨a0, a1⟩
 | 9, [v0, v1] => (gI .i64 v0).bind fun a0 => (gL 5 v1).bind fun a1 => some ⟨⟨a0, a1⟩⟩
 | 10, [v0] => (gS v0).bind fun a0 => some ⟨a0⟩
 | 11, [v0] => (gS v0).bind fun a0 => some ⟨⟨a0⟩⟩
 | 12, [v0] => (gS v0).bind fun a0 => some ⟨⟨a0⟩⟩
 | 13, [v0, v1] => (gI .i64 v0).bind fun a0 => (gI .i64 v1).bind fun a1 => some ⟨a0, a1⟩
 | 14, [v0] => (gB v0).bind fun a0 => some a0
 | 15, [v0, v1, v2] => (gS v0).bind fun a0 => (gB v1).bind fun a1 => (gS v2).bind fun a2 => some ⟨a0, a1, a2⟩
 | 16, [v0] => (gL 15 v0).bind fun a0 => some a0
 | 17, [v0, v1, v2, v3, v4] => (gI .i64 v0).bind fun a0 => (gI .i64 v1).bind fun a1 => (gB v2).bind fun a2 => (gI .i64 v3).bind fun a3 => (gL 15 v4).bind fun a4 => some ⟨⟨a0, a1⟩, a2, a3, a4⟩
 | 18, [v0] => (gI .u8 v0).bind fun a0 => some a0
 | 19, [v0, v1, v2, v3, v4, v5, v6, v7] => (gI .i64 v0).bind fun a0 => (gS v1).bind fun a1 => (gS v2).bind fun a2 => (gI .i64 v3).bind fun a3 => (gI .i64 v4).bind fun a4 => (gI .i64 v5).bind fun a5 => (gI .i64 v6).bind fun a6 => (gI .u8 v7).bind fun a7 => some ⟨a0, ⟨a1, a2⟩, a3, a4, a5, a6, a7⟩
 | 20, [v0, v1, v2, v3, v4, v5, v6, v7, v8, v9, v10] => (gI .i64 v0).bind fun a0 => (gL 5 v1).bind fun a1 => (gB v2).bind fun a2 => (gI .i64 v3).bind fun a3 => (gS v4).bind fun a4 => (gS v5).bind fun a5 => (gI .i64 v6).bind fun a6 => (gI .i64 v7).bind fun a7 => (gI .i64 v8).bind fun a8 => (gI .i64 v9).bind fun a9 => (gI .u8 v10).bind fun a10 => some ⟨⟨a0, a1⟩, a2, ⟨a3, ⟨a4, a5⟩, a6, a7, a8, a9, a10⟩⟩
 | 21, [v0, v1, v2, v3, v4, v5, v6, v7] => (gI .i64 v0).bind fun a0 => (gS v1).bind fun a1 => (gS v2).bind fun a2 => (gI .i64 v3).bind fun a3 => (gI .i64 v4).bind fun a4 => (gI .i64 v5).bind fun a5 => (gI .i64 v6).bind fun a6 => (gI .u8 v7).bind fun a7 => some ⟨⟨a0, ⟨a1, a2⟩, a3, a4, a5, a6, a7⟩⟩
 | 22, [v0] => (gL 1 v0).bind fun a0 => some a0
 | 23, [v0, v1, v2] => (gB v0).bind fun a0 => (gB v1).bind fun a1 => (gL 1 v2).bind fun a2 => some ⟨a0, a1, a2⟩
 | 24, [v0, v1, v2] => (gB v0).bind fun a0 => (gB v1).bind fun a1 => (gL 1 v2).bind fun a2 => some ⟨⟨a0, a1, a2⟩⟩
 | 25, [v0, v1] => (gL 1 v0).bind fun a0 => (gB v1).bind fun a1 => some ⟨a0, a1⟩
 | 26, [v0, v1, v2, v3, v4] => (gI .i64 v0).bind fun a0 => (gI .i64 v1).bind fun a1 => (gB v2).bind fun a2 => (gI .i64 v3).bind fun a3 => (gL 15 v4).bind fun a4 => some ⟨⟨a0, a1⟩, a2, a3, a4⟩
 | _, _ => none
def ZGj : Nat -> Option Nat
 | 3 => some 0
 | 4 => some 14
 | 5 => some 1
 | 9 => some 2
 | 27 => some 7
 | 29 => some 8
 | 35 => some 4
 | 36 => some 1
 | 38 => some 13
 | 39 => some 16
 | 41 => some 17
 | 48 => some 22
 | 71 => some 19
 | 78 => some 25
 | 84 => some 3
 | 99 => some 5
 | 107 => some 20
 | 117 => some 26
 | 168 => some 23
 | 170 => some 24
 | 188 => some 9
 | 247 => some 15
 | 252 => some 21
 | 262 => some 10
 | 264 => some 11
 | 265 => some 12
 | _ => none
theorem ZFg : ∀ (E : Nat) (l : List X) (x : Ty E), ZGi E l = some x -> Wks l (ZEE E x) := by
 intro E l x h
 unfold ZGi at h
 split at h
 ·obtain ⟨a0, h0, h⟩ := Zah h
  injection h with h; subst h
  exact .cons (ZcX h0) (.nil)
 ·obtain ⟨a0, h0, h⟩ := Zah h
  injection h with h; subst h
  exact .cons (ZGh h0) (.nil)
 ·obtain ⟨a0, h0, h⟩ := Zah h
  injection h with h; subst h
  exact .cons (Zjr h0) (.nil)
 ·obtain ⟨a0, h0, h⟩ := Zah h
  injection h with h; subst h
  exact .cons (Zpm h0) (.nil)
 ·obtain ⟨a0, h0, h⟩ := Zah h
  obtain ⟨a1, h1, h⟩ := Zah h
  injection h with h; subst h
  exact .cons (Zjr h0) (.cons (Zjr h1) (.nil))
 ·obtain ⟨a0, h0, h⟩ := Zah h
  obtain ⟨a1, h1, h⟩ := Zah h
  obtain ⟨a2, h2, h⟩ := Zah h
  obtain ⟨a3, h3, h⟩ := Zah h
  injection h with h; subst h
  exact .cons (Zjr h0) (.cons (Zjr h1) (.cons (ZcX h2) (.cons (ZcX h3) (.nil))))
 ·obtain ⟨a0, h0, h⟩ := Zah h
  obtain ⟨a1, h1, h⟩ := Zah h
  obtain ⟨a2, h2, h⟩ := Zah h
  obtain ⟨a3, h3, h⟩ := Zah h
  injection h with h; subst h
  exact .cons (Zjr h0) (.cons (Zjr h1) (.cons (ZcX h2) (.cons (ZcX h3) (.nil))))
 ·obtain ⟨a0, h0, h⟩ := Zah h
  injection h with h; subst h
  exact .cons (Zpm h0) (.nil)
 ·obtain ⟨a0, h0, h⟩ := Zah h
  obtain ⟨a1, h1, h⟩ := Zah h
  injection h with h; subst h
  exact .cons (ZcX h0) (.cons (Zpm h1) (.nil))
 ·obtain ⟨a0, h0, h⟩ := Zah h
  obtain ⟨a1, h1, h⟩ := Zah h
  injection h with h; subst h
  exact .cons (ZcX h0) (.cons (Zpm h1) (.nil))
 ·obtain ⟨a0, h0, h⟩ := Zah h
  injection h with h; subst h
  exact .cons (Zjr h0) (.nil)
 ·obtain ⟨a0, h0, h⟩ := Zah h
  injection h with h; subst h
  exact .cons (Zjr h0) (.nil)
 ·obtain ⟨a0, h0, h⟩ := Zah h
  injection h with h; subst h
  exact .cons (Zjr h0) (.nil)
 ·obtain ⟨a0, h0, h⟩ := Zah h
  obtain ⟨a1, h1, h⟩ := Zah h
  injection h with h; subst h
  exact .cons (ZcX h0) (.cons (ZcX h1) (.nil))
 ·obtain ⟨a0, h0, h⟩ := Zah h
  injection h with h; subst h
  exact .cons (ZsG h0) (.nil)
 ·obtain ⟨a0, h0, h⟩ := Zah h
  obtain ⟨a1, h1, h⟩ := Zah h
  obtain ⟨a2, h2, h⟩ := Zah h
  injection h with h; subst h
  exact .cons (Zjr h0) (.cons (ZsG h1) (.cons (Zjr h2) (.nil)))
 ·obtain ⟨a0, h0, h⟩ := Zah h
  injection h with h; subst h
  exact .cons (Zpm h0) (.nil)
 ·obtain ⟨a0, h0, h⟩ := Zah h
  obtain ⟨a1, h1, h⟩ := Zah h
  obtain ⟨a2, h2, h⟩ := Zah h
  obtain ⟨a3, h3, h⟩ := Zah h
  obtain ⟨a4, h4, h⟩ := Zah h
  injection h with h; subst h
  exact .cons (ZcX h0) (.cons (ZcX h1) (.cons (ZsG h2) (.cons (ZcX h3) (.cons (Zpm h4) (.nil)))))
 ·obtain ⟨a0, h0, h⟩ := Zah h
  injection h with h; subst h
  exact .cons (ZcX h0) (.nil)
 ·obtain ⟨a0, h0, h⟩ := Zah h
  obtain ⟨a1, h1, h⟩ := Zah h
  obtain ⟨a2, h2, h⟩ := Zah h
  obtain ⟨a3, h3, h⟩ := Zah h
  obtain ⟨a4, h4, h⟩ := Zah h
  obtain ⟨a5, h5, h⟩ := Zah h
  obtain ⟨a6, h6, h⟩ := Zah h
  obtain ⟨a7, h7, h⟩ := Zah h
  injection h with h; subst h
  exact .cons (ZcX h0) (.cons (Zjr h1) (.cons (Zjr h2) (.cons (ZcX h3) (.cons (ZcX h4) (.cons (ZcX h5) (.cons (ZcX h6) (.cons (ZcX h7) (.nil))))))))
 ·obtain ⟨a0, h0, h⟩ := Zah h
  obtain ⟨a1, h1, h⟩ := Zah h
  obtain ⟨a2, h2, h⟩ := Zah h
  obtain ⟨a3, h3, h⟩ := Zah h
  obtain ⟨a4, h4, h⟩ := Zah h
  obtain ⟨a5, h5, h⟩ := Zah h
  obtain ⟨a6, h6, h⟩ := Zah h
  obtain ⟨a7, h7, h⟩ := Zah h
  obtain ⟨a8, h8, h⟩ := Zah h
  obtain ⟨a9, h9, h⟩ := Zah h
  obtain ⟨a10, h10, h⟩ := Zah h
  injection h with h; subst h
  exact .cons (ZcX h0) (.cons (Zpm h1) (.cons (ZsG h2) (.cons (ZcX h3) (.cons (Zjr h4) (.cons (Zjr h5) (.cons (ZcX h6) (.cons (ZcX h7) (.cons (ZcX h8) (.cons (ZcX h9) (.cons (ZcX h10) (.nil)))))))))))
 ·obtain ⟨a0, h0, h⟩ := Zah h
  obtain ⟨a1, h1, h⟩ := Zah h
  obtain ⟨a2, h2, h⟩ := Zah h
  obtain ⟨a3, h3, h⟩ := Zah h
  obtain ⟨a4, h4, h⟩ := Zah h
  obtain ⟨a5, h5, h⟩ := Zah h
  obtain ⟨a6, h6, h⟩ := Zah h
  obtain ⟨a7, h7, h⟩ := Zah h
  injection h with h; subst h
  exact .cons (ZcX h0) (.cons (Zjr h1) (.cons (Zjr h2) (.cons (ZcX h3) (.cons (ZcX h4) (.cons (ZcX h5) (.cons (ZcX h6) (.cons (ZcX h7) (.nil))))))))
 ·obtain ⟨a0, h0, h⟩ := Zah h
  injection h with h; subst h
  exact .cons (Zpm h0) (.nil)
 ·obtain ⟨a0, h0, h⟩ := Zah h
  obtain ⟨a1, h1, h⟩ := Zah h
  obtain ⟨a2, h2, h⟩ := Zah h
  injection h with h; subst h
  exact .cons (ZsG h0) (.cons (ZsG h1) (.cons (Zpm h2) (.nil)))
 ·obtain ⟨a0, h0, h⟩ := Zah h
  obtain ⟨a1, h1, h⟩ := Zah h
  obtain ⟨a2, h2, h⟩ := Zah h
  injection h with h; subst h
  exact .cons (ZsG h0) (.cons (ZsG h1) (.cons (Zpm h2) (.nil)))
 ·obtain ⟨a0, h0, h⟩ := Zah h
  obtain ⟨a1, h1, h⟩ := Zah h
  injection h with h; subst h
  exact .cons (Zpm h0) (.cons (ZsG h1) (.nil))
 ·obtain ⟨a0, h0, h⟩ := Zah h
  obtain ⟨a1, h1, h⟩ := Zah h
  obtain ⟨a2, h2, h⟩ := Zah h
  obtain ⟨a3, h3, h⟩ := Zah h
  obtain ⟨a4, h4, h⟩ := Zah h
  injection h with h; subst h
  exact .cons (ZcX h0) (.cons (ZcX h1) (.cons (ZsG h2) (.cons (ZcX h3) (.cons (Zpm h4) (.nil)))))
 ·cases h
def ZGk : (E : Nat) -> List (Ty E) -> Option (List UInt8)
 | 1, xs => some xs
 | _, _ => none
theorem ZyO : ∀ xs : List UInt8, xs.flatMap (ZEE 1) = xs.map fun b => XV.int .u8 (b.toNat : Int)
 | [] => rfl
 | x :: xs => by rw [List.flatMap_cons, ZyO xs]; rfl
def ZGl : (E : Nat) -> List UInt8 -> Option (List (Ty E))
 | 1, xs => some xs
 | _, _ => none
def CT : Zaz Ty where
 unb := ZGl
 unb_ok := by
  intro E bs xs h
  unfold ZGl at h
  split at h
  ·injection h with h; subst h; exact ZyO _
  ·cases h
 unb_len := by
  intro E bs xs h
  unfold ZGl at h
  split at h
  ·injection h with h; subst h; rfl
  ·cases h
 byt := ZGk
 byt_ok := by
  intro E xs bs h
  unfold ZGk at h
  split at h
  ·injection h with h; subst h; exact ZyO _
  ·cases h
 byt_sz := by
  intro E xs bs h
  unfold ZGk at h
  split at h
  ·rfl
  ·cases h
 enc := ZEE
 dec := ZGi
 sz := szT
 code := ZGj
 full := fun E => Nat.beq E 6
 len := by intro E x; unfold ZEE; split <;> first | rfl | exact List.length_replicate
 pos := by intro E; unfold szT; split <;> decide
 shut := by
  intro E x v hv
  have key : ∀ l : List X, (l.all XV.closed) = true -> v ∈ l -> v.closed = true := fun l h1 h2 => List.all_eq_true.1 h1 v h2
  unfold ZEE at hv
  split at hv
  all_goals first | (rw [List.eq_of_mem_replicate hv]; rfl) | exact key _ rfl hv
 back := ZFg
def b8 (n : Int) : Option UInt8 := (g8 (.int .u8 n)).bind fun a0 => some a0
theorem Zar : Tryz.prog.follows .mixedOrders = true := by kernel_rfl
abbrev LI := List Int
abbrev LB := List UInt8
abbrev CEp := CE CT Tryz.prog
abbrev LEp := LE CT Tryz.prog
def lt0 : List LEp := []
def dr0 : Nat -> Nat -> DrA | _, _ => ⟨[], [], [], [], [], false, []⟩
theorem ceO {f : FuncId} {fn : Func} {args : List Vs} {hs : List Hs} {res : Rs} {outs : List Hs} {m : VsD Ty args -> HsD Ty hs -> Option (res.D Ty × HsD Ty outs)} (hf : Tryz.prog.funcs[f]? = some fn) (hok : ZCd Tryz.prog fn args.length = true) (tb : List CEp) (hn : (ZbA (ZaD fn)).length = 0) (hrun : ∀ d dh, ZFd CT Tryz.prog (ZsF tb) (ZCb tb) dr0 (Zap lt0) fn (Zmq CT args d) (ZeU CT hs dh) (fun v h => ZzB CT hs.length res outs (Zlc 0 hs) v h fun d dh => some (d, dh)) = m d dh) : ∀ d dh r, m d dh = some r -> Tr CT Tryz.prog (fun _ => True) f (Zmq CT args d) (ZeU CT hs dh) (res.st CT r.1) (ZeU CT outs r.2) := ZaO Zar hf hok (Zad tb) (lps := Zap lt0) (Zau (Zal hn)) hrun
def ZyP (x : UInt8) : Prop := True
def ZoY (x : List UInt8) : Prop := x.length <= 140737488355328
def ZCh (x : Zao) : Prop := ZoY x.lo /\ ZoY x.hi /\ True
def ZvV (x : List (UInt8)) : Prop := OkL 1 ZyP x
theorem ZGm : ∀ ds, ZbG [.i .u8] ds -> (∀ d ∈ ds, Zmu d) -> ∃ x : Ty 1, DXs CT (CT.enc 1 x) ds /\ ZyP x := by
 intro ds h hs
 obtain ⟨d0, ds0, rfl, f0, h⟩ := ZoX h
 obtain rfl := ZqY h
 obtain ⟨a0, rfl⟩ := ZA4 f0
 exact ⟨a0, .int _ _ (.none), trivial⟩
theorem ZFh : ∀ ds, ZbG [.l [.i .u8]] ds -> (∀ d ∈ ds, Zmu d) -> ∃ x : Ty 22, DXs CT (CT.enc 22 x) ds /\ ZvV x := by
 intro ds h hs
 obtain ⟨d0, ds0, rfl, f0, h⟩ := ZoX h
 obtain rfl := ZqY h
 obtain ⟨a0, es0, rfl, q0, k0⟩ := ZDV ZGm rfl f0 (hs _ (by simp))
 exact ⟨a0, .sl _ _ _ q0 (.none), k0⟩
end Go.Proofs.YtaihdjknneiciaaGreat
