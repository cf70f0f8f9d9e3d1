/- Typed data, by program. -/
import Derived.Test.YtlmmpfbdgiokmaaGreatBr
import Derived.Test.YtlmmpfbdgiokmaaGreatChecked
namespace Go.Proofs.YtlmmpfbdgiokmaaGreat
open Go.RowKit
set_option maxRecDepth 100000
set_option linter.unusedVariables false
structure Zae where
 key : List UInt8
 value : List UInt8
 deriving DecidableEq
structure Za5 where
 lo : List UInt8
 hi : List UInt8
 deriving DecidableEq
structure Zcg where
 kind : Int
 rows : List (Zae)
 span : Za5
 deriving DecidableEq
structure Zqd where
 s : List UInt8
 deriving DecidableEq
structure ZDC where
 text : Zqd
 deriving DecidableEq
structure ZyO where
 text : Zqd
 deriving DecidableEq
structure ZaI where
 l : List (Zae)
 deriving DecidableEq
structure ZfE where
 made : Bool
 failed : Bool
 left : List (UInt8)
 deriving DecidableEq
structure ZaA where
 place : ZfE
 deriving DecidableEq
structure Zch where
 left : List (UInt8)
 failed : Bool
 deriving DecidableEq
@[reducible] def Ty : Nat -> Type
 | 0 => Int
 | 1 => UInt8
 | 2 => List UInt8
 | 3 => Zae
 | 4 => Za5
 | 5 => List (Zae)
 | 6 => Zcg
 | 7 => Zqd
 | 8 => ZDC
 | 9 => ZyO
 | 10 => ZaI
 | 11 => Int
 | 12 => List (UInt8)
 | 13 => Bool
 | 14 => ZfE
 | 15 => ZaA
 | 16 => Zch
 | 17 => List (Zcg)
 | 18 => List (List UInt8)
 | _ => Unit
abbrev X := XV Ty
def szT : Nat -> Nat
 | 0 => 1
 | 1 => 1
 | 2 => 1
 | 3 => 2
 | 4 => 2
 | 5 => 1
 | 6 => 4
 | 7 => 1
 | 8 => 1
 | 9 => 1
 | 10 => 1
 | 11 => 1
 | 12 => 1
 | 13 => 1
 | 14 => 3
 | 15 => 3
 | 16 => 2
 | 17 => 1
 | 18 => 1
 | _ => 1
def ZCp : (E : Nat) -> Ty E -> List X
 | 0, x => [.int .i64 x]
 | 1, x => [.int .u8 (x.toNat : Int)]
 | 2, x => [.str x]
 | 3, x => [.str x.key, .str x.value]
 | 4, x => [.str x.lo, .str x.hi]
 | 5, x => [.sl 3 x none]
 | 6, x => [.int .i64 x.kind, .sl 3 x.rows none, .str x.span.lo, .str x.span.hi]
 | 7, x => [.str x.s]
 | 8, x => [.str x.text.s]
 | 9, x => [.str x.text.s]
 | 10, x => [.sl 3 x.l none]
 | 11, x => [.int .u8 x]
 | 12, x => [.sl 1 x none]
 | 13, x => [.bool x]
 | 14, x => [.bool x.made, .bool x.failed, .sl 1 x.left none]
 | 15, x => [.bool x.place.made, .bool x.place.failed, .sl 1 x.place.left none]
 | 16, x => [.sl 1 x.left none, .bool x.failed]
 | 17, x => [.sl 6 x none]
 | 18, x => [.sl 2 x none]
 | E, _ => List.replicate (szT E) (.bool true)
def gI (k : IntKind) (v : X) : Option Int := match v with
 | .int k' n => if k' = k then some n else none
 | _ => none
def g8 (v : X) : Option UInt8 := match v with
 | .int .u8 n => if 0 <= n /\ n < 256 then some (UInt8.ofNat n.toNat) else none
 | _ => none
def gB (v : X) : Option Bool := match v with
 | .bool b => some b
 | _ => none
def gS (v : X) : Option (List UInt8) := match v with
 | .str b => some b
 | _ => none
def gL (E : Nat) (v : X) : Option (List (Ty E)) := match v with
 | .sl E' xs _ => if h : E' = E then some (h ▸ xs) else none
 | .nil => some []
 | .slx E' xs _ => if h : E' = E then some (h ▸ xs) else none
 | _ => none
theorem ZA7 {k : IntKind} {v : X} {n : Int} (h : gI k v = some n) : Wk v (.int k n) := by
 unfold gI at h
 split at h
 ·split at h
  ·rename_i e; subst e; injection h with h; subst h; exact .same _
  ·cases h
 ·cases h
theorem ZDD {v : X} {n : UInt8} (h : g8 v = some n) : Wk v (.int .u8 (n.toNat : Int)) := by
 unfold g8 at h
 split at h
 ·split at h
  ·rename_i m hr; injection h with h; subst h
   have : ((UInt8.ofNat m.toNat).toNat : Int) = m := by simp; omega
   rw [this]; exact .same _
  ·cases h
 ·cases h
theorem ZvC {v : X} {b : Bool} (h : gB v = some b) : Wk v (.bool b) := by
 unfold gB at h
 split at h
 ·injection h with h; subst h; exact .same _
 ·cases h
theorem ZoY {v : X} {b : List UInt8} (h : gS v = some b) : Wk v (.str b) := by
 unfold gS at h
 split at h
 ·injection h with h; subst h; exact .same _
 ·cases h
theorem Zqe {E : Nat} {v : X} {xs : List (Ty E)} (h : gL E v = some xs) : Wk v (.sl E xs none) := by
 unfold gL at h
 split at h
 ·split at h
  ·rename_i o e; subst e; injection h with h; subst h
   cases o with
   | none => exact .same _
   | some r => exact .drop _ _ _
  ·cases h
 ·injection h with h; subst h; exact .nil _
 ·split at h
  ·rename_i e; subst e; injection h with h; subst h; exact .spare _ _ _
  ·cases h
 ·cases h
def ZDE : (E : Nat) -> List X -> Option (Ty E)
 | 0, [v0] => (gI .i64 v0).bind fun a0 => some a0
 | 1, [v0] => (g8 v0).bind fun a0 => some a0
 | 2, [v0] => (gS v0).bind fun a0 => some a0
 | 3, [v0, v1] => (gS v0).bind fun a0 => (gS v1).bind fun a1 => some ⟨a0, a1⟩
 | 4, [v0, v1] => (gS v0).bind fun a0 => (gS v1).bind fun a1 => some ⟨a0, a1⟩
 | 5, [v0] => (gL 3 v0).bind fun a0 => some a0
 | 6, [v0, v1, v2, v3] => (gI .i64 v0).bind fun a0 => (gL 3 v1).bind fun a1 => (gS v2).bind fun a2 => (gS v3).bind fun a3 => some ⟨a0, a1, ⟨a2, a3⟩⟩
 | 7, [v0] => (gS v0).bind fun a0 => some ⟨a0⟩
 | 8, [v0] => (gS v0).bind fun a0 => some ⟨⟨a0⟩⟩
 | 9, [v0] => (gS v0).bind fun a0 => some ⟨⟨a0⟩⟩
 | 10, [v0] => (gL 3 v0).bind fun a0 => some ⟨a0⟩
 | 11, [v0] => (gI .u8 v0).bind fun a0 => some a0
 | 12, [v0] => (gL 1 v0).bind fun a0 => some a0
 | 13, [v0] => (gB v0).bind fun a0 => some a0
 | 14, [v0, v1, v2] => (gB v0).bind fun a0 => (gB v1).bind fun a1 => (gL 1 v2).bind fun a2 => some ⟨a0, a1, a2⟩
 | 15, [v0, v1, v2] => (gB v0).bind fun a0 => (gB v1).bind fun a1 => (gL 1 v2).bind fun a2 => some ⟨⟨a0, a1, a2⟩⟩
 | 16, [v0, v1] => (gL 1 v0).bind fun a0 => (gB v1).bind fun a1 => some ⟨a0, a1⟩
 | 17, [v0] => (gL 6 v0).bind fun a0 => some a0
 | 18, [v0] => (gL 2 v0).bind fun a0 => some a0
 | _, _ => none
def ZDF : Nat -> Option Nat
 | 3 => some 0
 | 4 => some 13
 | 5 => some 1
 | 9 => some 2
 | 22 => some 17
 | 23 => some 18
 | 29 => some 5
 | 31 => some 10
 | 36 => some 4
 | 38 => some 6
 | 48 => some 3
 | 50 => some 12
 | 101 => some 16
 | 148 => some 14
 | 150 => some 15
 | 238 => some 7
 | 240 => some 8
 | 241 => some 9
 | _ => none
theorem ZCq : ∀ (E : Nat) (l : List X) (x : Ty E), ZDE E l = some x -> Wks l (ZCp E x) := by
 intro E l x h
 unfold ZDE at h
 split at h
 ·obtain ⟨a0, h0, h⟩ := Zam h
  injection h with h; subst h
  exact .cons (ZA7 h0) (.nil)
 ·obtain ⟨a0, h0, h⟩ := Zam h
  injection h with h; subst h
  exact .cons (ZDD h0) (.nil)
 ·obtain ⟨a0, h0, h⟩ := Zam h
  injection h with h; subst h
  exact .cons (ZoY h0) (.nil)
 ·obtain ⟨a0, h0, h⟩ := Zam h
  obtain ⟨a1, h1, h⟩ := Zam h
  injection h with h; subst h
  exact .cons (ZoY h0) (.cons (ZoY h1) (.nil))
 ·obtain ⟨a0, h0, h⟩ := Zam h
  obtain ⟨a1, h1, h⟩ := Zam h
  injection h with h; subst h
  exact .cons (ZoY h0) (.cons (ZoY h1) (.nil))
 ·obtain ⟨a0, h0, h⟩ := Zam h
  injection h with h; subst h
  exact .cons (Zqe h0) (.nil)
 ·obtain ⟨a0, h0, h⟩ := Zam h
  obtain ⟨a1, h1, h⟩ := Zam h
  obtain ⟨a2, h2, h⟩ := Zam h
  obtain ⟨a3, h3, h⟩ := Zam h
  injection h with h; subst h
  exact .cons (ZA7 h0) (.cons (Zqe h1) (.cons (ZoY h2) (.cons (ZoY h3) (.nil))))
 ·obtain ⟨a0, h0, h⟩ := Zam h
  injection h with h; subst h
  exact .cons (ZoY h0) (.nil)
 ·obtain ⟨a0, h0, h⟩ := Zam h
  injection h with h; subst h
  exact .cons (ZoY h0) (.nil)
 ·obtain ⟨a0, h0, h⟩ := Zam h
  injection h with h; subst h
  exact .cons (ZoY h0) (.nil)
 ·obtain ⟨a0, h0, h⟩ := Zam h
  injection h with h; subst h
  exact .cons (Zqe h0) (.nil)
 ·obtain ⟨a0, h0, h⟩ := Zam h
  injection h with h; subst h
  exact .cons (ZA7 h0) (.nil)
 ·obtain ⟨a0, h0, h⟩ := Zam h
  injection h with h; subst h
  exact .cons (Zqe h0) (.nil)
 ·obtain ⟨a0, h0, h⟩ := Zam h
  injection h with h; subst h
  exact .cons (ZvC h0) (.nil)
 ·obtain ⟨a0, h0, h⟩ := Zam h
  obtain ⟨a1, h1, h⟩ := Zam h
  obtain ⟨a2, h2, h⟩ := Zam h
  injection h with h; subst h
  exact .cons (ZvC h0) (.cons (ZvC h1) (.cons (Zqe h2) (.nil)))
 ·obtain ⟨a0, h0, h⟩ := Zam h
  obtain ⟨a1, h1, h⟩ := Zam h
  obtain ⟨a2, h2, h⟩ := Zam h
  injection h with h; subst h
  exact .cons (ZvC h0) (.cons (ZvC h1) (.cons (Zqe h2) (.nil)))
 ·obtain ⟨a0, h0, h⟩ := Zam h
  obtain ⟨a1, h1, h⟩ := Zam h
  injection h with h; subst h
  exact .cons (Zqe h0) (.cons (ZvC h1) (.nil))
 ·obtain ⟨a0, h0, h⟩ := Zam h
  injection h with h; subst h
  exact .cons (Zqe h0) (.nil)
 ·obtain ⟨a0, h0, h⟩ := Zam h
  injection h with h; subst h
  exact .cons (Zqe h0) (.nil)
 ·cases h
def ZDG : (E : Nat) -> List (Ty E) -> Option (List UInt8)
 | 1, xs => some xs
 | _, _ => none
theorem Zxb : ∀ xs : List UInt8, xs.flatMap (ZCp 1) = xs.map fun b => XV.int .u8 (b.toNat : Int)
 | [] => rfl
 | x :: xs => by rw [List.flatMap_cons, Zxb xs]; rfl
def ZDH : (E : Nat) -> List UInt8 -> Option (List (Ty E))
 | 1, xs => some xs
 | _, _ => none
def CT : Zau Ty where
 unb := ZDH
 unb_ok := by
  intro E bs xs h
  unfold ZDH at h
  split at h
  ·injection h with h; subst h; exact Zxb _
  ·cases h
 unb_len := by
  intro E bs xs h
  unfold ZDH at h
  split at h
  ·injection h with h; subst h; rfl
  ·cases h
 byt := ZDG
 byt_ok := by
  intro E xs bs h
  unfold ZDG at h
  split at h
  ·injection h with h; subst h; exact Zxb _
  ·cases h
 byt_sz := by
  intro E xs bs h
  unfold ZDG at h
  split at h
  ·rfl
  ·cases h
 enc := ZCp
 dec := ZDE
 sz := szT
 code := ZDF
 full := fun E => Nat.beq E 3
 len := by intro E x; unfold ZCp; split <;> first | rfl | exact List.length_replicate
 pos := by intro E; unfold szT; split <;> decide
 shut := by
  intro E x v hv
  have key : ∀ l : List X, (l.all XV.closed) = true -> v ∈ l -> v.closed = true := fun l h1 h2 => List.all_eq_true.1 h1 v h2
  unfold ZCp at hv
  split at hv
  all_goals first | (rw [List.eq_of_mem_replicate hv]; rfl) | exact key _ rfl hv
 back := ZCq
def b8 (n : Int) : Option UInt8 := (g8 (.int .u8 n)).bind fun a0 => some a0
theorem Zan : Tryz.prog.follows .mixedOrders = true := by kernel_rfl
def Zqf (x : Int) : Prop := InK .i64 x
def ZyP (x : UInt8) : Prop := True
def Zdh (x : List UInt8) : Prop := x.length <= 140737488355328
def Ztx (x : Zae) : Prop := Zdh x.key /\ Zdh x.value /\ True
def ZuK (x : Za5) : Prop := Zdh x.lo /\ Zdh x.hi /\ True
def ZuL (x : List (Zae)) : Prop := OkL 32 Ztx x
def Zqg (x : Zcg) : Prop := Zqf x.kind /\ ZuL x.rows /\ ZuK x.span /\ True
def Zxc (x : List (UInt8)) : Prop := OkL 1 ZyP x
def Zlz (x : List (Zcg)) : Prop := OkL 64 Zqg x
def Zqh (x : List (List UInt8)) : Prop := OkL 16 Zdh x
end Go.Proofs.YtlmmpfbdgiokmaaGreat
