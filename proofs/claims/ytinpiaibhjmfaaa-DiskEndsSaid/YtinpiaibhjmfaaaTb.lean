/- Typed data, by program. -/
import Derived.Test.YtinpiaibhjmfaaaBr
import Derived.Test.YtinpiaibhjmfaaaChecked
namespace Go.Proofs.Ytinpiaibhjmfaaa
open Go.RowKit
set_option maxRecDepth 100000
set_option linter.unusedVariables false
structure ZbG where
 kind : Int
 name : List UInt8
 names : List (List UInt8)
 n : Int
 parts : List (List (UInt8))
 deriving DecidableEq
@[reducible] def Ty : Nat -> Type
 | 0 => Int
 | 1 => UInt8
 | 2 => List UInt8
 | 3 => List (UInt8)
 | 4 => List (List UInt8)
 | 5 => List (List (UInt8))
 | 6 => ZbG
 | 7 => Bool
 | 8 => List (Bool)
 | 9 => List (ZbG)
 | _ => Unit
abbrev X := XV Ty
def szT : Nat -> Nat
 | 0 => 1
 | 1 => 1
 | 2 => 1
 | 3 => 1
 | 4 => 1
 | 5 => 1
 | 6 => 5
 | 7 => 1
 | 8 => 1
 | 9 => 1
 | _ => 1
def Zpy : (E : Nat) -> Ty E -> List X
 | 0, x => [.int .i64 x]
 | 1, x => [.int .u8 (x.toNat : Int)]
 | 2, x => [.str x]
 | 3, x => [.sl 1 x none]
 | 4, x => [.sl 2 x none]
 | 5, x => [.sl 3 x none]
 | 6, x => [.int .i64 x.kind, .str x.name, .sl 2 x.names none, .int .i64 x.n, .sl 3 x.parts none]
 | 7, x => [.bool x]
 | 8, x => [.sl 7 x none]
 | 9, x => [.sl 6 x none]
 | E, _ => List.replicate (szT E) (.bool true)
def gI (k : IntKind) (v : X) : Option Int := match v with
 | .int k' n => if k' = k then some n else none
 | _ => none
def g8 (v : X) : Option UInt8 := match v with
 | .int .u8 n => if 0 <= n /\ n < 256 then some (UInt8.ofNat n.toNat) else none
 | _ => none
def gB (v : X) : Option Bool := match v with
 | .bool b => some b
 | _ => none
def gS (v : X) : Option (List UInt8) := match v with
 | .str b => some b
 | _ => none
def gL (E : Nat) (v : X) : Option (List (Ty E)) := match v with
 | .sl E' xs _ => if h : E' = E then some (h ▸ xs) else none
 | .nil => some []
 | .slx E' xs _ => if h : E' = E then some (h ▸ xs) else none
 | _ => none
theorem Zop {k : IntKind} {v : X} {n : Int} (h : gI k v = some n) : Wk v (.int k n) := by
 unfold gI at h
 split at h
 ·split at h
  ·rename_i e; subst e; injection h with h; subst h; exact .same _
  ·cases h
 ·cases h
theorem Zqy {v : X} {n : UInt8} (h : g8 v = some n) : Wk v (.int .u8 (n.toNat : Int)) := by
 unfold g8 at h
 split at h
 ·split at h
  ·rename_i m hr; injection h with h; subst h
   have : ((UInt8.ofNat m.toNat).toNat : Int) = m := by simp; omega
   rw [this]; exact .same _
  ·cases h
 ·cases h
theorem Zqz {v : X} {b : Bool} (h : gB v = some b) : Wk v (.bool b) := by
 unfold gB at h
 split at h
 ·injection h with h; subst h; exact .same _
 ·cases h
theorem Zpz {v : X} {b : List UInt8} (h : gS v = some b) : Wk v (.str b) := by
 unfold gS at h
 split at h
 ·injection h with h; subst h; exact .same _
 ·cases h
theorem Zjo {E : Nat} {v : X} {xs : List (Ty E)} (h : gL E v = some xs) : Wk v (.sl E xs none) := by
 unfold gL at h
 split at h
 ·split at h
  ·rename_i o e; subst e; injection h with h; subst h
   cases o with
   | none => exact .same _
   | some r => exact .drop _ _ _
  ·cases h
 ·injection h with h; subst h; exact .nil _
 ·split at h
  ·rename_i e; subst e; injection h with h; subst h; exact .spare _ _ _
  ·cases h
 ·cases h
def ZqA : (E : Nat) -> List X -> Option (Ty E)
 | 0, [v0] => (gI .i64 v0).bind fun a0 => some a0
 | 1, [v0] => (g8 v0).bind fun a0 => some a0
 | 2, [v0] => (gS v0).bind fun a0 => some a0
 | 3, [v0] => (gL 1 v0).bind fun a0 => some a0
 | 4, [v0] => (gL 2 v0).bind fun a0 => some a0
 | 5, [v0] => (gL 3 v0).bind fun a0 => some a0
 | 6, [v0, v1, v2, v3, v4] => (gI .i64 v0).bind fun a0 => (gS v1).bind fun a1 => (gL 2 v2).bind fun a2 => (gI .i64 v3).bind fun a3 => (gL 3 v4).bind fun a4 => some ⟨a0, a1, a2, a3, a4⟩
 | 7, [v0] => (gB v0).bind fun a0 => some a0
 | 8, [v0] => (gL 7 v0).bind fun a0 => some a0
 | 9, [v0] => (gL 6 v0).bind fun a0 => some a0
 | _, _ => none
def ZqB : Nat -> Option Nat
 | 3 => some 0
 | 4 => some 7
 | 5 => some 1
 | 9 => some 2
 | 22 => some 5
 | 23 => some 8
 | 26 => some 4
 | 28 => some 6
 | 29 => some 9
 | 32 => some 3
 | _ => none
theorem ZpA : ∀ (E : Nat) (l : List X) (x : Ty E), ZqA E l = some x -> Wks l (Zpy E x) := by
 intro E l x h
 unfold ZqA at h
 split at h
 ·obtain ⟨a0, h0, h⟩ := ZbI h
  injection h with h; subst h
  exact .cons (Zop h0) (.nil)
 ·obtain ⟨a0, h0, h⟩ := ZbI h
  injection h with h; subst h
  exact .cons (Zqy h0) (.nil)
 ·obtain ⟨a0, h0, h⟩ := ZbI h
  injection h with h; subst h
  exact .cons (Zpz h0) (.nil)
 ·obtain ⟨a0, h0, h⟩ := ZbI h
  injection h with h; subst h
  exact .cons (Zjo h0) (.nil)
 ·obtain ⟨a0, h0, h⟩ := ZbI h
  injection h with h; subst h
  exact .cons (Zjo h0) (.nil)
 ·obtain ⟨a0, h0, h⟩ := ZbI h
  injection h with h; subst h
  exact .cons (Zjo h0) (.nil)
 ·obtain ⟨a0, h0, h⟩ := ZbI h
  obtain ⟨a1, h1, h⟩ := ZbI h
  obtain ⟨a2, h2, h⟩ := ZbI h
  obtain ⟨a3, h3, h⟩ := ZbI h
  obtain ⟨a4, h4, h⟩ := ZbI h
  injection h with h; subst h
  exact .cons (Zop h0) (.cons (Zpz h1) (.cons (Zjo h2) (.cons (Zop h3) (.cons (Zjo h4) (.nil)))))
 ·obtain ⟨a0, h0, h⟩ := ZbI h
  injection h with h; subst h
  exact .cons (Zqz h0) (.nil)
 ·obtain ⟨a0, h0, h⟩ := ZbI h
  injection h with h; subst h
  exact .cons (Zjo h0) (.nil)
 ·obtain ⟨a0, h0, h⟩ := ZbI h
  injection h with h; subst h
  exact .cons (Zjo h0) (.nil)
 ·cases h
def ZqC : (E : Nat) -> List (Ty E) -> Option (List UInt8)
 | 1, xs => some xs
 | _, _ => none
theorem ZlI : ∀ xs : List UInt8, xs.flatMap (Zpy 1) = xs.map fun b => XV.int .u8 (b.toNat : Int)
 | [] => rfl
 | x :: xs => by rw [List.flatMap_cons, ZlI xs]; rfl
def ZqD : (E : Nat) -> List UInt8 -> Option (List (Ty E))
 | 1, xs => some xs
 | _, _ => none
def CT : Zbg Ty where
 unb := ZqD
 unb_ok := by
  intro E bs xs h
  unfold ZqD at h
  split at h
  ·injection h with h; subst h; exact ZlI _
  ·cases h
 unb_len := by
  intro E bs xs h
  unfold ZqD at h
  split at h
  ·injection h with h; subst h; rfl
  ·cases h
 byt := ZqC
 byt_ok := by
  intro E xs bs h
  unfold ZqC at h
  split at h
  ·injection h with h; subst h; exact ZlI _
  ·cases h
 byt_sz := by
  intro E xs bs h
  unfold ZqC at h
  split at h
  ·rfl
  ·cases h
 enc := Zpy
 dec := ZqA
 sz := szT
 code := ZqB
 len := by intro E x; unfold Zpy; split <;> first | rfl | exact List.length_replicate
 pos := by intro E; unfold szT; split <;> decide
 shut := by
  intro E x v hv
  have key : ∀ l : List X, (l.all XV.closed) = true -> v ∈ l -> v.closed = true := fun l h1 h2 => List.all_eq_true.1 h1 v h2
  unfold Zpy at hv
  split at hv
  all_goals first | (rw [List.eq_of_mem_replicate hv]; rfl) | exact key _ rfl hv
 back := ZpA
def b8 (n : Int) : Option UInt8 := (g8 (.int .u8 n)).bind fun a0 => some a0
def ZlJ (x : Int) : Prop := InK .i64 x
def Zm3 (x : UInt8) : Prop := True
def ZfT (x : List UInt8) : Prop := x.length <= 140737488355328
def ZlK (x : List (UInt8)) : Prop := OkL 1 Zm3 x
def Zhx (x : List (List UInt8)) : Prop := OkL 16 ZfT x
def ZkG (x : List (List (UInt8))) : Prop := OkL 24 ZlK x
def Zf4 (x : ZbG) : Prop := ZlJ x.kind /\ ZfT x.name /\ Zhx x.names /\ ZlJ x.n /\ ZkG x.parts /\ True
end Go.Proofs.Ytinpiaibhjmfaaa
