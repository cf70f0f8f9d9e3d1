/- Typed data, by program. -/
import Derived.Test.YtinpiaibhjmfaaaBr
import Derived.Test.YtinpiaibhjmfaaaChecked
namespace Go.Proofs.Ytinpiaibhjmfaaa
open Go.RowKit
set_option maxRecDepth 100000
set_option linter.unusedVariables false
structure Zen where
 kind : Int
 name : List UInt8
 names : List (List UInt8)
 n : Int
 parts : List (List (UInt8))
 deriving DecidableEq
@[reducible] def Ty : Nat -> Type
 | 0 => Int
 | 1 => UInt8
 | 2 => List UInt8
 | 3 => List (UInt8)
 | 4 => List (List UInt8)
 | 5 => List (List (UInt8))
 | 6 => Zen
 | 7 => Bool
 | 8 => List (Bool)
 | 9 => List (Zen)
 | _ => Unit
abbrev X := XV Ty
def szT : Nat -> Nat
 | 0 => 1
 | 1 => 1
 | 2 => 1
 | 3 => 1
 | 4 => 1
 | 5 => 1
 | 6 => 5
 | 7 => 1
 | 8 => 1
 | 9 => 1
 | _ => 1
def Zpb : (E : Nat) -> Ty E -> List X
 | 0, x => [.int .i64 x]
 | 1, x => [.int .u8 (x.toNat : Int)]
 | 2, x => [.str x]
 | 3, x => [.sl 1 x none]
 | 4, x => [.sl 2 x none]
 | 5, x => [.sl 3 x none]
 | 6, x => [.int .i64 x.kind, .str x.name, .sl 2 x.names none, .int .i64 x.n, .sl 3 x.parts none]
 | 7, x => [.bool x]
 | 8, x => [.sl 7 x none]
 | 9, x => [.sl 6 x none]
 | E, _ => List.replicate (szT E) (.bool true)
def gI (k : IntKind) (v : X) : Option Int := match v with
 | .int k' n => if k' = k then some n else none
 | _ => none
def g8 (v : X) : Option UInt8 := match v with
 | .int .u8 n => if 0 <= n /\ n < 256 then some (UInt8.ofNat n.toNat) else none
 | _ => none
def gB (v : X) : Option Bool := match v with
 | .bool b => some b
 | _ => none
def gS (v : X) : Option (List UInt8) := match v with
 | .str b => some b
 | _ => none
def gL (E : Nat) (v : X) : Option (List (Ty E)) := match v with
 | .sl E' xs _ => if h : E' = E then some (h ▸ xs) else none
 | .nil => some []
 | .slx E' xs _ => if h : E' = E then some (h ▸ xs) else none
 | _ => none
theorem Zn5 {k : IntKind} {v : X} {n : Int} (h : gI k v = some n) : Wk v (.int k n) := by
 unfold gI at h
 split at h
 ·split at h
  ·rename_i e; subst e; injection h with h; subst h; exact .same _
  ·cases h
 ·cases h
theorem Zqd {v : X} {n : UInt8} (h : g8 v = some n) : Wk v (.int .u8 (n.toNat : Int)) := by
 unfold g8 at h
 split at h
 ·split at h
  ·rename_i m hr; injection h with h; subst h
   have : ((UInt8.ofNat m.toNat).toNat : Int) = m := by simp; omega
   rw [this]; exact .same _
  ·cases h
 ·cases h
theorem Zqe {v : X} {b : Bool} (h : gB v = some b) : Wk v (.bool b) := by
 unfold gB at h
 split at h
 ·injection h with h; subst h; exact .same _
 ·cases h
theorem Zpc {v : X} {b : List UInt8} (h : gS v = some b) : Wk v (.str b) := by
 unfold gS at h
 split at h
 ·injection h with h; subst h; exact .same _
 ·cases h
theorem Zi5 {E : Nat} {v : X} {xs : List (Ty E)} (h : gL E v = some xs) : Wk v (.sl E xs none) := by
 unfold gL at h
 split at h
 ·split at h
  ·rename_i o e; subst e; injection h with h; subst h
   cases o with
   | none => exact .same _
   | some r => exact .drop _ _ _
  ·cases h
 ·injection h with h; subst h; exact .nil _
 ·split at h
  ·rename_i e; subst e; injection h with h; subst h; exact .spare _ _ _
  ·cases h
 ·cases h
def Zqf : (E : Nat) -> List X -> Option (Ty E)
 | 0, [v0] => (gI .i64 v0).bind fun a0 => some a0
 | 1, [v0] => (g8 v0).bind fun a0 => some a0
 | 2, [v0] => (gS v0).bind fun a0 => some a0
 | 3, [v0] => (gL 1 v0).bind fun a0 => some a0
 | 4, [v0] => (gL 2 v0).bind fun a0 => some a0
 | 5, [v0] => (gL 3 v0).bind fun a0 => some a0
 | 6, [v0, v1, v2, v3, v4] => (gI .i64 v0).bind fun a0 => (gS v1).bind fun a1 => (gL 2 v2).bind fun a2 => (gI .i64 v3).bind fun a3 => (gL 3 v4).bind fun a4 => some ⟨a0, a1, a2, a3, a4⟩
 | 7, [v0] => (gB v0).bind fun a0 => some a0
 | 8, [v0] => (gL 7 v0).bind fun a0 => some a0
 | 9, [v0] => (gL 6 v0).bind fun a0 => some a0
 | _, _ => none
def Zqg : Nat -> Option Nat
 | 3 => some 0
 | 4 => some 7
 | 5 => some 1
 | 9 => some 2
 | 22 => some 5
 | 23 => some 8
 | 26 => some 4
 | 28 => some 6
 | 29 => some 9
 | 32 => some 3
 | _ => none
theorem Zpd : ∀ (E : Nat) (l : List X) (x : Ty E), Zqf E l = some x -> Wks l (Zpb E x) := by
 intro E l x h
 unfold Zqf at h
 split at h
 ·obtain ⟨a0, h0, h⟩ := Zbt h
  injection h with h; subst h
  exact .cons (Zn5 h0) (.nil)
 ·obtain ⟨a0, h0, h⟩ := Zbt h
  injection h with h; subst h
  exact .cons (Zqd h0) (.nil)
 ·obtain ⟨a0, h0, h⟩ := Zbt h
  injection h with h; subst h
  exact .cons (Zpc h0) (.nil)
 ·obtain ⟨a0, h0, h⟩ := Zbt h
  injection h with h; subst h
  exact .cons (Zi5 h0) (.nil)
 ·obtain ⟨a0, h0, h⟩ := Zbt h
  injection h with h; subst h
  exact .cons (Zi5 h0) (.nil)
 ·obtain ⟨a0, h0, h⟩ := Zbt h
  injection h with h; subst h
  exact .cons (Zi5 h0) (.nil)
 ·obtain ⟨a0, h0, h⟩ := Zbt h
  obtain ⟨a1, h1, h⟩ := Zbt h
  obtain ⟨a2, h2, h⟩ := Zbt h
  obtain ⟨a3, h3, h⟩ := Zbt h
  obtain ⟨a4, h4, h⟩ := Zbt h
  injection h with h; subst h
  exact .cons (Zn5 h0) (.cons (Zpc h1) (.cons (Zi5 h2) (.cons (Zn5 h3) (.cons (Zi5 h4) (.nil)))))
 ·obtain ⟨a0, h0, h⟩ := Zbt h
  injection h with h; subst h
  exact .cons (Zqe h0) (.nil)
 ·obtain ⟨a0, h0, h⟩ := Zbt h
  injection h with h; subst h
  exact .cons (Zi5 h0) (.nil)
 ·obtain ⟨a0, h0, h⟩ := Zbt h
  injection h with h; subst h
  exact .cons (Zi5 h0) (.nil)
 ·cases h
def Zqh : (E : Nat) -> List (Ty E) -> Option (List UInt8)
 | 1, xs => some xs
 | _, _ => none
theorem Zlp : ∀ xs : List UInt8, xs.flatMap (Zpb 1) = xs.map fun b => XV.int .u8 (b.toNat : Int)
 | [] => rfl
 | x :: xs => by rw [List.flatMap_cons, Zlp xs]; rfl
def Zqi : (E : Nat) -> List UInt8 -> Option (List (Ty E))
 | 1, xs => some xs
 | _, _ => none
def CT : Za7 Ty where
 unb := Zqi
 unb_ok := by
  intro E bs xs h
  unfold Zqi at h
  split at h
  ·injection h with h; subst h; exact Zlp _
  ·cases h
 unb_len := by
  intro E bs xs h
  unfold Zqi at h
  split at h
  ·injection h with h; subst h; rfl
  ·cases h
 byt := Zqh
 byt_ok := by
  intro E xs bs h
  unfold Zqh at h
  split at h
  ·injection h with h; subst h; exact Zlp _
  ·cases h
 byt_sz := by
  intro E xs bs h
  unfold Zqh at h
  split at h
  ·rfl
  ·cases h
 enc := Zpb
 dec := Zqf
 sz := szT
 code := Zqg
 len := by intro E x; unfold Zpb; split <;> first | rfl | exact List.length_replicate
 pos := by intro E; unfold szT; split <;> decide
 shut := by
  intro E x v hv
  have key : ∀ l : List X, (l.all XV.closed) = true -> v ∈ l -> v.closed = true := fun l h1 h2 => List.all_eq_true.1 h1 v h2
  unfold Zpb at hv
  split at hv
  all_goals first | (rw [List.eq_of_mem_replicate hv]; rfl) | exact key _ rfl hv
 back := Zpd
def b8 (n : Int) : Option UInt8 := (g8 (.int .u8 n)).bind fun a0 => some a0
def Zi6 (x : Int) : Prop := InK .i64 x
def ZjG (x : UInt8) : Prop := True
def Zew (x : List UInt8) : Prop := x.length <= 140737488355328
def Zij (x : List (UInt8)) : Prop := OkL 1 ZjG x
def Zhr (x : List (List UInt8)) : Prop := OkL 16 Zew x
def Zks (x : List (List (UInt8))) : Prop := OkL 24 Zij x
def Zee (x : Zen) : Prop := Zi6 x.kind /\ Zew x.name /\ Zhr x.names /\ Zi6 x.n /\ Zks x.parts /\ True
def Zlq (x : List (Zen)) : Prop := OkL 80 Zee x
theorem Zpe : ∀ ds, Zbb [.i .i64] ds -> (∀ d ∈ ds, Zem d) -> ∃ x : Ty 0, DXs CT (CT.enc 0 x) ds /\ Zi6 x := by
 intro ds h hs
 obtain ⟨d0, ds0, rfl, f0, h⟩ := ZbD h
 obtain rfl := ZcP h
 obtain ⟨a0, rfl, k0⟩ := Zln f0
 exact ⟨a0, .int _ _ (.none), k0⟩
theorem Zqj : ∀ ds, Zbb [.i .u8] ds -> (∀ d ∈ ds, Zem d) -> ∃ x : Ty 1, DXs CT (CT.enc 1 x) ds /\ ZjG x := by
 intro ds h hs
 obtain ⟨d0, ds0, rfl, f0, h⟩ := ZbD h
 obtain rfl := ZcP h
 obtain ⟨a0, rfl⟩ := Zlm f0
 exact ⟨a0, .int _ _ (.none), trivial⟩
theorem Zqk : ∀ ds, Zbb [.s] ds -> (∀ d ∈ ds, Zem d) -> ∃ x : Ty 2, DXs CT (CT.enc 2 x) ds /\ Zew x := by
 intro ds h hs
 obtain ⟨d0, ds0, rfl, f0, h⟩ := ZbD h
 obtain rfl := ZcP h
 obtain ⟨a0, rfl, k0⟩ := Znr f0
 exact ⟨a0, .str _ (.none), k0⟩
theorem Zql : ∀ ds, Zbb [.l [.i .u8]] ds -> (∀ d ∈ ds, Zem d) -> ∃ x : Ty 3, DXs CT (CT.enc 3 x) ds /\ Zij x := by
 intro ds h hs
 obtain ⟨d0, ds0, rfl, f0, h⟩ := ZbD h
 obtain rfl := ZcP h
 obtain ⟨a0, es0, rfl, q0, k0⟩ := Zhp Zqj rfl f0 (hs _ (by simp))
 exact ⟨a0, .sl _ _ _ q0 (.none), k0⟩
theorem Zqm : ∀ ds, Zbb [.i .i64, .s, .l [.s], .i .i64, .l [.l [.i .u8]]] ds -> (∀ d ∈ ds, Zem d) -> ∃ x : Ty 6, DXs CT (CT.enc 6 x) ds /\ Zee x := by
 intro ds h hs
 obtain ⟨d0, ds0, rfl, f0, h⟩ := ZbD h
 obtain ⟨d1, ds1, rfl, f1, h⟩ := ZbD h
 obtain ⟨d2, ds2, rfl, f2, h⟩ := ZbD h
 obtain ⟨d3, ds3, rfl, f3, h⟩ := ZbD h
 obtain ⟨d4, ds4, rfl, f4, h⟩ := ZbD h
 obtain rfl := ZcP h
 obtain ⟨a0, rfl, k0⟩ := Zln f0
 obtain ⟨a1, rfl, k1⟩ := Znr f1
 obtain ⟨a2, es2, rfl, q2, k2⟩ := Zhp Zqk rfl f2 (hs _ (by simp))
 obtain ⟨a3, rfl, k3⟩ := Zln f3
 obtain ⟨a4, es4, rfl, q4, k4⟩ := Zhp Zql rfl f4 (hs _ (by simp))
 exact ⟨⟨a0, a1, a2, a3, a4⟩, .int _ _ (.str _ (.sl _ _ _ q2 (.int _ _ (.sl _ _ _ q4 (.none))))), ⟨k0, k1, k2, k3, k4, trivial⟩⟩
theorem Zpf : ∀ ds, Zbb [.l [.i .i64, .s, .l [.s], .i .i64, .l [.l [.i .u8]]]] ds -> (∀ d ∈ ds, Zem d) -> ∃ x : Ty 9, DXs CT (CT.enc 9 x) ds /\ Zlq x := by
 intro ds h hs
 obtain ⟨d0, ds0, rfl, f0, h⟩ := ZbD h
 obtain rfl := ZcP h
 obtain ⟨a0, es0, rfl, q0, k0⟩ := Zhp Zqm rfl f0 (hs _ (by simp))
 exact ⟨a0, .sl _ _ _ q0 (.none), k0⟩
end Go.Proofs.Ytinpiaibhjmfaaa
