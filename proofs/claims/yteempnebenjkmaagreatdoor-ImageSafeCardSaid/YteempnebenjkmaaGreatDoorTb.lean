/- Typed data, by program. -/
import Derived.Test.YteempnebenjkmaaGreatDoorBr
import Derived.Test.YteempnebenjkmaaGreatDoorChecked
namespace Go.Proofs.YteempnebenjkmaaGreatDoor
open Go.RowKit
set_option maxRecDepth 100000
set_option linter.unusedVariables false
structure ZsP where
 b : List (UInt8)
 deriving DecidableEq
structure ZdK where
 rest : ZsP
 at_ : Int
 deriving DecidableEq
structure ZbW where
 kind : Int
 data : List (UInt8)
 deriving DecidableEq
structure Zck where
 voters : List (Int)
 old : List (Int)
 learners : List (Int)
 want : List (Int)
 deriving DecidableEq
structure ZeC where
 index : Int
 term_ : Int
 config : Zck
 deriving DecidableEq
structure Zbe where
 base : ZeC
 bytes : List (UInt8)
 deriving DecidableEq
structure ZdE where
 made : Bool
 failed : Bool
 left : List (UInt8)
 deriving DecidableEq
structure Zap where
 place : ZdE
 deriving DecidableEq
@[reducible] def Ty : Nat -> Type
 | 0 => Int
 | 1 => UInt8
 | 2 => List UInt8
 | 3 => List (UInt8)
 | 4 => ZsP
 | 5 => ZdK
 | 6 => ZbW
 | 7 => List (Int)
 | 8 => Zck
 | 9 => ZeC
 | 10 => Zbe
 | 11 => Int
 | 12 => Bool
 | 13 => ZdE
 | 14 => Zap
 | _ => Unit
abbrev X := XV Ty
def szT : Nat -> Nat
 | 0 => 1
 | 1 => 1
 | 2 => 1
 | 3 => 1
 | 4 => 1
 | 5 => 2
 | 6 => 2
 | 7 => 1
 | 8 => 4
 | 9 => 6
 | 10 => 7
 | 11 => 1
 | 12 => 1
 | 13 => 3
 | 14 => 3
 | _ => 1
def ZAl : (E : Nat) -> Ty E -> List X
 | 0, x => [.int .i64 x]
 | 1, x => [.int .u8 (x.toNat : Int)]
 | 2, x => [.str x]
 | 3, x => [.sl 1 x none]
 | 4, x => [.sl 1 x.b none]
 | 5, x => [.sl 1 x.rest.b none, .int .i64 x.at_]
 | 6, x => [.int .i64 x.kind, .sl 1 x.data none]
 | 7, x => [.sl 0 x none]
 | 8, x => [.sl 0 x.voters none, .sl 0 x.old none, .sl 0 x.learners none, .sl 0 x.want none]
 | 9, x => [.int .i64 x.index, .int .i64 x.term_, .sl 0 x.config.voters none, .sl 0 x.config.old none, .sl 0 x.config.learners none, .sl 0 x.config.want none]
 | 10, x => [.int .i64 x.base.index, .int .i64 x.base.term_, .sl 0 x.base.config.voters none, .sl 0 x.base.config.old none, .sl 0 x.base.config.learners none, .sl 0 x.base.config.want none, .sl 1 x.bytes none]
 | 11, x => [.int .u8 x]
 | 12, x => [.bool x]
 | 13, x => [.bool x.made, .bool x.failed, .sl 1 x.left none]
 | 14, x => [.bool x.place.made, .bool x.place.failed, .sl 1 x.place.left none]
 | E, _ => List.replicate (szT E) (.bool true)
def gI (k : IntKind) (v : X) : Option Int := match v with
 | .int k' n => if k' = k then some n else none
 | _ => none
def g8 (v : X) : Option UInt8 := match v with
 | .int .u8 n => if 0 <= n /\ n < 256 then some (UInt8.ofNat n.toNat) else none
 | _ => none
def gB (v : X) : Option Bool := match v with
 | .bool b => some b
 | _ => none
def gS (v : X) : Option (List UInt8) := match v with
 | .str b => some b
 | _ => none
def gL (E : Nat) (v : X) : Option (List (Ty E)) := match v with
 | .sl E' xs _ => if h : E' = E then some (h ▸ xs) else none
 | .nil => some []
 | .slx E' xs _ => if h : E' = E then some (h ▸ xs) else none
 | _ => none
theorem Zo0 {k : IntKind} {v : X} {n : Int} (h : gI k v = some n) : Wk v (.int k n) := by
 unfold gI at h
 split at h
 ·split at h
  ·rename_i e; subst e; injection h with h; subst h; exact .same _
  ·cases h
 ·cases h
theorem ZBJ {v : X} {n : UInt8} (h : g8 v = some n) : Wk v (.int .u8 (n.toNat : Int)) := by
 unfold g8 at h
 split at h
 ·split at h
  ·rename_i m hr; injection h with h; subst h
   have : ((UInt8.ofNat m.toNat).toNat : Int) = m := by simp; omega
   rw [this]; exact .same _
  ·cases h
 ·cases h
theorem ZuD {v : X} {b : Bool} (h : gB v = some b) : Wk v (.bool b) := by
 unfold gB at h
 split at h
 ·injection h with h; subst h; exact .same _
 ·cases h
theorem ZBK {v : X} {b : List UInt8} (h : gS v = some b) : Wk v (.str b) := by
 unfold gS at h
 split at h
 ·injection h with h; subst h; exact .same _
 ·cases h
theorem Zft {E : Nat} {v : X} {xs : List (Ty E)} (h : gL E v = some xs) : Wk v (.sl E xs none) := by
 unfold gL at h
 split at h
 ·split at h
  ·rename_i o e; subst e; injection h with h; subst h
   cases o with
   | none => exact .same _
   | some r => exact .drop _ _ _
  ·cases h
 ·injection h with h; subst h; exact .nil _
 ·split at h
  ·rename_i e; subst e; injection h with h; subst h; exact .spare _ _ _
  ·cases h
 ·cases h
def ZBL : (E : Nat) -> List X -> Option (Ty E)
 | 0, [v0] => (gI .i64 v0).bind fun a0 => some a0
 | 1, [v0] => (g8 v0).bind fun a0 => some a0
 | 2, [v0] => (gS v0).bind fun a0 => some a0
 | 3, [v0] => (gL 1 v0).bind fun a0 => some a0
 | 4, [v0] => (gL 1 v0).bind fun a0 => some ⟨a0⟩
 | 5, [v0, v1] => (gL 1 v0).bind fun a0 => (gI .i64 v1).bind fun a1 => some ⟨⟨a0⟩, a1⟩
 | 6, [v0, v1] => (gI .i64 v0).bind fun a0 => (gL 1 v1).bind fun a1 => some ⟨a0, a1⟩
 | 7, [v0] => (gL 0 v0).bind fun a0 => some a0
 | 8, [v0, v1, v2, v3] => (gL 0 v0).bind fun a0 => (gL 0 v1).bind fun a1 => (gL 0 v2).bind fun a2 => (gL 0 v3).bind fun a3 => some ⟨a0, a1, a2, a3⟩
 | 9, [v0, v1, v2, v3, v4, v5] => (gI .i64 v0).bind fun a0 => (gI .i64 v1).bind fun a1 => (gL 0 v2).bind fun a2 => (gL 0 v3).bind fun a3 => (gL 0 v4).bind fun a4 => (gL 0 v5).bind fun a5 => some ⟨a0, a1, ⟨a2, a3, a4, a5⟩⟩
 | 10, [v0, v1, v2, v3, v4, v5, v6] => (gI .i64 v0).bind fun a0 => (gI .i64 v1).bind fun a1 => (gL 0 v2).bind fun a2 => (gL 0 v3).bind fun a3 => (gL 0 v4).bind fun a4 => (gL 0 v5).bind fun a5 => (gL 1 v6).bind fun a6 => some ⟨⟨a0, a1, ⟨a2, a3, a4, a5⟩⟩, a6⟩
 | 11, [v0] => (gI .u8 v0).bind fun a0 => some a0
 | 12, [v0] => (gB v0).bind fun a0 => some a0
 | 13, [v0, v1, v2] => (gB v0).bind fun a0 => (gB v1).bind fun a1 => (gL 1 v2).bind fun a2 => some ⟨a0, a1, a2⟩
 | 14, [v0, v1, v2] => (gB v0).bind fun a0 => (gB v1).bind fun a1 => (gL 1 v2).bind fun a2 => some ⟨⟨a0, a1, a2⟩⟩
 | _, _ => none
def ZBM : Nat -> Option Nat
 | 3 => some 0
 | 4 => some 12
 | 5 => some 1
 | 22 => some 3
 | 38 => some 7
 | 40 => some 8
 | 42 => some 9
 | 44 => some 10
 | 102 => some 6
 | 167 => some 4
 | 169 => some 5
 | 178 => some 13
 | 180 => some 14
 | _ => none
theorem ZAm : ∀ (E : Nat) (l : List X) (x : Ty E), ZBL E l = some x -> Wks l (ZAl E x) := by
 intro E l x h
 unfold ZBL at h
 split at h
 ·obtain ⟨a0, h0, h⟩ := Zal h
  injection h with h; subst h
  exact .cons (Zo0 h0) (.nil)
 ·obtain ⟨a0, h0, h⟩ := Zal h
  injection h with h; subst h
  exact .cons (ZBJ h0) (.nil)
 ·obtain ⟨a0, h0, h⟩ := Zal h
  injection h with h; subst h
  exact .cons (ZBK h0) (.nil)
 ·obtain ⟨a0, h0, h⟩ := Zal h
  injection h with h; subst h
  exact .cons (Zft h0) (.nil)
 ·obtain ⟨a0, h0, h⟩ := Zal h
  injection h with h; subst h
  exact .cons (Zft h0) (.nil)
 ·obtain ⟨a0, h0, h⟩ := Zal h
  obtain ⟨a1, h1, h⟩ := Zal h
  injection h with h; subst h
  exact .cons (Zft h0) (.cons (Zo0 h1) (.nil))
 ·obtain ⟨a0, h0, h⟩ := Zal h
  obtain ⟨a1, h1, h⟩ := Zal h
  injection h with h; subst h
  exact .cons (Zo0 h0) (.cons (Zft h1) (.nil))
 ·obtain ⟨a0, h0, h⟩ := Zal h
  injection h with h; subst h
  exact .cons (Zft h0) (.nil)
 ·obtain ⟨a0, h0, h⟩ := Zal h
  obtain ⟨a1, h1, h⟩ := Zal h
  obtain ⟨a2, h2, h⟩ := Zal h
  obtain ⟨a3, h3, h⟩ := Zal h
  injection h with h; subst h
  exact .cons (Zft h0) (.cons (Zft h1) (.cons (Zft h2) (.cons (Zft h3) (.nil))))
 ·obtain ⟨a0, h0, h⟩ := Zal h
  obtain ⟨a1, h1, h⟩ := Zal h
  obtain ⟨a2, h2, h⟩ := Zal h
  obtain ⟨a3, h3, h⟩ := Zal h
  obtain ⟨a4, h4, h⟩ := Zal h
  obtain ⟨a5, h5, h⟩ := Zal h
  injection h with h; subst h
  exact .cons (Zo0 h0) (.cons (Zo0 h1) (.cons (Zft h2) (.cons (Zft h3) (.cons (Zft h4) (.cons (Zft h5) (.nil))))))
 ·obtain ⟨a0, h0, h⟩ := Zal h
  obtain ⟨a1, h1, h⟩ := Zal h
  obtain ⟨a2, h2, h⟩ := Zal h
  obtain ⟨a3, h3, h⟩ := Zal h
  obtain ⟨a4, h4, h⟩ := Zal h
  obtain ⟨a5, h5, h⟩ := Zal h
  obtain ⟨a6, h6, h⟩ := Zal h
  injection h with h; subst h
  exact .cons (Zo0 h0) (.cons (Zo0 h1) (.cons (Zft h2) (.cons (Zft h3) (.cons (Zft h4) (.cons (Zft h5) (.cons (Zft h6) (.nil)))))))
 ·obtain ⟨a0, h0, h⟩ := Zal h
  injection h with h; subst h
  exact .cons (Zo0 h0) (.nil)
 ·obtain ⟨a0, h0, h⟩ := Zal h
  injection h with h; subst h
  exact .cons (ZuD h0) (.nil)
 ·obtain ⟨a0, h0, h⟩ := Zal h
  obtain ⟨a1, h1, h⟩ := Zal h
  obtain ⟨a2, h2, h⟩ := Zal h
  injection h with h; subst h
  exact .cons (ZuD h0) (.cons (ZuD h1) (.cons (Zft h2) (.nil)))
 ·obtain ⟨a0, h0, h⟩ := Zal h
  obtain ⟨a1, h1, h⟩ := Zal h
  obtain ⟨a2, h2, h⟩ := Zal h
  injection h with h; subst h
  exact .cons (ZuD h0) (.cons (ZuD h1) (.cons (Zft h2) (.nil)))
 ·cases h
def ZBN : (E : Nat) -> List (Ty E) -> Option (List UInt8)
 | 1, xs => some xs
 | _, _ => none
theorem ZuE : ∀ xs : List UInt8, xs.flatMap (ZAl 1) = xs.map fun b => XV.int .u8 (b.toNat : Int)
 | [] => rfl
 | x :: xs => by rw [List.flatMap_cons, ZuE xs]; rfl
def ZBO : (E : Nat) -> List UInt8 -> Option (List (Ty E))
 | 1, xs => some xs
 | _, _ => none
def CT : Zaw Ty where
 unb := ZBO
 unb_ok := by
  intro E bs xs h
  unfold ZBO at h
  split at h
  ·injection h with h; subst h; exact ZuE _
  ·cases h
 unb_len := by
  intro E bs xs h
  unfold ZBO at h
  split at h
  ·injection h with h; subst h; rfl
  ·cases h
 byt := ZBN
 byt_ok := by
  intro E xs bs h
  unfold ZBN at h
  split at h
  ·injection h with h; subst h; exact ZuE _
  ·cases h
 byt_sz := by
  intro E xs bs h
  unfold ZBN at h
  split at h
  ·rfl
  ·cases h
 enc := ZAl
 dec := ZBL
 sz := szT
 code := ZBM
 len := by intro E x; unfold ZAl; split <;> first | rfl | exact List.length_replicate
 pos := by intro E; unfold szT; split <;> decide
 shut := by
  intro E x v hv
  have key : ∀ l : List X, (l.all XV.closed) = true -> v ∈ l -> v.closed = true := fun l h1 h2 => List.all_eq_true.1 h1 v h2
  unfold ZAl at hv
  split at hv
  all_goals first | (rw [List.eq_of_mem_replicate hv]; rfl) | exact key _ rfl hv
 back := ZAm
def b8 (n : Int) : Option UInt8 := (g8 (.int .u8 n)).bind fun a0 => some a0
theorem Za2 : Tryz.prog.follows .mixedOrders = true := by kernel_rfl
def ZjA (x : Int) : Prop := InK .i64 x
def ZrH (x : UInt8) : Prop := True
def ZlI (x : List (UInt8)) : Prop := OkL 1 ZrH x
def ZkT (x : List (Int)) : Prop := OkL 8 ZjA x
def ZsQ (x : Zck) : Prop := ZkT x.voters /\ ZkT x.old /\ ZkT x.learners /\ ZkT x.want /\ True
def Zwy (x : ZeC) : Prop := ZjA x.index /\ ZjA x.term_ /\ ZsQ x.config /\ True
def Zfu (x : Zbe) : Prop := Zwy x.base /\ ZlI x.bytes /\ True
theorem ZsR : ∀ ds, Za7 [.i .i64] ds -> (∀ d ∈ ds, Zhy d) -> ∃ x : Ty 0, DXs CT (CT.enc 0 x) ds /\ ZjA x := by
 intro ds h hs
 obtain ⟨d0, ds0, rfl, f0, h⟩ := Zbv h
 obtain rfl := Zgg h
 obtain ⟨a0, rfl, k0⟩ := ZuA f0
 exact ⟨a0, .int _ _ (.none), k0⟩
theorem ZAn : ∀ ds, Za7 [.i .u8] ds -> (∀ d ∈ ds, Zhy d) -> ∃ x : Ty 1, DXs CT (CT.enc 1 x) ds /\ ZrH x := by
 intro ds h hs
 obtain ⟨d0, ds0, rfl, f0, h⟩ := Zbv h
 obtain rfl := Zgg h
 obtain ⟨a0, rfl⟩ := Zuy f0
 exact ⟨a0, .int _ _ (.none), trivial⟩
theorem ZBP : ∀ ds, Za7 [.l [.i .u8]] ds -> (∀ d ∈ ds, Zhy d) -> ∃ x : Ty 3, DXs CT (CT.enc 3 x) ds /\ ZlI x := by
 intro ds h hs
 obtain ⟨d0, ds0, rfl, f0, h⟩ := Zbv h
 obtain rfl := Zgg h
 obtain ⟨a0, es0, rfl, q0, k0⟩ := Zjz ZAn rfl f0 (hs _ (by simp))
 exact ⟨a0, .sl _ _ _ q0 (.none), k0⟩
theorem ZxD : ∀ ds, Za7 [.i .i64, .i .i64, .l [.i .i64], .l [.i .i64], .l [.i .i64], .l [.i .i64], .l [.i .u8]] ds -> (∀ d ∈ ds, Zhy d) -> ∃ x : Ty 10, DXs CT (CT.enc 10 x) ds /\ Zfu x := by
 intro ds h hs
 obtain ⟨d0, ds0, rfl, f0, h⟩ := Zbv h
 obtain ⟨d1, ds1, rfl, f1, h⟩ := Zbv h
 obtain ⟨d2, ds2, rfl, f2, h⟩ := Zbv h
 obtain ⟨d3, ds3, rfl, f3, h⟩ := Zbv h
 obtain ⟨d4, ds4, rfl, f4, h⟩ := Zbv h
 obtain ⟨d5, ds5, rfl, f5, h⟩ := Zbv h
 obtain ⟨d6, ds6, rfl, f6, h⟩ := Zbv h
 obtain rfl := Zgg h
 obtain ⟨a0, rfl, k0⟩ := ZuA f0
 obtain ⟨a1, rfl, k1⟩ := ZuA f1
 obtain ⟨a2, es2, rfl, q2, k2⟩ := Zjz ZsR rfl f2 (hs _ (by simp))
 obtain ⟨a3, es3, rfl, q3, k3⟩ := Zjz ZsR rfl f3 (hs _ (by simp))
 obtain ⟨a4, es4, rfl, q4, k4⟩ := Zjz ZsR rfl f4 (hs _ (by simp))
 obtain ⟨a5, es5, rfl, q5, k5⟩ := Zjz ZsR rfl f5 (hs _ (by simp))
 obtain ⟨a6, es6, rfl, q6, k6⟩ := Zjz ZAn rfl f6 (hs _ (by simp))
 exact ⟨⟨⟨a0, a1, ⟨a2, a3, a4, a5⟩⟩, a6⟩, .int _ _ (.int _ _ (.sl _ _ _ q2 (.sl _ _ _ q3 (.sl _ _ _ q4 (.sl _ _ _ q5 (.sl _ _ _ q6 (.none))))))), ⟨⟨k0, k1, ⟨k2, k3, k4, k5, trivial⟩, trivial⟩, k6, trivial⟩⟩
end Go.Proofs.YteempnebenjkmaaGreatDoor
