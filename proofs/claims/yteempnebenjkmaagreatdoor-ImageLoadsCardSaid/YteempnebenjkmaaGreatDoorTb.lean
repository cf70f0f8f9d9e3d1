/- Typed data, by program. -/
import Derived.Test.YteempnebenjkmaaGreatDoorBr
import Derived.Test.YteempnebenjkmaaGreatDoorChecked
namespace Go.Proofs.YteempnebenjkmaaGreatDoor
open Go.RowKit
set_option maxRecDepth 100000
set_option linter.unusedVariables false
structure Ztf where
 b : List (UInt8)
 deriving DecidableEq
structure ZdN where
 rest : Ztf
 at_ : Int
 deriving DecidableEq
structure ZbH where
 kind : Int
 data : List (UInt8)
 deriving DecidableEq
structure Zbv where
 voters : List (Int)
 old : List (Int)
 learners : List (Int)
 want : List (Int)
 deriving DecidableEq
structure ZcP where
 index : Int
 term_ : Int
 config : Zbv
 deriving DecidableEq
structure Zb6 where
 base : ZcP
 bytes : List (UInt8)
 deriving DecidableEq
structure ZdJ where
 made : Bool
 failed : Bool
 left : List (UInt8)
 deriving DecidableEq
structure Zao where
 place : ZdJ
 deriving DecidableEq
structure Zbd where
 kind : Int
 data : List (UInt8)
 deriving DecidableEq
structure ZaO where
 left : List (UInt8)
 failed : Bool
 deriving DecidableEq
@[reducible] def Ty : Nat -> Type
 | 0 => Int
 | 1 => UInt8
 | 2 => List UInt8
 | 3 => List (UInt8)
 | 4 => Ztf
 | 5 => ZdN
 | 6 => ZbH
 | 7 => List (Int)
 | 8 => Zbv
 | 9 => ZcP
 | 10 => Zb6
 | 11 => Int
 | 12 => Bool
 | 13 => ZdJ
 | 14 => Zao
 | 15 => Zbd
 | 16 => ZaO
 | _ => Unit
abbrev X := XV Ty
def szT : Nat -> Nat
 | 0 => 1
 | 1 => 1
 | 2 => 1
 | 3 => 1
 | 4 => 1
 | 5 => 2
 | 6 => 2
 | 7 => 1
 | 8 => 4
 | 9 => 6
 | 10 => 7
 | 11 => 1
 | 12 => 1
 | 13 => 3
 | 14 => 3
 | 15 => 2
 | 16 => 2
 | _ => 1
def ZBx : (E : Nat) -> Ty E -> List X
 | 0, x => [.int .i64 x]
 | 1, x => [.int .u8 (x.toNat : Int)]
 | 2, x => [.str x]
 | 3, x => [.sl 1 x none]
 | 4, x => [.sl 1 x.b none]
 | 5, x => [.sl 1 x.rest.b none, .int .i64 x.at_]
 | 6, x => [.int .i64 x.kind, .sl 1 x.data none]
 | 7, x => [.sl 0 x none]
 | 8, x => [.sl 0 x.voters none, .sl 0 x.old none, .sl 0 x.learners none, .sl 0 x.want none]
 | 9, x => [.int .i64 x.index, .int .i64 x.term_, .sl 0 x.config.voters none, .sl 0 x.config.old none, .sl 0 x.config.learners none, .sl 0 x.config.want none]
 | 10, x => [.int .i64 x.base.index, .int .i64 x.base.term_, .sl 0 x.base.config.voters none, .sl 0 x.base.config.old none, .sl 0 x.base.config.learners none, .sl 0 x.base.config.want none, .sl 1 x.bytes none]
 | 11, x => [.int .u8 x]
 | 12, x => [.bool x]
 | 13, x => [.bool x.made, .bool x.failed, .sl 1 x.left none]
 | 14, x => [.bool x.place.made, .bool x.place.failed, .sl 1 x.place.left none]
 | 15, x => [.int .i64 x.kind, .sl 1 x.data none]
 | 16, x => [.sl 1 x.left none, .bool x.failed]
 | E, _ => List.replicate (szT E) (.bool true)
def gI (k : IntKind) (v : X) : Option Int := match v with
 | .int k' n => if k' = k then some n else none
 | _ => none
def g8 (v : X) : Option UInt8 := match v with
 | .int .u8 n => if 0 <= n /\ n < 256 then some (UInt8.ofNat n.toNat) else none
 | _ => none
def gB (v : X) : Option Bool := match v with
 | .bool b => some b
 | _ => none
def gS (v : X) : Option (List UInt8) := match v with
 | .str b => some b
 | _ => none
def gL (E : Nat) (v : X) : Option (List (Ty E)) := match v with
 | .sl E' xs _ => if h : E' = E then some (h ▸ xs) else none
 | .nil => some []
 | .slx E' xs _ => if h : E' = E then some (h ▸ xs) else none
 | _ => none
theorem Zn4 {k : IntKind} {v : X} {n : Int} (h : gI k v = some n) : Wk v (.int k n) := by
 unfold gI at h
 split at h
 ·split at h
  ·rename_i e; subst e; injection h with h; subst h; exact .same _
  ·cases h
 ·cases h
theorem ZC1 {v : X} {n : UInt8} (h : g8 v = some n) : Wk v (.int .u8 (n.toNat : Int)) := by
 unfold g8 at h
 split at h
 ·split at h
  ·rename_i m hr; injection h with h; subst h
   have : ((UInt8.ofNat m.toNat).toNat : Int) = m := by simp; omega
   rw [this]; exact .same _
  ·cases h
 ·cases h
theorem Ztg {v : X} {b : Bool} (h : gB v = some b) : Wk v (.bool b) := by
 unfold gB at h
 split at h
 ·injection h with h; subst h; exact .same _
 ·cases h
theorem ZC2 {v : X} {b : List UInt8} (h : gS v = some b) : Wk v (.str b) := by
 unfold gS at h
 split at h
 ·injection h with h; subst h; exact .same _
 ·cases h
theorem Ze4 {E : Nat} {v : X} {xs : List (Ty E)} (h : gL E v = some xs) : Wk v (.sl E xs none) := by
 unfold gL at h
 split at h
 ·split at h
  ·rename_i o e; subst e; injection h with h; subst h
   cases o with
   | none => exact .same _
   | some r => exact .drop _ _ _
  ·cases h
 ·injection h with h; subst h; exact .nil _
 ·split at h
  ·rename_i e; subst e; injection h with h; subst h; exact .spare _ _ _
  ·cases h
 ·cases h
def ZC3 : (E : Nat) -> List X -> Option (Ty E)
 | 0, [v0] => (gI .i64 v0).bind fun a0 => some a0
 | 1, [v0] => (g8 v0).bind fun a0 => some a0
 | 2, [v0] => (gS v0).bind fun a0 => some a0
 | 3, [v0] => (gL 1 v0).bind fun a0 => some a0
 | 4, [v0] => (gL 1 v0).bind fun a0 => some ⟨a0⟩
 | 5, [v0, v1] => (gL 1 v0).bind fun a0 => (gI .i64 v1).bind fun a1 => some ⟨⟨a0⟩, a1⟩
 | 6, [v0, v1] => (gI .i64 v0).bind fun a0 => (gL 1 v1).bind fun a1 => some ⟨a0, a1⟩
 | 7, [v0] => (gL 0 v0).bind fun a0 => some a0
 | 8, [v0, v1, v2, v3] => (gL 0 v0).bind fun a0 => (gL 0 v1).bind fun a1 => (gL 0 v2).bind fun a2 => (gL 0 v3).bind fun a3 => some ⟨a0, a1, a2, a3⟩
 | 9, [v0, v1, v2, v3, v4, v5] => (gI .i64 v0).bind fun a0 => (gI .i64 v1).bind fun a1 => (gL 0 v2).bind fun a2 => (gL 0 v3).bind fun a3 => (gL 0 v4).bind fun a4 => (gL 0 v5).bind fun a5 => some ⟨a0, a1, ⟨a2, a3, a4, a5⟩⟩
 | 10, [v0, v1, v2, v3, v4, v5, v6] => (gI .i64 v0).bind fun a0 => (gI .i64 v1).bind fun a1 => (gL 0 v2).bind fun a2 => (gL 0 v3).bind fun a3 => (gL 0 v4).bind fun a4 => (gL 0 v5).bind fun a5 => (gL 1 v6).bind fun a6 => some ⟨⟨a0, a1, ⟨a2, a3, a4, a5⟩⟩, a6⟩
 | 11, [v0] => (gI .u8 v0).bind fun a0 => some a0
 | 12, [v0] => (gB v0).bind fun a0 => some a0
 | 13, [v0, v1, v2] => (gB v0).bind fun a0 => (gB v1).bind fun a1 => (gL 1 v2).bind fun a2 => some ⟨a0, a1, a2⟩
 | 14, [v0, v1, v2] => (gB v0).bind fun a0 => (gB v1).bind fun a1 => (gL 1 v2).bind fun a2 => some ⟨⟨a0, a1, a2⟩⟩
 | 15, [v0, v1] => (gI .i64 v0).bind fun a0 => (gL 1 v1).bind fun a1 => some ⟨a0, a1⟩
 | 16, [v0, v1] => (gL 1 v0).bind fun a0 => (gB v1).bind fun a1 => some ⟨a0, a1⟩
 | _, _ => none
def ZC4 : Nat -> Option Nat
 | 3 => some 0
 | 4 => some 12
 | 5 => some 1
 | 22 => some 3
 | 26 => some 15
 | 38 => some 7
 | 40 => some 8
 | 42 => some 9
 | 44 => some 10
 | 102 => some 6
 | 117 => some 16
 | 167 => some 4
 | 169 => some 5
 | 178 => some 13
 | 180 => some 14
 | _ => none
theorem ZBy : ∀ (E : Nat) (l : List X) (x : Ty E), ZC3 E l = some x -> Wks l (ZBx E x) := by
 intro E l x h
 unfold ZC3 at h
 split at h
 ·obtain ⟨a0, h0, h⟩ := Zaj h
  injection h with h; subst h
  exact .cons (Zn4 h0) (.nil)
 ·obtain ⟨a0, h0, h⟩ := Zaj h
  injection h with h; subst h
  exact .cons (ZC1 h0) (.nil)
 ·obtain ⟨a0, h0, h⟩ := Zaj h
  injection h with h; subst h
  exact .cons (ZC2 h0) (.nil)
 ·obtain ⟨a0, h0, h⟩ := Zaj h
  injection h with h; subst h
  exact .cons (Ze4 h0) (.nil)
 ·obtain ⟨a0, h0, h⟩ := Zaj h
  injection h with h; subst h
  exact .cons (Ze4 h0) (.nil)
 ·obtain ⟨a0, h0, h⟩ := Zaj h
  obtain ⟨a1, h1, h⟩ := Zaj h
  injection h with h; subst h
  exact .cons (Ze4 h0) (.cons (Zn4 h1) (.nil))
 ·obtain ⟨a0, h0, h⟩ := Zaj h
  obtain ⟨a1, h1, h⟩ := Zaj h
  injection h with h; subst h
  exact .cons (Zn4 h0) (.cons (Ze4 h1) (.nil))
 ·obtain ⟨a0, h0, h⟩ := Zaj h
  injection h with h; subst h
  exact .cons (Ze4 h0) (.nil)
 ·obtain ⟨a0, h0, h⟩ := Zaj h
  obtain ⟨a1, h1, h⟩ := Zaj h
  obtain ⟨a2, h2, h⟩ := Zaj h
  obtain ⟨a3, h3, h⟩ := Zaj h
  injection h with h; subst h
  exact .cons (Ze4 h0) (.cons (Ze4 h1) (.cons (Ze4 h2) (.cons (Ze4 h3) (.nil))))
 ·obtain ⟨a0, h0, h⟩ := Zaj h
  obtain ⟨a1, h1, h⟩ := Zaj h
  obtain ⟨a2, h2, h⟩ := Zaj h
  obtain ⟨a3, h3, h⟩ := Zaj h
  obtain ⟨a4, h4, h⟩ := Zaj h
  obtain ⟨a5, h5, h⟩ := Zaj h
  injection h with h; subst h
  exact .cons (Zn4 h0) (.cons (Zn4 h1) (.cons (Ze4 h2) (.cons (Ze4 h3) (.cons (Ze4 h4) (.cons (Ze4 h5) (.nil))))))
 ·obtain ⟨a0, h0, h⟩ := Zaj h
  obtain ⟨a1, h1, h⟩ := Zaj h
  obtain ⟨a2, h2, h⟩ := Zaj h
  obtain ⟨a3, h3, h⟩ := Zaj h
  obtain ⟨a4, h4, h⟩ := Zaj h
  obtain ⟨a5, h5, h⟩ := Zaj h
  obtain ⟨a6, h6, h⟩ := Zaj h
  injection h with h; subst h
  exact .cons (Zn4 h0) (.cons (Zn4 h1) (.cons (Ze4 h2) (.cons (Ze4 h3) (.cons (Ze4 h4) (.cons (Ze4 h5) (.cons (Ze4 h6) (.nil)))))))
 ·obtain ⟨a0, h0, h⟩ := Zaj h
  injection h with h; subst h
  exact .cons (Zn4 h0) (.nil)
 ·obtain ⟨a0, h0, h⟩ := Zaj h
  injection h with h; subst h
  exact .cons (Ztg h0) (.nil)
 ·obtain ⟨a0, h0, h⟩ := Zaj h
  obtain ⟨a1, h1, h⟩ := Zaj h
  obtain ⟨a2, h2, h⟩ := Zaj h
  injection h with h; subst h
  exact .cons (Ztg h0) (.cons (Ztg h1) (.cons (Ze4 h2) (.nil)))
 ·obtain ⟨a0, h0, h⟩ := Zaj h
  obtain ⟨a1, h1, h⟩ := Zaj h
  obtain ⟨a2, h2, h⟩ := Zaj h
  injection h with h; subst h
  exact .cons (Ztg h0) (.cons (Ztg h1) (.cons (Ze4 h2) (.nil)))
 ·obtain ⟨a0, h0, h⟩ := Zaj h
  obtain ⟨a1, h1, h⟩ := Zaj h
  injection h with h; subst h
  exact .cons (Zn4 h0) (.cons (Ze4 h1) (.nil))
 ·obtain ⟨a0, h0, h⟩ := Zaj h
  obtain ⟨a1, h1, h⟩ := Zaj h
  injection h with h; subst h
  exact .cons (Ze4 h0) (.cons (Ztg h1) (.nil))
 ·cases h
def ZC5 : (E : Nat) -> List (Ty E) -> Option (List UInt8)
 | 1, xs => some xs
 | _, _ => none
theorem Zve : ∀ xs : List UInt8, xs.flatMap (ZBx 1) = xs.map fun b => XV.int .u8 (b.toNat : Int)
 | [] => rfl
 | x :: xs => by rw [List.flatMap_cons, Zve xs]; rfl
def ZC6 : (E : Nat) -> List UInt8 -> Option (List (Ty E))
 | 1, xs => some xs
 | _, _ => none
def CT : ZaA Ty where
 unb := ZC6
 unb_ok := by
  intro E bs xs h
  unfold ZC6 at h
  split at h
  ·injection h with h; subst h; exact Zve _
  ·cases h
 unb_len := by
  intro E bs xs h
  unfold ZC6 at h
  split at h
  ·injection h with h; subst h; rfl
  ·cases h
 byt := ZC5
 byt_ok := by
  intro E xs bs h
  unfold ZC5 at h
  split at h
  ·injection h with h; subst h; exact Zve _
  ·cases h
 byt_sz := by
  intro E xs bs h
  unfold ZC5 at h
  split at h
  ·rfl
  ·cases h
 enc := ZBx
 dec := ZC3
 sz := szT
 code := ZC4
 len := by intro E x; unfold ZBx; split <;> first | rfl | exact List.length_replicate
 pos := by intro E; unfold szT; split <;> decide
 shut := by
  intro E x v hv
  have key : ∀ l : List X, (l.all XV.closed) = true -> v ∈ l -> v.closed = true := fun l h1 h2 => List.all_eq_true.1 h1 v h2
  unfold ZBx at hv
  split at hv
  all_goals first | (rw [List.eq_of_mem_replicate hv]; rfl) | exact key _ rfl hv
 back := ZBy
def b8 (n : Int) : Option UInt8 := (g8 (.int .u8 n)).bind fun a0 => some a0
theorem ZbI : Tryz.prog.follows .mixedOrders = true := by kernel_rfl
abbrev LI := List Int
abbrev LB := List UInt8
abbrev CEp := CE CT Tryz.prog
abbrev LEp := LE CT Tryz.prog
def lt0 : List LEp := []
def dr0 : Nat -> Nat -> DrA | _, _ => ⟨[], [], [], [], [], false, []⟩
theorem ceO {f : FuncId} {fn : Func} {args : List Vs} {hs : List Hs} {res : Rs} {outs : List Hs} {m : VsD Ty args -> HsD Ty hs -> Option (res.D Ty × HsD Ty outs)} (hf : Tryz.prog.funcs[f]? = some fn) (hok : ZAE Tryz.prog fn args.length = true) (tb : List CEp) (hn : (ZbB (Zcf fn)).length = 0) (hrun : ∀ d dh, ZCk CT Tryz.prog (Zpm tb) (ZBk tb) dr0 (Zbj lt0) fn (ZkY CT args d) (Zed CT hs dh) (fun v h => ZwY CT hs.length res outs (Zik 0 hs) v h fun d dh => some (d, dh)) = m d dh) : ∀ d dh r, m d dh = some r -> Tr CT Tryz.prog (fun _ => True) f (ZkY CT args d) (Zed CT hs dh) (res.st CT r.1) (Zed CT outs r.2) := ZdE ZbI hf hok (Zau tb) (lps := Zbj lt0) (ZbP (Zbc hn)) hrun
def Zr5 (x : UInt8) : Prop := True
def ZlU (x : List (UInt8)) : Prop := OkL 1 Zr5 x
theorem ZC7 : ∀ ds, Zbp [.i .u8] ds -> (∀ d ∈ ds, ZiP d) -> ∃ x : Ty 1, DXs CT (CT.enc 1 x) ds /\ Zr5 x := by
 intro ds h hs
 obtain ⟨d0, ds0, rfl, f0, h⟩ := Zkq h
 obtain rfl := ZlT h
 obtain ⟨a0, rfl⟩ := Zvb f0
 exact ⟨a0, .int _ _ (.none), trivial⟩
theorem ZBz : ∀ ds, Zbp [.l [.i .u8]] ds -> (∀ d ∈ ds, ZiP d) -> ∃ x : Ty 3, DXs CT (CT.enc 3 x) ds /\ ZlU x := by
 intro ds h hs
 obtain ⟨d0, ds0, rfl, f0, h⟩ := Zkq h
 obtain rfl := ZlT h
 obtain ⟨a0, es0, rfl, q0, k0⟩ := Zzv ZC7 rfl f0 (hs _ (by simp))
 exact ⟨a0, .sl _ _ _ q0 (.none), k0⟩
end Go.Proofs.YteempnebenjkmaaGreatDoor
