/- Typed data, by program. -/
import Derived.Test.YtlkphbhmfoehpaaBr
import Derived.Test.YtlkphbhmfoehpaaChecked
namespace Go.Proofs.Ytlkphbhmfoehpaa
open Go.RowKit
set_option maxRecDepth 100000
set_option linter.unusedVariables false
structure DConfig where
  voters : List (Int)
  old : List (Int)
  learners : List (Int)
  want : List (Int)
  deriving DecidableEq
structure DEntry where
  term_ : Int
  kind : Int
  command : List (UInt8)
  config : DConfig
  deriving DecidableEq
structure DBase where
  index : Int
  term_ : Int
  config : DConfig
  deriving DecidableEq
structure DAct where
  kind : Int
  index : Int
  entries : List (DEntry)
  base : DBase
  deriving DecidableEq
@[reducible] def Ty : Nat → Type
  | 0 => Int
  | 1 => UInt8
  | 2 => List UInt8
  | 3 => Int
  | 4 => List (UInt8)
  | 5 => List (Int)
  | 6 => DConfig
  | 7 => DEntry
  | 8 => List (DEntry)
  | 9 => DBase
  | 10 => DAct
  | _ => Unit
abbrev X := XV Ty
def szT : Nat → Nat
  | 0 => 1
  | 1 => 1
  | 2 => 1
  | 3 => 1
  | 4 => 1
  | 5 => 1
  | 6 => 4
  | 7 => 7
  | 8 => 1
  | 9 => 6
  | 10 => 9
  | _ => 1
def encT : (E : Nat) → Ty E → List X
  | 0, x => [.int .i64 x]
  | 1, x => [.int .u8 (x.toNat : Int)]
  | 2, x => [.str x]
  | 3, x => [.int .u8 x]
  | 4, x => [.sl 1 x none]
  | 5, x => [.sl 0 x none]
  | 6, x => [.sl 0 x.voters none, .sl 0 x.old none, .sl 0 x.learners none, .sl 0 x.want none]
  | 7, x => [.int .i64 x.term_, .int .u8 x.kind, .sl 1 x.command none, .sl 0 x.config.voters none, .sl 0 x.config.old none, .sl 0 x.config.learners none, .sl 0 x.config.want none]
  | 8, x => [.sl 7 x none]
  | 9, x => [.int .i64 x.index, .int .i64 x.term_, .sl 0 x.config.voters none, .sl 0 x.config.old none, .sl 0 x.config.learners none, .sl 0 x.config.want none]
  | 10, x => [.int .i64 x.kind, .int .i64 x.index, .sl 7 x.entries none, .int .i64 x.base.index, .int .i64 x.base.term_, .sl 0 x.base.config.voters none, .sl 0 x.base.config.old none, .sl 0 x.base.config.learners none, .sl 0 x.base.config.want none]
  | E, _ => List.replicate (szT E) (.bool true)
def gI (k : IntKind) (v : X) : Option Int := match v with
  | .int k' n => if k' = k then some n else none
  | _ => none
def g8 (v : X) : Option UInt8 := match v with
  | .int .u8 n => if 0 ≤ n ∧ n < 256 then some (UInt8.ofNat n.toNat) else none
  | _ => none
def gB (v : X) : Option Bool := match v with
  | .bool b => some b
  | _ => none
def gS (v : X) : Option (List UInt8) := match v with
  | .str b => some b
  | _ => none
def gL (E : Nat) (v : X) : Option (List (Ty E)) := match v with
  | .sl E' xs _ => if h : E' = E then some (h ▸ xs) else none
  | .nil => some []
  | .slx E' xs _ => if h : E' = E then some (h ▸ xs) else none
  | _ => none
theorem gI_wk {k : IntKind} {v : X} {n : Int} (h : gI k v = some n) : Wk v (.int k n) := by
  unfold gI at h
  split at h
  · split at h
    · rename_i e; subst e; injection h with h; subst h; exact .same _
    · cases h
  · cases h
theorem g8_wk {v : X} {n : UInt8} (h : g8 v = some n) : Wk v (.int .u8 (n.toNat : Int)) := by
  unfold g8 at h
  split at h
  · split at h
    · rename_i m hr; injection h with h; subst h
      have : ((UInt8.ofNat m.toNat).toNat : Int) = m := by simp; omega
      rw [this]; exact .same _
    · cases h
  · cases h
theorem gB_wk {v : X} {b : Bool} (h : gB v = some b) : Wk v (.bool b) := by
  unfold gB at h
  split at h
  · injection h with h; subst h; exact .same _
  · cases h
theorem gS_wk {v : X} {b : List UInt8} (h : gS v = some b) : Wk v (.str b) := by
  unfold gS at h
  split at h
  · injection h with h; subst h; exact .same _
  · cases h
theorem gL_wk {E : Nat} {v : X} {xs : List (Ty E)} (h : gL E v = some xs) : Wk v (.sl E xs none) := by
  unfold gL at h
  split at h
  · split at h
    · rename_i o e; subst e; injection h with h; subst h
      cases o with
      | none => exact .same _
      | some r => exact .drop _ _ _
    · cases h
  · injection h with h; subst h; exact .nil _
  · split at h
    · rename_i e; subst e; injection h with h; subst h; exact .spare _ _ _
    · cases h
  · cases h
def decT : (E : Nat) → List X → Option (Ty E)
  | 0, [v0] => (gI .i64 v0).bind fun a0 => some a0
  | 1, [v0] => (g8 v0).bind fun a0 => some a0
  | 2, [v0] => (gS v0).bind fun a0 => some a0
  | 3, [v0] => (gI .u8 v0).bind fun a0 => some a0
  | 4, [v0] => (gL 1 v0).bind fun a0 => some a0
  | 5, [v0] => (gL 0 v0).bind fun a0 => some a0
  | 6, [v0, v1, v2, v3] => (gL 0 v0).bind fun a0 => (gL 0 v1).bind fun a1 => (gL 0 v2).bind fun a2 => (gL 0 v3).bind fun a3 => some ⟨a0, a1, a2, a3⟩
  | 7, [v0, v1, v2, v3, v4, v5, v6] => (gI .i64 v0).bind fun a0 => (gI .u8 v1).bind fun a1 => (gL 1 v2).bind fun a2 => (gL 0 v3).bind fun a3 => (gL 0 v4).bind fun a4 => (gL 0 v5).bind fun a5 => (gL 0 v6).bind fun a6 => some ⟨a0, a1, a2, ⟨a3, a4, a5, a6⟩⟩
  | 8, [v0] => (gL 7 v0).bind fun a0 => some a0
  | 9, [v0, v1, v2, v3, v4, v5] => (gI .i64 v0).bind fun a0 => (gI .i64 v1).bind fun a1 => (gL 0 v2).bind fun a2 => (gL 0 v3).bind fun a3 => (gL 0 v4).bind fun a4 => (gL 0 v5).bind fun a5 => some ⟨a0, a1, ⟨a2, a3, a4, a5⟩⟩
  | 10, [v0, v1, v2, v3, v4, v5, v6, v7, v8] => (gI .i64 v0).bind fun a0 => (gI .i64 v1).bind fun a1 => (gL 7 v2).bind fun a2 => (gI .i64 v3).bind fun a3 => (gI .i64 v4).bind fun a4 => (gL 0 v5).bind fun a5 => (gL 0 v6).bind fun a6 => (gL 0 v7).bind fun a7 => (gL 0 v8).bind fun a8 => some ⟨a0, a1, a2, ⟨a3, a4, ⟨a5, a6, a7, a8⟩⟩⟩
  | _, _ => none
def codeT : Nat → Option Nat
  | 3 => some 0
  | 5 => some 1
  | 22 => some 5
  | 24 => some 6
  | 26 => some 9
  | 27 => some 8
  | 31 => some 10
  | 40 => some 4
  | 42 => some 7
  | _ => none
theorem back_T : ∀ (E : Nat) (l : List X) (x : Ty E), decT E l = some x → Wks l (encT E x) := by
  intro E l x h
  unfold decT at h
  split at h
  · obtain ⟨a0, h0, h⟩ := bind_some' h
    injection h with h; subst h
    exact .cons (gI_wk h0) (.nil)
  · obtain ⟨a0, h0, h⟩ := bind_some' h
    injection h with h; subst h
    exact .cons (g8_wk h0) (.nil)
  · obtain ⟨a0, h0, h⟩ := bind_some' h
    injection h with h; subst h
    exact .cons (gS_wk h0) (.nil)
  · obtain ⟨a0, h0, h⟩ := bind_some' h
    injection h with h; subst h
    exact .cons (gI_wk h0) (.nil)
  · obtain ⟨a0, h0, h⟩ := bind_some' h
    injection h with h; subst h
    exact .cons (gL_wk h0) (.nil)
  · obtain ⟨a0, h0, h⟩ := bind_some' h
    injection h with h; subst h
    exact .cons (gL_wk h0) (.nil)
  · obtain ⟨a0, h0, h⟩ := bind_some' h
    obtain ⟨a1, h1, h⟩ := bind_some' h
    obtain ⟨a2, h2, h⟩ := bind_some' h
    obtain ⟨a3, h3, h⟩ := bind_some' h
    injection h with h; subst h
    exact .cons (gL_wk h0) (.cons (gL_wk h1) (.cons (gL_wk h2) (.cons (gL_wk h3) (.nil))))
  · obtain ⟨a0, h0, h⟩ := bind_some' h
    obtain ⟨a1, h1, h⟩ := bind_some' h
    obtain ⟨a2, h2, h⟩ := bind_some' h
    obtain ⟨a3, h3, h⟩ := bind_some' h
    obtain ⟨a4, h4, h⟩ := bind_some' h
    obtain ⟨a5, h5, h⟩ := bind_some' h
    obtain ⟨a6, h6, h⟩ := bind_some' h
    injection h with h; subst h
    exact .cons (gI_wk h0) (.cons (gI_wk h1) (.cons (gL_wk h2) (.cons (gL_wk h3) (.cons (gL_wk h4) (.cons (gL_wk h5) (.cons (gL_wk h6) (.nil)))))))
  · obtain ⟨a0, h0, h⟩ := bind_some' h
    injection h with h; subst h
    exact .cons (gL_wk h0) (.nil)
  · obtain ⟨a0, h0, h⟩ := bind_some' h
    obtain ⟨a1, h1, h⟩ := bind_some' h
    obtain ⟨a2, h2, h⟩ := bind_some' h
    obtain ⟨a3, h3, h⟩ := bind_some' h
    obtain ⟨a4, h4, h⟩ := bind_some' h
    obtain ⟨a5, h5, h⟩ := bind_some' h
    injection h with h; subst h
    exact .cons (gI_wk h0) (.cons (gI_wk h1) (.cons (gL_wk h2) (.cons (gL_wk h3) (.cons (gL_wk h4) (.cons (gL_wk h5) (.nil))))))
  · obtain ⟨a0, h0, h⟩ := bind_some' h
    obtain ⟨a1, h1, h⟩ := bind_some' h
    obtain ⟨a2, h2, h⟩ := bind_some' h
    obtain ⟨a3, h3, h⟩ := bind_some' h
    obtain ⟨a4, h4, h⟩ := bind_some' h
    obtain ⟨a5, h5, h⟩ := bind_some' h
    obtain ⟨a6, h6, h⟩ := bind_some' h
    obtain ⟨a7, h7, h⟩ := bind_some' h
    obtain ⟨a8, h8, h⟩ := bind_some' h
    injection h with h; subst h
    exact .cons (gI_wk h0) (.cons (gI_wk h1) (.cons (gL_wk h2) (.cons (gI_wk h3) (.cons (gI_wk h4) (.cons (gL_wk h5) (.cons (gL_wk h6) (.cons (gL_wk h7) (.cons (gL_wk h8) (.nil)))))))))
  · cases h
def bytT : (E : Nat) → List (Ty E) → Option (List UInt8)
  | 1, xs => some xs
  | _, _ => none
theorem enc_b1 : ∀ xs : List UInt8, xs.flatMap (encT 1) = xs.map fun b => XV.int .u8 (b.toNat : Int)
  | [] => rfl
  | x :: xs => by rw [List.flatMap_cons, enc_b1 xs]; rfl
def CT : Codec Ty where
  byt := bytT
  byt_ok := by
    intro E xs bs h
    unfold bytT at h
    split at h
    · injection h with h; subst h; exact enc_b1 _
    · cases h
  byt_sz := by
    intro E xs bs h
    unfold bytT at h
    split at h
    · rfl
    · cases h
  enc := encT
  dec := decT
  sz := szT
  code := codeT
  len := by intro E x; unfold encT; split <;> first | rfl | exact List.length_replicate
  pos := by intro E; unfold szT; split <;> decide
  shut := by
    intro E x v hv
    have key : ∀ l : List X, (l.all XV.closed) = true → v ∈ l → v.closed = true := fun l h1 h2 => List.all_eq_true.1 h1 v h2
    unfold encT at hv
    split at hv
    all_goals first | (rw [List.eq_of_mem_replicate hv]; rfl) | exact key _ rfl hv
  back := back_T
def b8 (n : Int) : Option UInt8 := (g8 (.int .u8 n)).bind fun a0 => some a0
theorem mixedP : Try.prog.follows .mixedOrders = true := by kernel_rfl
def ok_Ii64 (x : Int) : Prop := InK .i64 x
def ok_UInt8 (x : UInt8) : Prop := True
def ok_ListUInt8 (x : List UInt8) : Prop := x.length ≤ 140737488355328
def ok_Iu8 (x : Int) : Prop := InK .u8 x
def ok_LUInt8 (x : List (UInt8)) : Prop := OkL 1 ok_UInt8 x
def ok_LIi64 (x : List (Int)) : Prop := OkL 8 ok_Ii64 x
def ok_DConfig (x : DConfig) : Prop := ok_LIi64 x.voters ∧ ok_LIi64 x.old ∧ ok_LIi64 x.learners ∧ ok_LIi64 x.want ∧ True
def ok_DEntry (x : DEntry) : Prop := ok_Ii64 x.term_ ∧ ok_Iu8 x.kind ∧ ok_LUInt8 x.command ∧ ok_DConfig x.config ∧ True
def ok_LDEntry (x : List (DEntry)) : Prop := OkL 129 ok_DEntry x
def ok_DBase (x : DBase) : Prop := ok_Ii64 x.index ∧ ok_Ii64 x.term_ ∧ ok_DConfig x.config ∧ True
def ok_DAct (x : DAct) : Prop := ok_Ii64 x.kind ∧ ok_Ii64 x.index ∧ ok_LDEntry x.entries ∧ ok_DBase x.base ∧ True
theorem fit_0 : ∀ ds, FitsAll [.i .i64] ds → (∀ d ∈ ds, Small d) → ∃ x : Ty 0, DXs CT (CT.enc 0 x) ds ∧ ok_Ii64 x := by
  intro ds h hs
  obtain ⟨d0, ds0, rfl, f0, h⟩ := fitsAll_cons h
  obtain rfl := fitsAll_nil h
  obtain ⟨a0, rfl, k0⟩ := fits_i f0
  exact ⟨a0, .int _ _ (.none), k0⟩
theorem fit_1 : ∀ ds, FitsAll [.i .u8] ds → (∀ d ∈ ds, Small d) → ∃ x : Ty 1, DXs CT (CT.enc 1 x) ds ∧ ok_UInt8 x := by
  intro ds h hs
  obtain ⟨d0, ds0, rfl, f0, h⟩ := fitsAll_cons h
  obtain rfl := fitsAll_nil h
  obtain ⟨a0, rfl⟩ := fits_byte f0
  exact ⟨a0, .int _ _ (.none), trivial⟩
theorem fit_2 : ∀ ds, FitsAll [.s] ds → (∀ d ∈ ds, Small d) → ∃ x : Ty 2, DXs CT (CT.enc 2 x) ds ∧ ok_ListUInt8 x := by
  intro ds h hs
  obtain ⟨d0, ds0, rfl, f0, h⟩ := fitsAll_cons h
  obtain rfl := fitsAll_nil h
  obtain ⟨a0, rfl, k0⟩ := fits_s f0
  exact ⟨a0, .str _ (.none), k0⟩
theorem fit_3 : ∀ ds, FitsAll [.i .u8] ds → (∀ d ∈ ds, Small d) → ∃ x : Ty 3, DXs CT (CT.enc 3 x) ds ∧ ok_Iu8 x := by
  intro ds h hs
  obtain ⟨d0, ds0, rfl, f0, h⟩ := fitsAll_cons h
  obtain rfl := fitsAll_nil h
  obtain ⟨a0, rfl, k0⟩ := fits_i f0
  exact ⟨a0, .int _ _ (.none), k0⟩
theorem fit_4 : ∀ ds, FitsAll [.l [.i .u8]] ds → (∀ d ∈ ds, Small d) → ∃ x : Ty 4, DXs CT (CT.enc 4 x) ds ∧ ok_LUInt8 x := by
  intro ds h hs
  obtain ⟨d0, ds0, rfl, f0, h⟩ := fitsAll_cons h
  obtain rfl := fitsAll_nil h
  obtain ⟨a0, es0, rfl, q0, k0⟩ := fits_sl fit_1 rfl f0 (hs _ (by simp))
  exact ⟨a0, .sl _ _ _ q0 (.none), k0⟩
theorem fit_5 : ∀ ds, FitsAll [.l [.i .i64]] ds → (∀ d ∈ ds, Small d) → ∃ x : Ty 5, DXs CT (CT.enc 5 x) ds ∧ ok_LIi64 x := by
  intro ds h hs
  obtain ⟨d0, ds0, rfl, f0, h⟩ := fitsAll_cons h
  obtain rfl := fitsAll_nil h
  obtain ⟨a0, es0, rfl, q0, k0⟩ := fits_sl fit_0 rfl f0 (hs _ (by simp))
  exact ⟨a0, .sl _ _ _ q0 (.none), k0⟩
theorem fit_6 : ∀ ds, FitsAll [.l [.i .i64], .l [.i .i64], .l [.i .i64], .l [.i .i64]] ds → (∀ d ∈ ds, Small d) → ∃ x : Ty 6, DXs CT (CT.enc 6 x) ds ∧ ok_DConfig x := by
  intro ds h hs
  obtain ⟨d0, ds0, rfl, f0, h⟩ := fitsAll_cons h
  obtain ⟨d1, ds1, rfl, f1, h⟩ := fitsAll_cons h
  obtain ⟨d2, ds2, rfl, f2, h⟩ := fitsAll_cons h
  obtain ⟨d3, ds3, rfl, f3, h⟩ := fitsAll_cons h
  obtain rfl := fitsAll_nil h
  obtain ⟨a0, es0, rfl, q0, k0⟩ := fits_sl fit_0 rfl f0 (hs _ (by simp))
  obtain ⟨a1, es1, rfl, q1, k1⟩ := fits_sl fit_0 rfl f1 (hs _ (by simp))
  obtain ⟨a2, es2, rfl, q2, k2⟩ := fits_sl fit_0 rfl f2 (hs _ (by simp))
  obtain ⟨a3, es3, rfl, q3, k3⟩ := fits_sl fit_0 rfl f3 (hs _ (by simp))
  exact ⟨⟨a0, a1, a2, a3⟩, .sl _ _ _ q0 (.sl _ _ _ q1 (.sl _ _ _ q2 (.sl _ _ _ q3 (.none)))), ⟨k0, k1, k2, k3, trivial⟩⟩
theorem fit_7 : ∀ ds, FitsAll [.i .i64, .i .u8, .l [.i .u8], .l [.i .i64], .l [.i .i64], .l [.i .i64], .l [.i .i64]] ds → (∀ d ∈ ds, Small d) → ∃ x : Ty 7, DXs CT (CT.enc 7 x) ds ∧ ok_DEntry x := by
  intro ds h hs
  obtain ⟨d0, ds0, rfl, f0, h⟩ := fitsAll_cons h
  obtain ⟨d1, ds1, rfl, f1, h⟩ := fitsAll_cons h
  obtain ⟨d2, ds2, rfl, f2, h⟩ := fitsAll_cons h
  obtain ⟨d3, ds3, rfl, f3, h⟩ := fitsAll_cons h
  obtain ⟨d4, ds4, rfl, f4, h⟩ := fitsAll_cons h
  obtain ⟨d5, ds5, rfl, f5, h⟩ := fitsAll_cons h
  obtain ⟨d6, ds6, rfl, f6, h⟩ := fitsAll_cons h
  obtain rfl := fitsAll_nil h
  obtain ⟨a0, rfl, k0⟩ := fits_i f0
  obtain ⟨a1, rfl, k1⟩ := fits_i f1
  obtain ⟨a2, es2, rfl, q2, k2⟩ := fits_sl fit_1 rfl f2 (hs _ (by simp))
  obtain ⟨a3, es3, rfl, q3, k3⟩ := fits_sl fit_0 rfl f3 (hs _ (by simp))
  obtain ⟨a4, es4, rfl, q4, k4⟩ := fits_sl fit_0 rfl f4 (hs _ (by simp))
  obtain ⟨a5, es5, rfl, q5, k5⟩ := fits_sl fit_0 rfl f5 (hs _ (by simp))
  obtain ⟨a6, es6, rfl, q6, k6⟩ := fits_sl fit_0 rfl f6 (hs _ (by simp))
  exact ⟨⟨a0, a1, a2, ⟨a3, a4, a5, a6⟩⟩, .int _ _ (.int _ _ (.sl _ _ _ q2 (.sl _ _ _ q3 (.sl _ _ _ q4 (.sl _ _ _ q5 (.sl _ _ _ q6 (.none))))))), ⟨k0, k1, k2, ⟨k3, k4, k5, k6, trivial⟩, trivial⟩⟩
theorem fit_8 : ∀ ds, FitsAll [.l [.i .i64, .i .u8, .l [.i .u8], .l [.i .i64], .l [.i .i64], .l [.i .i64], .l [.i .i64]]] ds → (∀ d ∈ ds, Small d) → ∃ x : Ty 8, DXs CT (CT.enc 8 x) ds ∧ ok_LDEntry x := by
  intro ds h hs
  obtain ⟨d0, ds0, rfl, f0, h⟩ := fitsAll_cons h
  obtain rfl := fitsAll_nil h
  obtain ⟨a0, es0, rfl, q0, k0⟩ := fits_sl fit_7 rfl f0 (hs _ (by simp))
  exact ⟨a0, .sl _ _ _ q0 (.none), k0⟩
theorem fit_9 : ∀ ds, FitsAll [.i .i64, .i .i64, .l [.i .i64], .l [.i .i64], .l [.i .i64], .l [.i .i64]] ds → (∀ d ∈ ds, Small d) → ∃ x : Ty 9, DXs CT (CT.enc 9 x) ds ∧ ok_DBase x := by
  intro ds h hs
  obtain ⟨d0, ds0, rfl, f0, h⟩ := fitsAll_cons h
  obtain ⟨d1, ds1, rfl, f1, h⟩ := fitsAll_cons h
  obtain ⟨d2, ds2, rfl, f2, h⟩ := fitsAll_cons h
  obtain ⟨d3, ds3, rfl, f3, h⟩ := fitsAll_cons h
  obtain ⟨d4, ds4, rfl, f4, h⟩ := fitsAll_cons h
  obtain ⟨d5, ds5, rfl, f5, h⟩ := fitsAll_cons h
  obtain rfl := fitsAll_nil h
  obtain ⟨a0, rfl, k0⟩ := fits_i f0
  obtain ⟨a1, rfl, k1⟩ := fits_i f1
  obtain ⟨a2, es2, rfl, q2, k2⟩ := fits_sl fit_0 rfl f2 (hs _ (by simp))
  obtain ⟨a3, es3, rfl, q3, k3⟩ := fits_sl fit_0 rfl f3 (hs _ (by simp))
  obtain ⟨a4, es4, rfl, q4, k4⟩ := fits_sl fit_0 rfl f4 (hs _ (by simp))
  obtain ⟨a5, es5, rfl, q5, k5⟩ := fits_sl fit_0 rfl f5 (hs _ (by simp))
  exact ⟨⟨a0, a1, ⟨a2, a3, a4, a5⟩⟩, .int _ _ (.int _ _ (.sl _ _ _ q2 (.sl _ _ _ q3 (.sl _ _ _ q4 (.sl _ _ _ q5 (.none)))))), ⟨k0, k1, ⟨k2, k3, k4, k5, trivial⟩, trivial⟩⟩
theorem fit_10 : ∀ ds, FitsAll [.i .i64, .i .i64, .l [.i .i64, .i .u8, .l [.i .u8], .l [.i .i64], .l [.i .i64], .l [.i .i64], .l [.i .i64]], .i .i64, .i .i64, .l [.i .i64], .l [.i .i64], .l [.i .i64], .l [.i .i64]] ds → (∀ d ∈ ds, Small d) → ∃ x : Ty 10, DXs CT (CT.enc 10 x) ds ∧ ok_DAct x := by
  intro ds h hs
  obtain ⟨d0, ds0, rfl, f0, h⟩ := fitsAll_cons h
  obtain ⟨d1, ds1, rfl, f1, h⟩ := fitsAll_cons h
  obtain ⟨d2, ds2, rfl, f2, h⟩ := fitsAll_cons h
  obtain ⟨d3, ds3, rfl, f3, h⟩ := fitsAll_cons h
  obtain ⟨d4, ds4, rfl, f4, h⟩ := fitsAll_cons h
  obtain ⟨d5, ds5, rfl, f5, h⟩ := fitsAll_cons h
  obtain ⟨d6, ds6, rfl, f6, h⟩ := fitsAll_cons h
  obtain ⟨d7, ds7, rfl, f7, h⟩ := fitsAll_cons h
  obtain ⟨d8, ds8, rfl, f8, h⟩ := fitsAll_cons h
  obtain rfl := fitsAll_nil h
  obtain ⟨a0, rfl, k0⟩ := fits_i f0
  obtain ⟨a1, rfl, k1⟩ := fits_i f1
  obtain ⟨a2, es2, rfl, q2, k2⟩ := fits_sl fit_7 rfl f2 (hs _ (by simp))
  obtain ⟨a3, rfl, k3⟩ := fits_i f3
  obtain ⟨a4, rfl, k4⟩ := fits_i f4
  obtain ⟨a5, es5, rfl, q5, k5⟩ := fits_sl fit_0 rfl f5 (hs _ (by simp))
  obtain ⟨a6, es6, rfl, q6, k6⟩ := fits_sl fit_0 rfl f6 (hs _ (by simp))
  obtain ⟨a7, es7, rfl, q7, k7⟩ := fits_sl fit_0 rfl f7 (hs _ (by simp))
  obtain ⟨a8, es8, rfl, q8, k8⟩ := fits_sl fit_0 rfl f8 (hs _ (by simp))
  exact ⟨⟨a0, a1, a2, ⟨a3, a4, ⟨a5, a6, a7, a8⟩⟩⟩, .int _ _ (.int _ _ (.sl _ _ _ q2 (.int _ _ (.int _ _ (.sl _ _ _ q5 (.sl _ _ _ q6 (.sl _ _ _ q7 (.sl _ _ _ q8 (.none))))))))), ⟨k0, k1, k2, ⟨k3, k4, ⟨k5, k6, k7, k8, trivial⟩, trivial⟩, trivial⟩⟩
end Go.Proofs.Ytlkphbhmfoehpaa
