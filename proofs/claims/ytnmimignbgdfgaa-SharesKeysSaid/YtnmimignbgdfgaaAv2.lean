/- What an operation does to values that bear their cells; that it does so in the model. -/
import Derived.Test.YtnmimignbgdfgaaAv1
namespace Go.Proofs.Ytnmimignbgdfgaa
open Go.RowKit
set_option maxRecDepth 100000
set_option linter.unusedVariables false

/-- Closed questions on types. -/
def sizeA (P : Program) (t : TypeId) : Option Nat := (P.info? t).map (·.size)
def zeroA (P : Program) (t : TypeId) : Option Value := (P.info? t).bind (·.zero)
def aggA (P : Program) (t : TypeId) : Option Bool := (P.underlying t).map fun d => match d with | .struct _ | .array _ _ => true | _ => false
def sliceA (P : Program) (t : TypeId) : Option TypeId := match P.underlying t with | some (.slice e) => some e | _ => none
def structA (P : Program) (t : TypeId) : Option (List (Nat × Option Nat × Option Bool)) := match P.underlying t with
  | some (.struct fs) => some (fs.toList.map fun f => (f.offset, sizeA P f.type, aggA P f.type))
  | _ => none
def callable (P : Program) (f : FuncId) : Bool := match P.funcs[f]? with
  | some fn => fn.body.isSome && fn.name != "runtime.NumGoroutine"
  | none => false

def St.put (σ : St) (b : Nat) (k : Bk) : St := ⟨fun x => if x = b then some k else σ.blk x, fun x => σ.used x ∨ x = b, by
  obtain ⟨n, h⟩ := σ.fin
  refine ⟨n + b + 1, fun x hx => ?_⟩
  obtain ⟨h1, h2⟩ := h x (by omega)
  have hne : x ≠ b := by omega
  exact ⟨fun hu => hu.elim h1 hne, by rw [if_neg hne]; exact h2⟩⟩
def St.set (σ : St) (b : Nat) (k : Bk) : St := ⟨fun x => if x = b then some k else σ.blk x, σ.used, by
  obtain ⟨n, h⟩ := σ.fin
  refine ⟨n + b + 1, fun x hx => ?_⟩
  obtain ⟨h1, h2⟩ := h x (by omega)
  have hne : x ≠ b := by omega
  exact ⟨h1, by rw [if_neg hne]; exact h2⟩⟩
theorem St.ext' {σ τ : St} (h1 : ∀ b, σ.blk b = τ.blk b) (h2 : ∀ b, σ.used b ↔ τ.used b) : σ = τ := by
  obtain ⟨a, b, c⟩ := σ
  obtain ⟨a', b', c'⟩ := τ
  obtain rfl : a = a' := funext h1
  obtain rfl : b = b' := funext fun x => propext (h2 x)
  rfl
def ptr (b : Nat) (o : Nat) : AV := .raw (.pointer (some ⟨b, o, none⟩))

/-- Calling f so. -/
def CallsA (P : Program) (f : FuncId) (args : List AV) (σ : St) (Q : AV → St → Prop) : Prop :=
  callable P f = true ∧ ∀ w Z, HeapOk w σ Z → (∀ a ∈ args, Valid w (σ.free Z) a) →
    Calls P f (args.map AV.val).toArray w fun e w' => ∃ r σ', e = .returned r.val ∧ Q r σ' ∧ HeapOk w' σ' Z ∧ Valid w' (σ'.free Z) r ∧ Grow w σ w' σ'

abbrev Env := Nat → AV
def Env.put (env : Env) (d : Option Nat) (v : AV) : Env := match d with
  | some d => fun i => if i = d then v else env i
  | none => env
def ev (env : Env) : Operand → AV
  | .tmp t => env t
  | .const v => .ofV v
  | .global g => ptr g 0
  | .func f => .raw (.func (.func f) #[] #[])

/-- Pure, of operands without memory: whatever the world, this value. -/
def PureRun (P : Program) (o : Oper) (vs : List AV) (v : Value) : Prop :=
  ∀ ρ : Operand → Value, o.op.operands.toList.map ρ = vs.map AV.val → ∀ w, (execOp ρ o).run P w = .ok (.value v) w
inductive Kd where
  | pure | load | alloc | row | call | store | exec
  deriving DecidableEq
def kindOf (o : Oper) : Kd := match o.op with
  | .move _ | .assign _ | .pick _ _ _ | .build _ _ | .nilCheck _ | .binOp _ _ _ _ _ | .unOp _ _ _ | .convert _ _ _ | .slice _ _ _ _ _ | .fieldAddr _ _ _ | .field _ _ _ | .indexAddr _ _ _ | .index _ _ _ | .extract _ _ | .makeFunc _ _ _ => .pure
  | .load _ _ => .load
  | .alloc _ | .box _ _ => .alloc
  | .buildSlice _ _ _ => .row
  | .call c => match c.callee with
    | .value _ => .call
    | .builtin .len | .builtin .cap | .builtin .min | .builtin .max => .pure
    | _ => .exec
  | .store _ _ _ => .store
  | _ => .exec
def effects (o : Oper) : Bool := match kindOf o with
  | .call | .store | .exec => true
  | _ => false
/-- Any other operation: what it does in the model. -/
def ExecA (P : Program) (o : Oper) (vs : List AV) (σ : St) (K : AV → St → Prop) : Prop :=
  ∀ ρ : Operand → Value, o.op.operands.toList.map ρ = vs.map AV.val → ∀ w Z, HeapOk w σ Z → (∀ v ∈ vs, Valid w (σ.free Z) v) →
    ∃ r σ' w', ((execOp ρ o).run P w = .ok (.value r.val) w' ∨ (execOp ρ o).run P w = .ok .skip w' ∧ r = .raw undef) ∧ K r σ' ∧ HeapOk w' σ' Z ∧ Valid w' (σ'.free Z) r ∧ Grow w σ w' σ'
def notTup : AV → Bool
  | .tup _ => false
  | _ => true
def cellsAt (t : Option Bool) (n : Option Nat) (cells : List AV) (o : Nat) : Option AV := match t, n with
  | some true, some n => if o + n ≤ cells.length then some (.agg ((cells.drop o).take n)) else none
  | some false, some _ => cells[o]?
  | _, _ => none
def aLoad (P : Program) (t : TypeId) (σ : St) : AV → Option AV
  | .raw (.pointer (some ⟨b, o, none⟩)) => match σ.blk b with
    | some (.own _ cs) => cellsAt (aggA P t) (sizeA P t) cs o
    | _ => none
  | .eptr _ cells => cellsAt (aggA P t) (sizeA P t) cells 0
  | _ => none
def splice (cs : List AV) (o : Nat) (xs : List AV) : List AV := cs.take o ++ xs ++ cs.drop (o + xs.length)
def aStoreAt (P : Program) (t : TypeId) (σ : St) (b o : Nat) (x : AV) : Option St := match σ.blk b, sizeA P t with
  | some (.own e cs), some n => if notTup x && x.cells.length == n && x.cells.all AV.one && o + n ≤ cs.length then some (σ.set b (.own e (splice cs o x.cells))) else none
  | _, _ => none
def aStore (P : Program) (t : TypeId) (σ : St) (a x : AV) : Option St := match a with
  | .raw (.pointer (some ⟨b, o, none⟩)) => aStoreAt P t σ b o x
  | _ => none
def aFill (place : Nat → Option (Nat × Nat)) (cells : List AV) : List (Nat × AV) → Option (List AV)
  | [] => some cells
  | (i, v) :: rest => match place i with
    | none => none
    | some (off, size) => if !notTup v || v.cells.length ≠ size || off + v.cells.length > cells.length then none else aFill place (splice cells off v.cells) rest
def placesB (P : Program) (t : TypeId) : Option (List (Nat × Nat)) := match P.underlying t with
  | some (.struct fields) => fields.toList.mapM (fun f => (P.info? f.type).map fun i => (f.offset, i.size))
  | _ => none
def isSome' : AV → Bool
  | .eptr _ _ => true
  | .raw (.pointer (some _)) => true
  | .raw (.func (.func _) _ _) => true
  | _ => false

def sliceEnds (n c : Nat) (lo hi mx : Bool) (ix : List AV) (l h m : Nat) : Prop :=
  match lo, hi, mx, ix with
  | false, false, false, [] => l = 0 ∧ h = n ∧ m = c
  | true, false, false, [x] => (∃ k, x.val = .int k l) ∧ h = n ∧ m = c
  | false, true, false, [y] => l = 0 ∧ (∃ k, y.val = .int k h) ∧ m = c
  | true, true, false, [x, y] => (∃ k, x.val = .int k l) ∧ (∃ k, y.val = .int k h) ∧ m = c
  | false, true, true, [y, z] => l = 0 ∧ (∃ k, y.val = .int k h) ∧ (∃ k, z.val = .int k m)
  | true, true, true, [x, y, z] => (∃ k, x.val = .int k l) ∧ (∃ k, y.val = .int k h) ∧ (∃ k, z.val = .int k m)
  | _, _, _, _ => False
/-- One operation, its operands' values at hand. -/
def aVal (P : Program) (o : Oper) (vs : List AV) (σ : St) (K : AV → St → Prop) : Prop :=
  match o.op, vs with
  | .move _, [x] => K x σ
  | .assign _, [x] => K x σ
  | .pick _ _ _, [c, a, b] => ∃ t, c.val = .bool t ∧ K (if t then a else b) σ
  | .alloc e, [] => ∃ z, zeroA P e = some z ∧ ∀ b, ¬ σ.used b → σ.blk b = none → K (ptr b 0) (σ.put b (.own e (AV.ofV z).cells))
  | .box e _, [x] => ∀ b, ¬ σ.used b → σ.blk b = none → K (ptr b 0) (σ.put b (.own e x.cells))
  | .build t parts, vs => ∃ z pl cells, zeroA P t = some z ∧ placesB P t = some pl ∧ aFill (fun i => pl[i]?) (AV.ofV z).cells ((parts.toList.map (·.1)).zip vs) = some cells ∧ K (.agg cells) σ
  | .buildSlice t n parts, vs => ∃ e sz z cells, sliceA P t = some e ∧ sizeA P e = some sz ∧ zeroA P e = some z ∧ z.cells.size = sz ∧ n * sz ≤ 16777216 ∧
      aFill (fun i => some (i * sz, sz)) ((List.range (n * sz)).map fun i => .ofV (z.cells[i % sz]!)) ((parts.toList.map (·.1)).zip vs) = some cells ∧
      ∀ b, ¬ σ.used b → σ.blk b = none → K (.lst (some ⟨b, 0, none⟩) n n cells) (σ.put b (.tail e (n * sz) (n * sz)))
  | .load t _, [a] => ∃ r, aLoad P t σ a = some r ∧ K r σ
  | .store t _ _, [a, x] => ∃ σ', aStore P t σ a x = some σ' ∧ K (.raw undef) σ'
  | .nilCheck _, [x] => isSome' x = true ∧ K x σ
  | .extract _ i, [.tup l] => ∃ r, l[i]? = some r ∧ K r σ
  | .fieldAddr t _ f, [.eptr ad cells] => ∃ l off n g, structA P t = some l ∧ l[f]? = some (off, some (n + 1), g) ∧ K (.eptr (ad.add off) (cells.drop off)) σ
  | .fieldAddr t _ f, [.raw (.pointer (some ad))] => ∃ l off n g, structA P t = some l ∧ l[f]? = some (off, some (n + 1), g) ∧ K (.raw (.pointer (some (ad.add off)))) σ
  | .field t _ f, [.agg cells] => ∃ l off n g r, structA P t = some l ∧ l[f]? = some (off, n, g) ∧ cellsAt g n cells off = some r ∧ K r σ
  | .indexAddr t _ _, [.lst (some ad) n c cells, i] => ∃ (e : TypeId) (sz : Nat) (k : IntKind) (j : Nat), sliceA P t = some e ∧ sizeA P e = some sz ∧ i.val = .int k j ∧ j < n ∧ K (.eptr (ad.add (j * sz)) (cells.drop (j * sz))) σ
  | .slice t _ lo hi mx, x :: ix => match x with
    | .lst A n c cells => ∃ e sz, sliceA P t = some e ∧ sizeA P e = some sz ∧ ∃ l h m, sliceEnds n c lo.isSome hi.isSome mx.isSome ix l h m ∧ l ≤ h ∧ h ≤ m ∧ m ≤ c ∧
        K (.lst (if m = l then A else A.map (·.add (l * sz))) (h - l) (m - l) (if m = l then [] else cells.drop (l * sz))) σ
    | _ => ∃ v, PureRun P o vs v ∧ K (.raw v) σ
  | .call c, vs => match c.callee, vs with
    | .value _, f :: args => ∃ g first cap, f.val = .func (.func g) first cap ∧ CallsA P g (first.toList.map .raw ++ args ++ cap.toList.map .raw) σ K
    | _, _ => (∃ v, PureRun P o vs v ∧ K (.raw v) σ) ∨ (kindOf o = .exec ∧ ExecA P o vs σ K)
  | _, _ => (∃ v, PureRun P o vs v ∧ K (.raw v) σ) ∨ (kindOf o = .exec ∧ ExecA P o vs σ K)
end Go.Proofs.Ytnmimignbgdfgaa
