/- Operations over typed values: memory. -/
import Derived.Test.YtlmmpfbdgiokmaaGreatX4
namespace Go.Proofs.YtlmmpfbdgiokmaaGreat
open Go.RowKit
set_option linter.unusedSimpArgs false
set_option maxRecDepth 100000
set_option linter.unusedVariables false
variable {T : Nat → Type} {A : Type}
def hforce {α : Type} : List (HI T) → (List (HI T) → α) → α
  | [], k => k []
  | .obj t cs :: l, k => hforce l fun l => k (.obj t cs :: l)
  | .row e sz :: l, k => hforce l fun l => k (.row e sz :: l)
  | .arr e E kp xs :: l, k => hforce l fun l => k (.arr e E kp xs :: l)
  | .mmap K V es :: l, k => hforce l fun l => k (.mmap K V es :: l)
  | .gen E x :: l, k => hforce l fun l => k (.gen E x :: l)
  | .dead :: l, k => hforce l fun l => k (.dead :: l)
@[simp] theorem hforce_eq {α : Type} (l : List (HI T)) (k : List (HI T) → α) : hforce l k = k l := by
  induction l generalizing k with
  | nil => rfl
  | cons v l ih => cases v <;> simp [hforce, ih]
def getI {α : Type} (xs : List α) (n : Int) : Option α := if 0 ≤ n then xs[n.toNat]? else none
def xcellsAt (t : Option Bool) (n : Option Nat) (cells : List (XV T)) (o : Nat) (k : XV T → Option A) : Option A := match t, n with
  | some true, some n => if o + n ≤ cells.length then forceL ((cells.drop o).take n) fun l => k (.agg l) else none
  | some false, some _ => match cells[o]? with
    | some v => v.force k
    | none => none
  | _, _ => none
def xsplice (cs : List (XV T)) (o : Nat) (xs : List (XV T)) : List (XV T) := cs.take o ++ xs ++ cs.drop (o + xs.length)
def xFill (place : Nat → Option (Nat × Nat)) (cells : List (XV T)) : List (Nat × XV T) → Option (List (XV T))
  | [] => some cells
  | (i, v) :: rest => match place i with
    | none => none
    | some (off, size) => if v.isVal = true ∧ v.cells.length = size ∧ off + v.cells.length ≤ cells.length then forceL (xsplice cells off v.cells) fun cells => xFill place cells rest else none
def decs (C : Codec T) (E : Nat) : Nat → List (XV T) → (List (T E) → Option A) → Option A
  | 0, [], k => k []
  | 0, _ :: _, _ => none
  | n + 1, l, k => (C.dec E (l.take (C.sz E))).bind fun x => decs C E n (l.drop (C.sz E)) fun xs => k (x :: xs)
def xends (n : Int) : Bool → Bool → List (XV T) → Option (Int × Int)
  | false, false, [] => some (0, n)
  | true, false, [.int _ a] => some (a, n)
  | false, true, [.int _ b] => some (0, b)
  | true, true, [.int _ a, .int _ b] => some (a, b)
  | _, _, _ => none
def xslice (C : Codec T) (P : Program) (t : TypeId) (lo hi : Bool) (x : XV T) (ix : List (XV T)) (k : XV T → Option A) : Option A := match x with
  | .sl E xs _ => match sliceA P t with
    | some e => match sizeA P e with
      | some sz => if Nat.beq sz (C.sz E) = true then match xends (T := T) xs.length lo hi ix with
        | some (l, u) => if 0 ≤ l ∧ l ≤ u ∧ u ≤ xs.length then k (.sl E ((xs.drop l.toNat).take (u.toNat - l.toNat)) none) else none
        | none => none
        else none
      | none => none
    | none => none
  | .slx E xs ys => match sliceA P t with
    | some e => match sizeA P e with
      | some sz => if Nat.beq sz (C.sz E) = true then match xends (T := T) xs.length lo hi ix with
        | some (l, u) => if 0 ≤ l ∧ l ≤ u ∧ u ≤ (xs ++ ys).length then k (.sl E (((xs ++ ys).drop l.toNat).take (u.toNat - l.toNat)) none) else none
        | none => none
        else none
      | none => none
    | none => none
  | _ => none
def xends3 : Bool → List (XV T) → Option (Int × Int × Int)
  | false, [.int _ b, .int _ m] => some (0, b, m)
  | true, [.int _ a, .int _ b, .int _ m] => some (a, b, m)
  | _, _ => none
def xslice3 (C : Codec T) (P : Program) (t : TypeId) (lo : Bool) (x : XV T) (ix : List (XV T)) (k : XV T → Option A) : Option A := match x with
  | .sl E xs _ => match sliceA P t with
    | some e => match sizeA P e with
      | some sz => if Nat.beq sz (C.sz E) = true then match xends3 (T := T) lo ix with
        | some (l, u, m) => if 0 ≤ l ∧ l ≤ u ∧ u ≤ m ∧ m ≤ xs.length then k (.sl E ((xs.drop l.toNat).take (u.toNat - l.toNat)) none) else none
        | none => none
        else none
      | none => none
    | none => none
  | _ => none
/-- Part of an array. -/
def xslA (C : Codec T) (P : Program) (t : TypeId) (lo hi : Bool) (x : XV T) (ix : List (XV T)) (k : XV T → Option A) : Option A := match x with
  | .as E i a n co => match sliceA P t with
    | some e => match sizeA P e with
      | some sz => if Nat.beq sz (C.sz E) = true then match xends (T := T) n lo hi ix with
        | some (l, u) => if 0 ≤ l ∧ l ≤ u ∧ u ≤ ((co.getD n : Nat) : Int) ∧ u ≤ 140737488355328 then k (.as E i (a + l.toNat) (u.toNat - l.toNat) (co.map (· - l.toNat))) else none
        | none => none
        else none
      | none => none
    | none => none
  | _ => none
/-- Whether a part of an array, with a bound, may be taken. -/
def xslA3 (C : Codec T) (P : Program) (t : TypeId) (lo : Bool) (E n : Nat) (co : Option Nat) (ix : List (XV T)) (k : XV T → Option A) : Option A := match sliceA P t with
  | some e => match sizeA P e with
    | some sz => if Nat.beq sz (C.sz E) = true then match xends3 (T := T) lo ix with
      | some (l, u, m) => if 0 ≤ l ∧ l ≤ u ∧ u ≤ m ∧ m ≤ ((co.getD n : Nat) : Int) then k .junk else none
      | none => none
      else none
    | none => none
  | none => none
/-- Objects' places. -/
def ptr0s : List (XV T) → Option (List Nat)
  | [] => some []
  | .ptr i 0 :: l => (ptr0s l).bind fun ps => some (i :: ps)
  | _ :: _ => none
def xappend (C : Codec T) (P : Program) (t : TypeId) (x y : XV T) (h : List (HI T)) (k : XV T → List (HI T) → Option A) : Option A := match sliceA P t with
  | none => none
  | some e => match sizeA P e, zeroA P e, bytesA P e with
    | some sz, some z, some by_ => if Nat.beq z.cells.size sz = true then match x, y with
      | .nil, .sl E ys _ => if Nat.beq sz (C.sz E) = true then
          if ys.length ≤ 140737488355328 ∧ ys.length * by_ ≤ 140737488355328 then hforce (h ++ [.row e sz]) fun h' => k (.sl E ys (some h.length)) h' else none
        else none
      | .sl E xs (some r), .sl E' ys _ => if he : E' = E then match h[r]? with
          | some (.row e' sz') => if Nat.beq e' e = true ∧ Nat.beq sz' sz = true ∧ Nat.beq sz (C.sz E) = true then
              if xs.length + ys.length ≤ 140737488355328 ∧ (xs.length + ys.length) * by_ ≤ 140737488355328 then hforce (h.set r .dead ++ [.row e sz]) fun h' => k (.sl E (xs ++ he ▸ ys) (some h.length)) h' else none
            else none
          | _ => none
        else none
      | _, _ => none
      else none
    | _, _, _ => none
/-- The elements that may be read there. -/
def xsrc (C : Codec T) (E : Nat) (h : List (HI T)) (v : XV T) (k : List (T E) → Option A) : Option A := match v with
  | .nil => k []
  | .sl E' ys _ => if hE : E' = E then k (hE ▸ ys) else none
  | .as E' j lo m _ => match h[j]? with
    | some (.arr _ E2 _ xs) => if hE : E2 = E then if Nat.beq E' E = true then if lo + m ≤ xs.length then k (((hE ▸ xs : List (T E)).drop lo).take m) else none else none else none
    | _ => none
  | _ => none
/-- An element of zeros. -/
def xzero (C : Codec T) (E sz : Nat) (z : Value) (k : T E → Option A) : Option A := (C.dec E ((List.range sz).map fun i => .ofV (z.cells[i % sz]!))).bind k
/-- Behind what was written, an array all of which is elements has such. -/
def fullOk (C : Codec T) (E sz : Nat) (z : Value) : Bool := !C.full E || (C.dec E ((List.range sz).map fun i => .ofV (z.cells[i % sz]!))).isSome
def xapA (C : Codec T) (P : Program) (t : TypeId) (x y : XV T) (h : List (HI T)) (k : XV T → List (HI T) → Option A) : Option A := match sliceA P t with
  | none => none
  | some e => match sizeA P e, zeroA P e, bytesA P e with
    | some sz, some z, some by_ => if Nat.beq z.cells.size sz = true then match x with
      | .as E i lo n co => match h[i]? with
        | some (.arr e' E' kp xs) => if (Nat.beq E E' && Nat.beq e' e && Nat.beq sz (C.sz E') && fullOk C E' sz z) = true then xsrc C E' h y fun ys =>
            if n + ys.length ≤ 140737488355328 ∧ (n + ys.length) * by_ ≤ 140737488355328 ∧ lo + n ≤ xs.length then match co with
              | some c => if n + ys.length ≤ c then hforce (h.set i (.arr e' E' kp (xs.take (lo + n) ++ ys ++ xs.drop (lo + n + ys.length)))) fun h' => k (.as E' i lo (n + ys.length) (some c)) h'
                else hforce (h ++ [.arr e' E' kp ((xs.drop lo).take n ++ ys)]) fun h' => k (.as E' h.length 0 (n + ys.length) none) h'
              | none => if Nat.beq lo 0 = true then hforce (h.set i .dead ++ [.arr e' E' kp (xs.take n ++ ys)]) fun h' => k (.as E' h.length 0 (n + ys.length) none) h' else none
            else none
          else none
        | _ => none
      | .nil => match y with
        | .sl E ys _ => if (Nat.beq sz (C.sz E) && fullOk C E sz z) = true then
            if ys.length ≤ 140737488355328 ∧ ys.length * by_ ≤ 140737488355328 then hforce (h ++ [.arr e E false ys]) fun h' => k (.as E h.length 0 ys.length none) h' else none
          else none
        | _ => none
      | _ => none
      else none
    | _, _, _ => none
def arrMode (C : Codec T) : XV T → XV T → Bool
  | .as _ _ _ _ _, _ => true
  | .nil, .sl E _ _ => C.arrm E
  | _, _ => false
/-- Zeros behind, with no room for them: what was there is at the head of a new array. -/
def xapZ (C : Codec T) (P : Program) (t tn : TypeId) (x y : XV T) (h : List (HI T)) (k : XV T → List (HI T) → Option A) : Option A := match sliceA P t, P.underlying tn with
  | some e, some (.int _) => match sizeA P e, zeroA P e, bytesA P e with
    | some sz, some z, some by_ => if Nat.beq z.cells.size sz = true then match x, y with
      | .as E i lo n (some c), .int _ m => match h[i]? with
        | some (.arr e' E' kp xs) => if (Nat.beq E E' && Nat.beq e' e && Nat.beq sz (C.sz E') && fullOk C E' sz z) = true then
            if (c : Int) < n + m ∧ (n : Int) ≤ c ∧ (n : Int) + m ≤ 140737488355328 ∧ ((n : Int) + m) * by_ ≤ 140737488355328 ∧ lo + n ≤ xs.length then
              hforce (h ++ [.arr e' E' kp ((xs.drop lo).take n)]) fun h' => k (.as E' h.length 0 (n + m.toNat) none) h'
            else none
          else none
        | _ => none
      | _, _ => none
      else none
    | _, _, _ => none
  | _, _ => none
def xcopy (C : Codec T) (P : Program) (t : TypeId) (x y : XV T) (h : List (HI T)) (k : XV T → List (HI T) → Option A) : Option A := match sliceA P t with
  | none => none
  | some e => match sizeA P e with
    | some sz => match x with
      | .as E i lo n _ => match h[i]? with
        | some (.arr e' E' kp xs) => if (Nat.beq E E' && Nat.beq e' e && Nat.beq sz (C.sz E')) = true then xsrc C E' h y fun ys =>
            if lo ≤ xs.length then hforce (h.set i (.arr e' E' kp (xs.take lo ++ ys.take n ++ xs.drop (lo + min ys.length n)))) fun h' => k (.int .i64 ((min ys.length n : Nat) : Int)) h' else none
          else none
        | _ => none
      | _ => none
    | none => none
def xclear (C : Codec T) (P : Program) (t : TypeId) (x : XV T) (h : List (HI T)) (k : XV T → List (HI T) → Option A) : Option A := match sliceA P t with
  | none => none
  | some e => match sizeA P e, zeroA P e with
    | some sz, some z => if Nat.beq z.cells.size sz = true then match x with
      | .as E i lo n _ => match h[i]? with
        | some (.arr e' E' kp xs) => if (Nat.beq E E' && Nat.beq e' e && Nat.beq sz (C.sz E')) = true then xzero C E' sz z fun zt =>
            if lo ≤ xs.length then hforce (h.set i (.arr e' E' kp (xs.take lo ++ List.replicate n zt ++ xs.drop (lo + n)))) fun h' => k .junk h' else none
          else none
        | _ => none
      | _ => none
      else none
    | _, _ => none
def xmake (C : Codec T) (P : Program) (t : TypeId) (x y : XV T) (h : List (HI T)) (k : XV T → List (HI T) → Option A) : Option A := match sliceA P t with
  | none => none
  | some e => match sizeA P e, zeroA P e, bytesA P e, C.code e with
    | some sz, some z, some by_, some E => if (Nat.beq z.cells.size sz && Nat.beq sz (C.sz E)) = true then match x, y with
      | .int _ l, .int _ c => if 0 ≤ l ∧ l ≤ c ∧ c ≤ 140737488355328 ∧ (by_ : Int) * c ≤ 140737488355328 then xzero C E sz z fun zt =>
          hforce (h ++ [.arr e E true (List.replicate c.toNat zt)]) fun h' => k (.as E h.length 0 l.toNat (some c.toNat)) h' else none
      | _, _ => none
      else none
    | _, _, _, _ => none
/-- A map's key, if it is a number, and its elements. -/
def mapA (P : Program) (t : TypeId) : Option (IntKind × TypeId) := match P.underlying t with
  | some (.map kt et) => match P.underlying kt with
    | some (.int k) => some (k, et)
    | _ => none
  | _ => none
def lkp {α : Type} : List (Int × α) → Int → Option α
  | [], _ => none
  | p :: l, n => bif decide (n = p.1) then some p.2 else lkp l n
def xlookup (P : Program) (t : TypeId) (comma : Bool) (E : Nat) (kk : IntKind) (tb : List (Int × List (T E))) (k' : IntKind) (n : Int) (h : List (HI T)) (k : XV T → List (HI T) → Option A) : Option A := match mapA P t with
  | some (kd, et) => match zeroA P et with
    | some (.slice none 0 0) => if kd = kk ∧ kk = k' then match comma with
        | true => k (.tup [.sl E ((lkp tb n).getD []) none, .bool (lkp tb n).isSome]) h
        | false => k (.sl E ((lkp tb n).getD []) none) h
      else none
    | _ => none
  | none => none
/-- A type of keys or values that maps of ours may have. -/
def mkindA (P : Program) (t : TypeId) : Option MK := match P.underlying t with
  | some .string => some .str
  | some (.int k) => some (.int k)
  | some (.struct fs) => match fs.toList, kindsA P 8 t with
    | [f, g], some [.i k, .i j] => match P.underlying f.type, P.underlying g.type with
      | some (.int k'), some (.int j') => if k' = k ∧ j' = j ∧ f.name ≠ "_" ∧ g.name ≠ "_" ∧ f.offset = 0 ∧ g.offset = 1 then some (.two k j) else none
      | _, _ => none
    | _, _ => none
  | _ => none
def MK.zOk : MK → Option Value → Bool
  | .str, some (.string s) => Nat.beq s.data.toList.length 0
  | .int k, some (.int k' n) => decide (k = k') && decide (n = 0)
  | _, _ => false
def mapKV (P : Program) (t : TypeId) : Option (MK × MK) := match P.underlying t with
  | some (.map kt et) => match mkindA P kt, mkindA P et with
    | some K, some V => bif V.zOk (zeroA P et) then some (K, V) else none
    | _, _ => none
  | _ => none
def mget (K : MK) {α : Type} : List (K.ty × α) → K.ty → Option α
  | [], _ => none
  | p :: l, x => bif K.eqb x p.1 then some p.2 else mget K l x
def mput (K : MK) {α : Type} : List (K.ty × α) → K.ty → α → List (K.ty × α)
  | [], x, v => [(x, v)]
  | p :: l, x, v => bif K.eqb x p.1 then (x, v) :: l else p :: mput K l x v
def xmput (P : Program) (t : TypeId) (i : Nat) (x v : XV T) (h : List (HI T)) (k : XV T → List (HI T) → Option A) : Option A := match h[i]? with
  | some (.mmap K V es) => match mapKV P t with
    | some (K', V') => if K' = K ∧ V' = V then (K.of x).bind fun a => (V.of v).bind fun b => hforce (h.set i (.mmap K V (mput K es a b))) fun h' => k .junk h' else none
    | none => none
  | _ => none
def xmget (P : Program) (t : TypeId) (comma : Bool) (i : Nat) (x : XV T) (h : List (HI T)) (k : XV T → List (HI T) → Option A) : Option A := match h[i]? with
  | some (.mmap K V es) => match mapKV P t with
    | some (K', V') => if K' = K ∧ V' = V then (K.of x).bind fun a => match comma with
        | true => (V.xv ((mget K es a).getD V.zero)).force fun r => k (.tup [r, .bool (mget K es a).isSome]) h
        | false => (V.xv ((mget K es a).getD V.zero)).force fun r => k r h
      else none
    | none => none
  | _ => none
def xmlen (P : Program) (c : Call) (i : Nat) (h : List (HI T)) (k : XV T → List (HI T) → Option A) : Option A := match c.callee, c.argTypes[0]? with
  | .builtin .len, some t => match P.underlying t, h[i]? with
    | some (.map _ _), some (.mmap K V es) => k (.int .i64 es.length) h
    | _, _ => none
  | _, _ => none
def arrayA (P : Program) (t : TypeId) : Option (Nat × TypeId) := match P.underlying t with
  | some (.array n e) => some (n, e)
  | _ => none
/-- A place of an array, one by one. -/
def xplace (n : Int) (i o sz : Nat) (h : List (HI T)) (k : XV T → List (HI T) → Option A) : Nat → Nat → Option A
  | 0, _ => none
  | r + 1, j => if n = (j : Int) then k (.ptr i (o + j * sz)) h else xplace n i o sz h k r (j + 1)
/-- An oracle: what calls do; what operations of its own do. -/
structure Orc (T : Nat → Type) (A : Type) where
  call : FuncId → List (XV T) → List (HI T) → (XV T → List (HI T) → Option A) → Option A
  on : Op → List (XV T) → Bool
  op : Op → List (XV T) → List (HI T) → (XV T → List (HI T) → Option A) → Option A
/-- Which numbers a call may change. -/
abbrev Tou (T : Nat → Type) := FuncId → List (XV T) → List (HI T) → List Nat
def gvs : List (XV T) → List Nat
  | [] => []
  | .gv i _ _ :: l => i :: gvs l
  | _ :: l => gvs l
def xtouch (tou : Tou T) (o : Op) (vs : List (XV T)) (h : List (HI T)) : List Nat := match o, vs with
  | .store _ _ _, .ptr i _ :: _ => [i]
  | .store _ _ _, .ap _ i _ _ :: _ => [i]
  | .mapUpdate _ _ _ _, .mo i :: _ => [i]
  | .call c, vs => match c.callee, vs with
    | .value _, .fn f :: args => tou f args h
    | .value _, .clo f ps :: args => tou f (args ++ ps.map fun i => .ptr i 0) h
    | .builtin .append, .sl _ _ (some r) :: _ => [r]
    | .builtin .append, .as _ i _ _ _ :: _ => [i]
    | .builtin .copy, .as _ i _ _ _ :: _ => [i]
    | .builtin .clear, .as _ i _ _ _ :: _ => [i]
    | _, vs => gvs vs
  | _, vs => gvs vs
structure Orc.Ok (C : Codec T) (P : Program) (tou : Tou T) (orc : Orc T A) : Prop where
  call : ∀ f args h k z, orc.call f args h k = some z → ∃ r h', k r h' = some z ∧ Tr C P (· ∈ tou f args h) f args h r h'
  op : ∀ o vs h k z, orc.on o vs = true → orc.op o vs h k = some z → ∃ r h', k r h' = some z ∧ ∀ d ty pos af g, OpTr C P (· ∈ xtouch tou o vs h) ⟨d, o, ty, pos, af, g⟩ vs h r h'
/-- Without its spare. -/
def XV.wk : XV T → XV T
  | .slx E xs _ => .sl E xs none
  | v => v
def isBuiltin (c : Call) : Bool := match c.callee with
  | .builtin _ => true
  | _ => false
def xcall (C : Codec T) (P : Program) (orc : Orc T A) (c : Call) (vs : List (XV T)) (h : List (HI T)) (k : XV T → List (HI T) → Option A) : Option A := match c.callee, vs with
  | .value _, .fn f :: args => orc.call f args h k
  | .value _, .clo f ps :: args => forceL (args ++ ps.map fun i => .ptr i 0) fun args => orc.call f args h k
  | .builtin .len, [x] => match x, c.argTypes[0]? with
    | .sl E xs _, some t => match sliceA P t with
      | some _ => k (.int .i64 xs.length) h
      | none => none
    | .nil, some t => match sliceA P t with
      | some _ => k (.int .i64 0) h
      | none => none
    | .str s, some t => match P.underlying t with
      | some .string => k (.int .i64 s.length) h
      | _ => none
    | .as _ _ _ n _, some t => match sliceA P t with
      | some _ => k (.int .i64 n) h
      | none => none
    | .vl l, some t => match sliceA P t with
      | some _ => k (.int .i64 l.length) h
      | none => none
    | _, _ => none
  | .builtin .min, [.int ka a, .int kb b] => k (.int ka (if b < a then b else a)) h
  | .builtin .min, [.str a, .str b] => k (.str (bif (decide (a < b) || decide (a = b)) then a else b)) h
  | .builtin .max, [.str a, .str b] => k (.str (bif !decide (a < b) then a else b)) h
  | .builtin .max, [.int ka a, .int kb b] => k (.int ka (if a < b then b else a)) h
  | .builtin .append, [x, y] => match c.argTypes.toList with
    | [t, t'] => if Nat.beq t t' = true then bif arrMode C x y then xapA C P t x y h k else xappend C P t x y h k else xapZ C P t t' x y h k
    | _ => none
  | .builtin .cap, [.as _ _ _ _ (some n)] => match c.argTypes[0]? with
    | some t => match sliceA P t with
      | some _ => k (.int .i64 (n : Nat)) h
      | none => none
    | none => none
  | .builtin .copy, [x, y] => match c.argTypes.toList with
    | [t, _] => xcopy C P t x y h k
    | _ => none
  | .builtin .clear, [x] => match c.argTypes.toList with
    | [t] => xclear C P t x h k
    | _ => none
  | _, _ => none
def XV.isAs : XV T → Bool
  | .as _ _ _ _ _ => true
  | _ => false
def xop0 (C : Codec T) (P : Program) (orc : Orc T A) (o : Op) (vs : List (XV T)) (h : List (HI T)) (k : XV T → List (HI T) → Option A) : Option A := match o, vs with
  | .move _, [x] => x.force fun x => k x h
  | .assign _, [x] => x.force fun x => k x h
  | .pick _ _ _, [.bool c, a, b] => cond c (a.force fun a => k a h) (b.force fun b => k b h)
  | .alloc e, [] => match zeroA P e with
    | some z => forceL (XV.ofV z).cells fun cs => hforce (h ++ [.obj e cs]) fun h' => k (.ptr h.length 0) h'
    | none => none
  | .box e _, [x] => if x.isVal = true then forceL x.cells fun cs => hforce (h ++ [.obj e cs]) fun h' => k (.ptr h.length 0) h' else none
  | .build t parts, vs => match zeroA P t, placesB P t with
    | some z, some pl => match xFill (fun i => pl[i]?) (XV.ofV z).cells ((parts.toList.map (·.1)).zip vs) with
      | some cells => forceL cells fun cells => k (.agg cells) h
      | none => none
    | _, _ => none
  | .buildSlice t n parts, vs => match sliceA P t with
    | some e => match sizeA P e, zeroA P e, C.code e with
      | some sz, some z, some E => if Nat.beq sz (C.sz E) = true ∧ Nat.beq z.cells.size sz = true ∧ n * sz ≤ 16777216 then
          match xFill (fun i => some (i * sz, sz)) ((List.range (n * sz)).map fun i => .ofV (z.cells[i % sz]!)) ((parts.toList.map (·.1)).zip vs) with
          | some cells => cond (cells.any XV.isAs && Nat.beq sz 1) (forceL cells fun cells => k (.vl cells) h) (decs C E n cells fun xs => hforce (h ++ [.row e sz]) fun h' => k (.sl E xs (some h.length)) h')
          | none => none
        else none
      | some sz, some z, none => if Nat.beq sz 1 = true ∧ Nat.beq z.cells.size sz = true ∧ n * sz ≤ 16777216 then
          match xFill (fun i => some (i * sz, sz)) ((List.range (n * sz)).map fun i => .ofV (z.cells[i % sz]!)) ((parts.toList.map (·.1)).zip vs) with
          | some cells => forceL cells fun cells => k (.vl cells) h
          | none => none
        else none
      | _, _, _ => none
    | none => none
  | .load t _, [.ptr i o] => match h[i]? with
    | some (.obj _ cs) => xcellsAt (aggA P t) (sizeA P t) cs o fun v => k v h
    | _ => none
  | .load t _, [.ce cs] => xcellsAt (aggA P t) (sizeA P t) cs 0 fun v => k v h
  | .load t _, [.el E x o] => xcellsAt (aggA P t) (sizeA P t) ((C.enc E x).drop o) 0 fun v => k v h
  | .store t _ _, [.ptr i o, x] => match h[i]? with
    | some (.obj e cs) => match sizeA P t with
      | some n => if x.isVal = true ∧ Nat.beq x.cells.length n = true ∧ o + n ≤ cs.length then forceL (xsplice cs o x.cells) fun cs' => hforce (h.set i (.obj e cs')) fun h' => k .junk h' else none
      | none => none
    | _ => none
  | .load t _, [.ap E i j o] => match h[i]? with
    | some (.arr _ E' _ xs) => if hE : E' = E ∧ o ≤ C.sz E' then (xs[j]?).bind fun x => xcellsAt (aggA P t) (sizeA P t) ((C.enc E' x).drop o) 0 fun v => k v h else none
    | _ => none
  | .store t _ _, [.ap E i j o, x] => match h[i]? with
    | some (.arr e E' kp xs) => if hE : E' = E then match sizeA P t with
      | some n => bif C.scr E' then if (x.isVal && Nat.beq x.cells.length n && Nat.beq n (C.sz E') && Nat.beq o 0) = true then if j ≤ xs.length then (C.dec E' x.cells).bind fun y' => hforce (h.set i (.arr e E' kp (xs.take j ++ y' :: xs.drop (j + 1)))) fun h' => k .junk h' else none else none else if x.isVal = true ∧ Nat.beq x.cells.length n = true ∧ o + n ≤ C.sz E' then (xs[j]?).bind fun y => (C.dec E' (xsplice (C.enc E' y) o x.cells)).bind fun y' => hforce (h.set i (.arr e E' kp (xs.set j y'))) fun h' => k .junk h' else none
      | none => none
      else none
    | _ => none
  | .makeSlice t _ _, [x, y] => xmake C P t x y h k
  | .makeFunc (.func f) first _, vs => if Nat.beq first.size 0 = true then match ptr0s vs with
    | some [] => k (.fn f) h
    | some (i :: ps) => k (.clo f (i :: ps)) h
    | none => none
    else none
  | .nilCheck _, [x] => match x with
    | .ptr i o => k (.ptr i o) h
    | .ap E i j o => k (.ap E i j o) h
    | .clo f ps => k (.clo f ps) h
    | .el E y o => k (.el E y o) h
    | .ce l => k (.ce l) h
    | .fn f => k (.fn f) h
    | _ => none
  | .extract _ i, [.tup l] => match l[i]? with
    | some r => r.force fun r => k r h
    | none => none
  | .fieldAddr t _ f, [x] => match structA P t with
    | some l => match l[f]? with
      | some (off, some (_ + 1), _) => match x with
        | .ptr i o => k (.ptr i (o + off)) h
        | .el E y o => k (.el E y (o + off)) h
        | .ap E i j o => k (.ap E i j (o + off)) h
        | .ce l => forceL (l.drop off) fun l => k (.ce l) h
        | _ => none
      | _ => none
    | none => none
  | .field t _ f, [.agg cells] => match structA P t with
    | some l => match l[f]? with
      | some (off, n, g) => xcellsAt g n cells off fun v => k v h
      | none => none
    | none => none
  | .indexAddr t _ _, [.sl E xs _, .int _ n] => match sliceA P t with
    | some e => match sizeA P e with
      | some sz => if Nat.beq sz (C.sz E) = true then (getI xs n).bind fun x => k (.el E x 0) h else none
      | none => none
    | none => none
  | .indexAddr t _ _, [.vl l, .int _ n] => match sliceA P t with
    | some e => match sizeA P e with
      | some sz => if Nat.beq sz 1 = true then if 0 ≤ n ∧ n < (l.length : Int) then forceL (l.drop n.toNat) fun l => k (.ce l) h else none else none
      | none => none
    | none => none
  | .indexAddr t _ _, [.slx E xs _, .int _ n] => match sliceA P t with
    | some e => match sizeA P e with
      | some sz => if Nat.beq sz (C.sz E) = true then (getI xs n).bind fun x => k (.el E x 0) h else none
      | none => none
    | none => none
  | .indexAddr t _ _, [.as E i lo m _, .int _ n] => match sliceA P t with
    | some e => match sizeA P e with
      | some sz => if Nat.beq sz (C.sz E) = true then if 0 ≤ n ∧ n < (m : Int) then k (.ap E i (lo + n.toNat) 0) h else none else none
      | none => none
    | none => none
  | .indexAddr t _ _, [.ptr i o, .int _ n] => match arrayA P t with
    | some (len, e) => match sizeA P e with
      | some sz => xplace n i o sz h k len 0
      | none => none
    | none => none
  | .index t _ _, [.str s, .int _ n] => match P.underlying t with
    | some .string => (getI s n).bind fun b => k (.int .u8 (b.toNat : Int)) h
    | _ => none
  | .slice t _ lo hi none, .as E i a n co :: ix => xslA C P t lo.isSome hi.isSome (.as E i a n co) ix fun v => k v h
  | .slice t _ lo hi none, x :: ix => xslice C P t lo.isSome hi.isSome x ix fun v => k v h
  | .slice t _ lo (some _) (some _), .as E i a n co :: ix => xslA3 C P t lo.isSome E n co ix fun v => k v h
  | .slice t _ lo (some _) (some _), x :: ix => xslice3 C P t lo.isSome x ix fun v => k v h
  | .binOp op t _ _ _, [x, y] => xbin P op t x y fun v => k v h
  | .unOp .not _ _, [.bool b] => k (.bool (!b)) h
  | .unOp .neg _ _, [.int kd n] => k (.int kd (kd.wrap (0 - n))) h
  | .convert s d _, [x] => match P.underlying s, P.underlying d, x with
    | some (.int _), some (.int kd), .int _ n => k (.int kd (kd.wrap n)) h
    | some (.slice e), some .string, .sl E xs _ => match P.underlying e with
      | some (.int .u8) => (C.byt E xs).bind fun bs => k (.str bs) h
      | _ => none
    | some (.slice e), some .string, .nil => match P.underlying e with
      | some (.int .u8) => k (.str []) h
      | _ => none
    | _, _, _ => none
  | .lookup t _ _ comma, [.mp E kk tb, .int k' n] => xlookup P t comma E kk tb k' n h k
  | .lookup t _ _ comma, [.mo i, x] => xmget P t comma i x h k
  | .makeMap t none, [] => match mapKV P t with
    | some (K, V) => hforce (h ++ [.mmap K V []]) fun h' => k (.mo h.length) h'
    | none => none
  | .mapUpdate t _ _ _, [.mo i, x, v] => xmput P t i x v h k
  | .call c, vs => cond (isBuiltin c) (xcall C P orc c (vs.map XV.wk) h k) (xcall C P orc c vs h k)
  | _, _ => none
def xop (C : Codec T) (P : Program) (orc : Orc T A) (o : Op) (vs : List (XV T)) (h : List (HI T)) (k : XV T → List (HI T) → Option A) : Option A := cond (orc.on o vs) (orc.op o vs h k) (xop0 C P orc o vs h k)
section
variable {C : Codec T} {N : Nat} {ρ : Nat → AV} {P : Program} {h : List (HI T)} {d : Option Nat} {ty t : TypeId} {pos : String} {af : Array Edge} {g : Option (Nat × Bool)} {z : A}
theorem xcellsAt_sound {tb : Option Bool} {n : Option Nat} {cells : List (XV T)} {o : Nat} {k : XV T → Option A} (hk : xcellsAt tb n cells o k = some z) :
    ∃ r, k r = some z ∧ ∀ N ρ as_ rest, SVs C N ρ cells as_ → ∃ a, cellsAt tb n (as_ ++ rest) o = some a ∧ SV C N ρ r a := by
  unfold xcellsAt at hk
  split at hk
  · split at hk
    · rename_i n hl
      rw [forceL_eq] at hk
      refine ⟨_, hk, fun N ρ as_ rest hs => ?_⟩
      have hlen := hs.len
      refine ⟨.agg ((as_.drop o).take n), ?_, sv_agg.2 ⟨_, rfl, (hs.drop o).take n⟩⟩
      unfold cellsAt
      dsimp only
      rw [if_pos (by rw [List.length_append]; omega), List.drop_append_of_le_length (by omega), List.take_append_of_le_length (by rw [List.length_drop]; omega)]
    · cases hk
  · split at hk
    · rename_i v hv
      rw [force_eq] at hk
      refine ⟨v, hk, fun N ρ as_ rest hs => ?_⟩
      obtain ⟨a, h1, h2⟩ := hs.get hv
      refine ⟨a, ?_, h2⟩
      unfold cellsAt
      dsimp only
      rw [List.getElem?_append_left (lt_of_get h1)]
      exact h1
    · cases hk
  · cases hk
theorem splice_sv {cells xs : List (XV T)} {as_ bs : List AV} (o : Nat) (h1 : SVs C N ρ cells as_) (h2 : SVs C N ρ xs bs) : SVs C N ρ (xsplice cells o xs) (splice as_ o bs) := by
  unfold xsplice splice
  rw [h2.len]
  exact ((h1.take o).app h2).app (h1.drop _)
theorem xFill_sound {place : Nat → Option (Nat × Nat)} : ∀ {parts : List (Nat × XV T)} {cells r : List (XV T)} {as_ bs : List AV}, xFill place cells parts = some r → SVs C N ρ cells as_ → SVs C N ρ (parts.map (·.2)) bs → ∃ rs, aFill place as_ ((parts.map (·.1)).zip bs) = some rs ∧ SVs C N ρ r rs
  | [], cells, r, as_, bs, hr, hc, hp => by
    injection hr with hr
    subst hr
    exact ⟨as_, rfl, hc⟩
  | (i, v) :: rest, cells, r, as_, bs, hr, hc, hp => by
    obtain ⟨b, bs', rfl, h1, h2⟩ := SVs.to hp
    unfold xFill at hr
    split at hr
    · cases hr
    · rename_i off size hpl
      split at hr
      · rename_i hcond
        obtain ⟨hv, hs, hl⟩ := hcond
        rw [forceL_eq] at hr
        have hcs := cells_sv h1 hv
        obtain ⟨rs, g1, g2⟩ := xFill_sound hr (splice_sv off hc hcs) h2
        refine ⟨rs, ?_, g2⟩
        simp only [List.map_cons, List.zip_cons_cons]
        unfold aFill
        rw [hpl]
        dsimp only
        rw [isVal_notTup h1 hv]
        have e1 := hcs.len
        have e2 := hc.len
        have hno : ¬ ((!true || decide (b.cells.length ≠ size) || decide (off + b.cells.length > as_.length)) = true) := by
          rw [e1, e2, hs] at *
          simp only [Bool.not_true, Bool.false_or, Bool.or_eq_true, decide_eq_true_eq, not_or]
          omega
        rw [if_neg hno]
        exact g1
      · cases hr
theorem decs_sound {E : Nat} : ∀ {n : Nat} {l : List (XV T)} {k : List (T E) → Option A}, decs C E n l k = some z → ∃ xs : List (T E), k xs = some z ∧ xs.length = n ∧ l.length = n * C.sz E ∧ ∀ N ρ as_, SVs C N ρ l as_ → SVs C N ρ (xs.flatMap (C.enc E)) as_
  | 0, [], k, hk => ⟨[], hk, rfl, by simp, fun N ρ as_ hs => hs⟩
  | 0, _ :: _, k, hk => by cases hk
  | n + 1, l, k, hk => by
    unfold decs at hk
    cases hd : C.dec E (l.take (C.sz E)) with
    | none => rw [hd] at hk; cases hk
    | some x =>
      rw [hd] at hk
      obtain ⟨xs, h1, h2, h3, h4⟩ := decs_sound (E := E) hk
      have hw := C.back E _ _ hd
      have hwl : ∀ {a b : List (XV T)}, Wks a b → a.length = b.length := fun hab => by
        induction hab with
        | nil => rfl
        | cons _ _ ih => simp [ih]
      have e1 := hwl hw
      rw [C.len, List.length_take] at e1
      rw [List.length_drop] at h3
      refine ⟨x :: xs, h1, by simp [h2], ?_, fun N ρ as_ hs => ?_⟩
      · rw [Nat.succ_mul]; omega
      · rw [List.flatMap_cons, ← List.take_append_drop (C.sz E) as_]
        exact ((Wks.sv hw (hs.take _)).app (h4 N ρ _ (hs.drop _)))
theorem enc_len {E : Nat} (xs : List (T E)) : (xs.flatMap (C.enc E)).length = xs.length * C.sz E := by
  induction xs with
  | nil => simp
  | cons x xs ih => rw [List.flatMap_cons, List.length_append, C.len, ih, List.length_cons, Nat.succ_mul]; omega
theorem enc_drop {E : Nat} (xs : List (T E)) (n : Nat) : (xs.flatMap (C.enc E)).drop (n * C.sz E) = (xs.drop n).flatMap (C.enc E) := by
  induction n generalizing xs with
  | zero => simp
  | succ n ih => cases xs with
    | nil => simp
    | cons x xs =>
      rw [List.flatMap_cons, List.drop_succ_cons, ← ih, Nat.succ_mul, Nat.add_comm, ← List.drop_drop, List.drop_append_of_le_length (by rw [C.len]; omega)]
      have e0 : (C.enc E x).drop (C.sz E) = [] := List.drop_eq_nil_of_le (by rw [C.len]; omega)
      rw [e0, List.nil_append]
theorem enc_take {E : Nat} (xs : List (T E)) (n : Nat) : (xs.flatMap (C.enc E)).take (n * C.sz E) = (xs.take n).flatMap (C.enc E) := by
  induction n generalizing xs with
  | zero => simp
  | succ n ih => cases xs with
    | nil => simp
    | cons x xs =>
      rw [List.flatMap_cons, List.take_succ_cons, List.flatMap_cons, ← ih, Nat.succ_mul, List.take_append, List.take_of_length_le (by rw [C.len]; omega), C.len]
      congr 2
      omega
theorem enc_shut {E : Nat} (xs : List (T E)) : ∀ v ∈ xs.flatMap (C.enc E), v.closed = true := fun v hv => by
  obtain ⟨x, _, hx⟩ := List.mem_flatMap.1 hv
  exact C.shut E x v hx
end
end Go.Proofs.YtlmmpfbdgiokmaaGreat
