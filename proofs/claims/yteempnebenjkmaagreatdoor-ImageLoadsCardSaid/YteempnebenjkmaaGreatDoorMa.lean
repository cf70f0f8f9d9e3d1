/- XX1, XX2, XX3, XX4, XX5, XX6 in one. -/
import Derived.Test.YteempnebenjkmaaGreatDoorBb
import Derived.Laws.Concat
import Derived.Laws.Cover1
namespace Go.Proofs.YteempnebenjkmaaGreatDoor
open Go.RowKit
set_option maxRecDepth 100000
set_option linter.unusedVariables false
inductive XV (T : Nat -> Type) : Type where
 | int (k : IntKind) (n : Int)
 | bool (b : Bool)
 | str (s : List UInt8)
 | sl (E : Nat) (xs : List (T E)) (own : Option Nat)
 | slx (E : Nat) (xs ys : List (T E))
 | nil
 | ptr (i o : Nat)
 | nilptr
 | el (E : Nat) (x : T E) (o : Nat)
 | agg (l : List (XV T))
 | tup (l : List (XV T))
 | fn (f : Nat)
 | as (E i lo n : Nat) (co : Option Nat)
 | ap (E i k o : Nat)
 | clo (f : Nat) (ps : List Nat)
 | mp (E : Nat) (k : IntKind) (tb : List (Int × List (T E)))
 | mo (i : Nat)
 | gv (i c : Nat) (l : List Nat)
 | nmap
 | vl (l : List (XV T))
 | ce (l : List (XV T))
 | undef
 | junk
variable {T : Nat -> Type}
instance : Inhabited (XV T) := ⟨.junk⟩
def XV.closed : XV T -> Bool
 | .int _ _ | .bool _ | .str _ | .nil | .nilptr | .nmap | .fn _ => true
 | .sl _ _ none => true
 | .slx _ _ _ => true
 | _ => false
def XV.one : XV T -> Bool
 | .int _ _ | .bool _ | .str _ | .nil | .nilptr | .fn _ | .sl _ _ _ | .slx _ _ _ | .ptr _ _ | .as _ _ _ _ _ | .clo _ _ | .mo _ | .gv _ _ _ | .nmap => true
 | _ => false
def AV.blkO : AV -> Option Nat
 | .raw (.pointer (some ad)) => some ad.block
 | .lst (some ad) _ _ _ => some ad.block
 | .raw (.map (some b)) => some b
 | _ => none
def AV.owns : AV -> Nat -> Prop
 | .tup l, b => ∃ x ∈ l, x.blkO = some b
 | a, b => a.blkO = some b
inductive Wk : XV T -> XV T -> Prop where
 | same (v : XV T) : Wk v v
 | drop (E : Nat) (xs : List (T E)) (r : Nat) : Wk (.sl E xs (some r)) (.sl E xs none)
 | nil (E : Nat) : Wk .nil (.sl E [] none)
 | spare (E : Nat) (xs ys : List (T E)) : Wk (.slx E xs ys) (.sl E xs none)
 | nilx (E : Nat) : Wk .nil (.slx E [] [])
inductive Wks : List (XV T) -> List (XV T) -> Prop where
 | nil : Wks [] []
 | cons {v u vs us} : Wk v u -> Wks vs us -> Wks (v :: vs) (u :: us)
structure ZaA (T : Nat -> Type) where
 enc : (E : Nat) -> T E -> List (XV T)
 dec : (E : Nat) -> List (XV T) -> Option (T E)
 sz : Nat -> Nat
 code : Nat -> Option Nat
 arrm : Nat -> Bool := fun _ => false
 full : Nat -> Bool := fun _ => false
 scr : Nat -> Bool := fun _ => false
 byt : (E : Nat) -> List (T E) -> Option (List UInt8) := fun _ _ => none
 unb : (E : Nat) -> List UInt8 -> Option (List (T E)) := fun _ _ => none
 len : ∀ E x, (enc E x).length = sz E
 pos : ∀ E, 0 < sz E
 shut : ∀ E x, ∀ v ∈ enc E x, v.closed = true
 back : ∀ E l x, dec E l = some x -> Wks l (enc E x)
 byt_ok : ∀ E xs bs, byt E xs = some bs -> xs.flatMap (enc E) = bs.map (fun b => XV.int .u8 (b.toNat : Int)) := by intro E xs bs h; cases h
 byt_sz : ∀ E xs bs, byt E xs = some bs -> sz E = 1 := by intro E xs bs h; cases h
 unb_ok : ∀ E bs xs, unb E bs = some xs -> xs.flatMap (enc E) = bs.map (fun b => XV.int .u8 (b.toNat : Int)) := by intro E bs xs h; cases h
 unb_len : ∀ E bs xs, unb E bs = some xs -> xs.length = bs.length := by intro E bs xs h; cases h
 gsv : Nat -> List Nat -> AV -> AV -> Prop := fun _ _ _ _ => False
 gsv_one : ∀ c l r a, gsv c l r a -> (∃ v, a = .raw v /\ v.oneCell' = true) \/ ∃ A n c' cs, a = .lst A n c' cs := by intro c l r a h; exact h.elim
 gsv_ptr : ∀ c l r b o, gsv c l r (.raw (.pointer (some ⟨b, o, Option.none⟩))) -> r.owns b := by intro c l r b o h; exact h.elim
 gsh : (E : Nat) -> T E -> St -> AV -> Prop := fun _ _ _ _ => False
 gsh_used : ∀ E x σ a b, gsh E x σ a -> a.owns b -> σ.used b := by intro E x σ a b h; exact h.elim
 gsh_blk : ∀ E x σ a b, gsh E x σ a -> a.owns b -> ∃ k, σ.blk b = some k := by intro E x σ a b h; exact h.elim
 gsh_but : ∀ E x σ τ a S, gsh E x σ a -> But S σ τ -> (∀ b, a.owns b -> ¬ S b) -> gsh E x τ a := by intro E x σ τ a S h; exact h.elim
def Ze6 (N : Nat) (ρ : Nat -> AV) : List Nat -> List Nat -> Prop
 | [], [] => True
 | i :: ps, b :: bs => (i < N /\ ρ i = Go.Proofs.YteempnebenjkmaaGreatDoor.ptr b 0) /\ Ze6 N ρ ps bs
 | _, _ => False
def ZDy (f : Nat) (bs : List Nat) : Value := .func (.func f) #[] (bs.map fun b => Value.pointer (some ⟨b, 0, none⟩)).toArray
def ZgG (b : Nat) : AV := .raw (.map (some b))
def ab (b K : Nat) : AV := .lst (some ⟨b, 0, none⟩) K K []
structure ZA4 (sz N : Nat) (ρ : Nat -> AV) (i lo n : Nat) (co : Option Nat) (ad : Addr) (c : Nat) : Prop where
 lt : i < N
 le : n <= c
 max : c <= maxLen
 len : n <= 140737488355328
 at_ : ∃ b, ρ i = ab b (lo + c) /\ (0 < c -> ad = ⟨b, lo * sz, none⟩)
 cap : ∀ c', co = some c' -> c = c'
inductive SVs (C : ZaA T) (N : Nat) (ρ : Nat -> AV) : List (XV T) -> List AV -> Prop where
 | none : SVs C N ρ [] []
 | int (k : IntKind) (n : Int) {vs as_} : SVs C N ρ vs as_ -> SVs C N ρ (.int k n :: vs) (.raw (.int k n) :: as_)
 | bool (b : Bool) {vs as_} : SVs C N ρ vs as_ -> SVs C N ρ (.bool b :: vs) (.raw (.bool b) :: as_)
 | str (s : List UInt8) {vs as_} : SVs C N ρ vs as_ -> SVs C N ρ (.str s :: vs) (.raw (.string ⟨s.toArray⟩) :: as_)
 | sl (E : Nat) (xs : List (T E)) (A : Option Addr) (c : Nat) (cs rest : List AV) {vs as_} : xs.length <= c -> c <= maxLen -> xs.length <= 140737488355328 -> (A = Option.none -> xs.length = 0 /\ c = 0) ->
  SVs C N ρ (xs.flatMap (C.enc E)) cs -> SVs C N ρ vs as_ -> SVs C N ρ (.sl E xs Option.none :: vs) (.lst A xs.length c (cs ++ rest) :: as_)
 | slx (E : Nat) (xs ys : List (T E)) (A : Option Addr) (c : Nat) (cs rest : List AV) {vs as_} : xs.length + ys.length <= c -> c <= maxLen -> xs.length + ys.length <= 140737488355328 -> (A = Option.none -> xs.length + ys.length = 0 /\ c = 0) ->
  SVs C N ρ ((xs ++ ys).flatMap (C.enc E)) cs -> SVs C N ρ vs as_ -> SVs C N ρ (.slx E xs ys :: vs) (.lst A xs.length c (cs ++ rest) :: as_)
 | own (E : Nat) (xs : List (T E)) (r : Nat) {vs as_} : r < N -> SVs C N ρ (.sl E xs Option.none :: vs) (ρ r :: as_) -> SVs C N ρ (.sl E xs (some r) :: vs) (ρ r :: as_)
 | nil {vs as_} : SVs C N ρ vs as_ -> SVs C N ρ (.nil :: vs) (.lst Option.none 0 0 [] :: as_)
 | ptr (i o b : Nat) {vs as_} : i < N -> ρ i = Go.Proofs.YteempnebenjkmaaGreatDoor.ptr b 0 -> SVs C N ρ vs as_ -> SVs C N ρ (.ptr i o :: vs) (Go.Proofs.YteempnebenjkmaaGreatDoor.ptr b o :: as_)
 | nilptr {vs as_} : SVs C N ρ vs as_ -> SVs C N ρ (.nilptr :: vs) (.raw (.pointer Option.none) :: as_)
 | nmap {vs as_} : SVs C N ρ vs as_ -> SVs C N ρ (.nmap :: vs) (.raw (.map Option.none) :: as_)
 | el (E : Nat) (x : T E) (o : Nat) (ad : Addr) (cs rest : List AV) {vs as_} : SVs C N ρ ((C.enc E x).drop o) cs -> SVs C N ρ vs as_ -> SVs C N ρ (.el E x o :: vs) (.eptr ad (cs ++ rest) :: as_)
 | agg (l : List (XV T)) (ls : List AV) {vs as_} : SVs C N ρ l ls -> SVs C N ρ vs as_ -> SVs C N ρ (.agg l :: vs) (.agg ls :: as_)
 | tup (l : List (XV T)) (ls : List AV) {vs as_} : SVs C N ρ l ls -> SVs C N ρ vs as_ -> SVs C N ρ (.tup l :: vs) (.tup ls :: as_)
 | fn (f : Nat) {vs as_} : SVs C N ρ vs as_ -> SVs C N ρ (.fn f :: vs) (.raw (.func (.func f) #[] #[]) :: as_)
 | as (E i lo n : Nat) (co : Option Nat) (ad : Addr) (c : Nat) {vs as_} : ZA4 (C.sz E) N ρ i lo n co ad c -> SVs C N ρ vs as_ -> SVs C N ρ (.as E i lo n co :: vs) (.raw (.slice (some ad) n c) :: as_)
 | asn (E i lo : Nat) (co : Option Nat) {vs as_} : i < N -> ρ i = .lst Option.none 0 0 [] -> (∀ c', co = some c' -> c' = 0) -> SVs C N ρ vs as_ -> SVs C N ρ (.as E i lo 0 co :: vs) (.lst Option.none 0 0 [] :: as_)
 | ap (E i k o b K : Nat) {vs as_} : i < N -> (ρ i = ab b K /\ k < K) -> SVs C N ρ vs as_ -> SVs C N ρ (.ap E i k o :: vs) (Go.Proofs.YteempnebenjkmaaGreatDoor.ptr b (k * C.sz E + o) :: as_)
 | clo (f : Nat) (ps bs : List Nat) {vs as_} : Ze6 N ρ ps bs -> SVs C N ρ vs as_ -> SVs C N ρ (.clo f ps :: vs) (.raw (ZDy f bs) :: as_)
 | mp (E : Nat) (k : IntKind) (tb : List (Int × List (T E))) (b : Nat) (ls : List AV) {vs as_} : SVs C N ρ (tb.map fun p => XV.sl E p.2 Option.none) ls -> SVs C N ρ vs as_ -> SVs C N ρ (.mp E k tb :: vs) (.mp b (tb.map fun p => Value.int k p.1) ls :: as_)
 | mo (i b : Nat) {vs as_} : i < N -> ρ i = ZgG b -> SVs C N ρ vs as_ -> SVs C N ρ (.mo i :: vs) (ZgG b :: as_)
 | gv (i c : Nat) (l : List Nat) (a : AV) {vs as_} : i < N -> C.gsv c l (ρ i) a -> SVs C N ρ vs as_ -> SVs C N ρ (.gv i c l :: vs) (a :: as_)
 | vl (l : List (XV T)) (A : Option Addr) (c : Nat) (ls rest : List AV) {vs as_} : l.length <= c -> c <= maxLen -> l.length <= 140737488355328 -> (A = Option.none -> l.length = 0 /\ c = 0) -> SVs C N ρ l ls -> SVs C N ρ vs as_ -> SVs C N ρ (.vl l :: vs) (.lst A l.length c (ls ++ rest) :: as_)
 | ce (l : List (XV T)) (ad : Addr) (ls rest : List AV) {vs as_} : SVs C N ρ l ls -> SVs C N ρ vs as_ -> SVs C N ρ (.ce l :: vs) (.eptr ad (ls ++ rest) :: as_)
 | undef {vs as_} : SVs C N ρ vs as_ -> SVs C N ρ (.undef :: vs) (.raw Go.undef :: as_)
 | junk (a : AV) {vs as_} : SVs C N ρ vs as_ -> SVs C N ρ (.junk :: vs) (a :: as_)
abbrev SV (C : ZaA T) (N : Nat) (ρ : Nat -> AV) (v : XV T) (a : AV) : Prop := SVs C N ρ [v] [a]
section
variable {C : ZaA T} {N N' : Nat} {ρ ρ' : Nat -> AV} {v : XV T} {vs l : List (XV T)} {a : AV} {as_ ls : List AV}
theorem SVs.tail (h : SVs C N ρ (v :: vs) (a :: as_)) : SVs C N ρ vs as_ := by
 generalize hx : v :: vs = x at h
 generalize hy : a :: as_ = y at h
 induction h generalizing v vs a as_ with
 | none => cases hx
 | own E xs r hr h ih => injection hx with _ e2; injection hy with _ e4; subst e2 e4; exact ih rfl rfl
 | _ => injection hx with _ e2; injection hy with _ e4; subst e2 e4; assumption
theorem SVs.head (h : SVs C N ρ (v :: vs) (a :: as_)) : SV C N ρ v a := by
 generalize hx : v :: vs = x at h
 generalize hy : a :: as_ = y at h
 induction h generalizing v vs a as_ with
 | none => cases hx
 | own E xs r hr h ih => injection hx with e1 e2; injection hy with e3 e4; subst e1 e2 e3 e4; exact .own E xs r hr (ih rfl rfl)
 | sl E xs A c cs rest h1 h2 h3 h4 h5 h6 _ _ => injection hx with e1 e2; injection hy with e3 e4; subst e1 e2 e3 e4; exact .sl E xs A c cs rest h1 h2 h3 h4 h5 .none
 | slx E xs ys A c cs rest h1 h2 h3 h4 h5 h6 _ _ => injection hx with e1 e2; injection hy with e3 e4; subst e1 e2 e3 e4; exact .slx E xs ys A c cs rest h1 h2 h3 h4 h5 .none
 | el E x o ad cs rest h1 h2 _ _ => injection hx with e1 e2; injection hy with e3 e4; subst e1 e2 e3 e4; exact .el E x o ad cs rest h1 .none
 | agg l ls h1 h2 _ _ => injection hx with e1 e2; injection hy with e3 e4; subst e1 e2 e3 e4; exact .agg l ls h1 .none
 | tup l ls h1 h2 _ _ => injection hx with e1 e2; injection hy with e3 e4; subst e1 e2 e3 e4; exact .tup l ls h1 .none
 | ptr i o b h1 h2 h3 _ => injection hx with e1 e2; injection hy with e3 e4; subst e1 e2 e3 e4; exact .ptr i o b h1 h2 .none
 | mo i b h1 h2 h3 _ => injection hx with e1 e2; injection hy with e3 e4; subst e1 e2 e3 e4; exact .mo i b h1 h2 .none
 | gv i c l v h1 h2 h3 _ => injection hx with e1 e2; injection hy with e3 e4; subst e1 e2 e3 e4; exact .gv i c l _ h1 h2 .none
 | int k n h _ => injection hx with e1 e2; injection hy with e3 e4; subst e1 e2 e3 e4; exact .int k n .none
 | bool b h _ => injection hx with e1 e2; injection hy with e3 e4; subst e1 e2 e3 e4; exact .bool b .none
 | str s h _ => injection hx with e1 e2; injection hy with e3 e4; subst e1 e2 e3 e4; exact .str s .none
 | nil h _ => injection hx with e1 e2; injection hy with e3 e4; subst e1 e2 e3 e4; exact .nil .none
 | nilptr h _ => injection hx with e1 e2; injection hy with e3 e4; subst e1 e2 e3 e4; exact .nilptr .none
 | nmap h _ => injection hx with e1 e2; injection hy with e3 e4; subst e1 e2 e3 e4; exact .nmap .none
 | as E i lo n co ad c h1 _ _ => injection hx with e1 e2; injection hy with e3 e4; subst e1 e2 e3 e4; exact .as E i lo n co ad c h1 .none
 | asn E i lo co h1 h2 h3 _ _ => injection hx with e1 e2; injection hy with e3 e4; subst e1 e2 e3 e4; exact .asn E i lo co h1 h2 h3 .none
 | ap E i k o b K h1 h2 _ _ => injection hx with e1 e2; injection hy with e3 e4; subst e1 e2 e3 e4; exact .ap E i k o b K h1 h2 .none
 | clo f ps bs h1 _ _ => injection hx with e1 e2; injection hy with e3 e4; subst e1 e2 e3 e4; exact .clo f ps bs h1 .none
 | fn f h _ => injection hx with e1 e2; injection hy with e3 e4; subst e1 e2 e3 e4; exact .fn f .none
 | mp E kk tb b ls h1 h2 _ _ => injection hx with e1 e2; injection hy with e3 e4; subst e1 e2 e3 e4; exact .mp E kk tb b ls h1 .none
 | vl l A c ls rest h1 h2 h3 h4 h5 h6 _ _ => injection hx with e1 e2; injection hy with e3 e4; subst e1 e2 e3 e4; exact .vl l A c ls rest h1 h2 h3 h4 h5 .none
 | ce l ad ls rest h1 h2 _ _ => injection hx with e1 e2; injection hy with e3 e4; subst e1 e2 e3 e4; exact .ce l ad ls rest h1 .none
 | undef h _ => injection hx with e1 e2; injection hy with e3 e4; subst e1 e2 e3 e4; exact .undef .none
 | junk a h _ => injection hx with e1 e2; injection hy with e3 e4; subst e1 e2 e3 e4; exact .junk _ .none
theorem SVs.cons (h : SV C N ρ v a) (k : SVs C N ρ vs as_) : SVs C N ρ (v :: vs) (a :: as_) := by
 change SVs C N ρ [v] [a] at h
 generalize hx : [v] = x at h
 generalize hy : [a] = y at h
 induction h generalizing v a with
 | none => cases hx
 | own E xs r hr h ih => injection hx with e1 e2; injection hy with e3 e4; subst e1 e2 e3 e4; exact .own E xs r hr (ih rfl rfl)
 | sl E xs A c cs rest h1 h2 h3 h4 h5 h6 _ _ => injection hx with e1 e2; injection hy with e3 e4; subst e1 e2 e3 e4; exact .sl E xs A c cs rest h1 h2 h3 h4 h5 k
 | slx E xs ys A c cs rest h1 h2 h3 h4 h5 h6 _ _ => injection hx with e1 e2; injection hy with e3 e4; subst e1 e2 e3 e4; exact .slx E xs ys A c cs rest h1 h2 h3 h4 h5 k
 | el E x o ad cs rest h1 h2 _ _ => injection hx with e1 e2; injection hy with e3 e4; subst e1 e2 e3 e4; exact .el E x o ad cs rest h1 k
 | agg l ls h1 h2 _ _ => injection hx with e1 e2; injection hy with e3 e4; subst e1 e2 e3 e4; exact .agg l ls h1 k
 | tup l ls h1 h2 _ _ => injection hx with e1 e2; injection hy with e3 e4; subst e1 e2 e3 e4; exact .tup l ls h1 k
 | ptr i o b h1 h2 h3 _ => injection hx with e1 e2; injection hy with e3 e4; subst e1 e2 e3 e4; exact .ptr i o b h1 h2 k
 | mo i b h1 h2 h3 _ => injection hx with e1 e2; injection hy with e3 e4; subst e1 e2 e3 e4; exact .mo i b h1 h2 k
 | gv i c l v h1 h2 h3 _ => injection hx with e1 e2; injection hy with e3 e4; subst e1 e2 e3 e4; exact .gv i c l _ h1 h2 k
 | int k' n h _ => injection hx with e1 e2; injection hy with e3 e4; subst e1 e2 e3 e4; exact .int k' n k
 | bool b h _ => injection hx with e1 e2; injection hy with e3 e4; subst e1 e2 e3 e4; exact .bool b k
 | str s h _ => injection hx with e1 e2; injection hy with e3 e4; subst e1 e2 e3 e4; exact .str s k
 | nil h _ => injection hx with e1 e2; injection hy with e3 e4; subst e1 e2 e3 e4; exact .nil k
 | nilptr h _ => injection hx with e1 e2; injection hy with e3 e4; subst e1 e2 e3 e4; exact .nilptr k
 | nmap h _ => injection hx with e1 e2; injection hy with e3 e4; subst e1 e2 e3 e4; exact .nmap k
 | as E i lo n co ad c h1 _ _ => injection hx with e1 e2; injection hy with e3 e4; subst e1 e2 e3 e4; exact .as E i lo n co ad c h1 k
 | asn E i lo co h1 h2 h3 _ _ => injection hx with e1 e2; injection hy with e3 e4; subst e1 e2 e3 e4; exact .asn E i lo co h1 h2 h3 k
 | ap E i k' o b K h1 h2 _ _ => injection hx with e1 e2; injection hy with e3 e4; subst e1 e2 e3 e4; exact .ap E i k' o b K h1 h2 k
 | clo f ps bs h1 _ _ => injection hx with e1 e2; injection hy with e3 e4; subst e1 e2 e3 e4; exact .clo f ps bs h1 k
 | fn f h _ => injection hx with e1 e2; injection hy with e3 e4; subst e1 e2 e3 e4; exact .fn f k
 | mp E kk tb b ls h1 h2 _ _ => injection hx with e1 e2; injection hy with e3 e4; subst e1 e2 e3 e4; exact .mp E kk tb b ls h1 k
 | vl l A c ls rest h1 h2 h3 h4 h5 h6 _ _ => injection hx with e1 e2; injection hy with e3 e4; subst e1 e2 e3 e4; exact .vl l A c ls rest h1 h2 h3 h4 h5 k
 | ce l ad ls rest h1 h2 _ _ => injection hx with e1 e2; injection hy with e3 e4; subst e1 e2 e3 e4; exact .ce l ad ls rest h1 k
 | undef h _ => injection hx with e1 e2; injection hy with e3 e4; subst e1 e2 e3 e4; exact .undef k
 | junk a h _ => injection hx with e1 e2; injection hy with e3 e4; subst e1 e2 e3 e4; exact .junk _ k
theorem SVs.len (h : SVs C N ρ vs as_) : as_.length = vs.length := by
 induction h with
 | none => rfl
 | own E xs r hr h ih => simpa using ih
 | _ => simp_all
theorem ZbA : SVs C N ρ [] as_ ↔ as_ = [] := ⟨fun h => by cases h; rfl, fun h => by subst h; exact .none⟩
theorem SVs.to (h : SVs C N ρ (v :: vs) as_) : ∃ a bs, as_ = a :: bs /\ SV C N ρ v a /\ SVs C N ρ vs bs := by
 cases as_ with
 | nil => have := h.len; simp at this
 | cons a bs => exact ⟨a, bs, rfl, h.head, h.tail⟩
theorem SVs.get (h : SVs C N ρ vs as_) {i : Nat} {x : XV T} (hx : vs[i]? = some x) : ∃ a, as_[i]? = some a /\ SV C N ρ x a := by
 induction vs generalizing as_ i with
 | nil => simp at hx
 | cons v vs ih =>
  obtain ⟨a, bs, rfl, h1, h2⟩ := h.to
  cases i with
  | zero => simp at hx; subst hx; exact ⟨a, rfl, h1⟩
  | succ i => simp at hx; obtain ⟨a', h3, h4⟩ := ih h2 hx; exact ⟨a', by simpa using h3, h4⟩
theorem SVs.app (h : SVs C N ρ vs as_) (k : SVs C N ρ l ls) : SVs C N ρ (vs ++ l) (as_ ++ ls) := by
 induction vs generalizing as_ with
 | nil => rw [ZbA.1 h]; exact k
 | cons v vs ih => obtain ⟨a, bs, rfl, h1, h2⟩ := h.to; exact .cons h1 (ih h2)
theorem SVs.drop (h : SVs C N ρ vs as_) (n : Nat) : SVs C N ρ (vs.drop n) (as_.drop n) := by
 induction vs generalizing as_ n with
 | nil => rw [ZbA.1 h]; simpa using SVs.none
 | cons v vs ih =>
  obtain ⟨a, bs, rfl, h1, h2⟩ := h.to
  cases n with
  | zero => exact .cons h1 h2
  | succ n => exact ih h2 n
theorem SVs.take (h : SVs C N ρ vs as_) (n : Nat) : SVs C N ρ (vs.take n) (as_.take n) := by
 induction vs generalizing as_ n with
 | nil => rw [ZbA.1 h]; simpa using SVs.none
 | cons v vs ih =>
  obtain ⟨a, bs, rfl, h1, h2⟩ := h.to
  cases n with
  | zero => exact .none
  | succ n => exact .cons h1 (ih h2 n)
theorem SVs.split (h : SVs C N ρ (vs ++ l) as_) : ∃ xs ys, as_ = xs ++ ys /\ SVs C N ρ vs xs /\ SVs C N ρ l ys := by
 refine ⟨as_.take vs.length, as_.drop vs.length, (List.take_append_drop _ _).symm, ?_, ?_⟩
 ·have := h.take vs.length; simpa using this
 ·have := h.drop vs.length; simpa using this
theorem SVs.shut (h : SVs C N ρ vs as_) (hc : ∀ v ∈ vs, v.closed = true) : SVs C N' ρ' vs as_ := by
 induction h with
 | none => exact .none
 | int k n h ih => exact .int k n (ih fun v hv => hc v (List.mem_cons_of_mem _ hv))
 | bool b h ih => exact .bool b (ih fun v hv => hc v (List.mem_cons_of_mem _ hv))
 | str s h ih => exact .str s (ih fun v hv => hc v (List.mem_cons_of_mem _ hv))
 | sl E xs A c cs rest h1 h2 h3 h4 h5 h6 ih1 ih2 =>
  refine .sl E xs A c cs rest h1 h2 h3 h4 (ih1 fun v hv => ?_) (ih2 fun v hv => hc v (List.mem_cons_of_mem _ hv))
  obtain ⟨x, _, hx⟩ := List.mem_flatMap.1 hv
  exact C.shut E x v hx
 | slx E xs ys A c cs rest h1 h2 h3 h4 h5 h6 ih1 ih2 =>
  refine .slx E xs ys A c cs rest h1 h2 h3 h4 (ih1 fun v hv => ?_) (ih2 fun v hv => hc v (List.mem_cons_of_mem _ hv))
  obtain ⟨x, _, hx⟩ := List.mem_flatMap.1 hv
  exact C.shut E x v hx
 | own E xs r hr h ih => exact absurd (hc _ (List.mem_cons_self)) (by simp [XV.closed])
 | nil h ih => exact .nil (ih fun v hv => hc v (List.mem_cons_of_mem _ hv))
 | nilptr h ih => exact .nilptr (ih fun v hv => hc v (List.mem_cons_of_mem _ hv))
 | nmap h ih => exact .nmap (ih fun v hv => hc v (List.mem_cons_of_mem _ hv))
 | fn f h ih => exact .fn f (ih fun v hv => hc v (List.mem_cons_of_mem _ hv))
 | ptr i o b h1 h2 h3 ih => exact absurd (hc _ (List.mem_cons_self)) (by simp [XV.closed])
 | mo i b h1 h2 h3 ih => exact absurd (hc _ (List.mem_cons_self)) (by simp [XV.closed])
 | gv i c l v h1 h2 h3 ih => exact absurd (hc _ (List.mem_cons_self)) (by simp [XV.closed])
 | el E x o ad cs rest h1 h2 ih1 ih2 => exact absurd (hc _ (List.mem_cons_self)) (by simp [XV.closed])
 | agg l ls h1 h2 ih1 ih2 => exact absurd (hc _ (List.mem_cons_self)) (by simp [XV.closed])
 | tup l ls h1 h2 ih1 ih2 => exact absurd (hc _ (List.mem_cons_self)) (by simp [XV.closed])
 | junk a h ih => exact absurd (hc _ (List.mem_cons_self)) (by simp [XV.closed])
 | undef h ih => exact absurd (hc _ (List.mem_cons_self)) (by simp [XV.closed])
 | as E i lo n co ad c h1 h2 ih => exact absurd (hc _ (List.mem_cons_self)) (by simp [XV.closed])
 | asn E i lo co h1 h2 h3 h4 ih => exact absurd (hc _ (List.mem_cons_self)) (by simp [XV.closed])
 | ap E i k o b K h1 h2 h3 ih => exact absurd (hc _ (List.mem_cons_self)) (by simp [XV.closed])
 | clo f ps bs h1 h2 ih => exact absurd (hc _ (List.mem_cons_self)) (by simp [XV.closed])
 | mp E kk tb b ls h1 h2 ih1 ih2 => exact absurd (hc _ (List.mem_cons_self)) (by simp [XV.closed])
 | vl l A c ls rest h1 h2 h3 h4 h5 h6 ih1 ih2 => exact absurd (hc _ (List.mem_cons_self)) (by simp [XV.closed])
 | ce l ad ls rest h1 h2 ih1 ih2 => exact absurd (hc _ (List.mem_cons_self)) (by simp [XV.closed])
theorem Ze6.ext (hN : N <= N') (hρ : ∀ i, i < N -> ρ' i = ρ i) : ∀ {ps bs : List Nat}, Ze6 N ρ ps bs -> Ze6 N' ρ' ps bs
 | [], [], _ => trivial
 | i :: ps, b :: bs, h => ⟨⟨Nat.lt_of_lt_of_le h.1.1 hN, (hρ i h.1.1).trans h.1.2⟩, Ze6.ext hN hρ h.2⟩
 | [], _ :: _, h => h.elim
 | _ :: _, [], h => h.elim
theorem ZA4.ext {sz i lo n c : Nat} {co : Option Nat} {ad : Addr} (h : ZA4 sz N ρ i lo n co ad c) (hN : N <= N') (hρ : ∀ i, i < N -> ρ' i = ρ i) : ZA4 sz N' ρ' i lo n co ad c := ⟨Nat.lt_of_lt_of_le h.lt hN, h.le, h.max, h.len, by obtain ⟨b, h1, h2⟩ := h.at_; exact ⟨b, (hρ i h.lt).trans h1, h2⟩, h.cap⟩
theorem SVs.ext (h : SVs C N ρ vs as_) (hN : N <= N') (hρ : ∀ i, i < N -> ρ' i = ρ i) : SVs C N' ρ' vs as_ := by
 induction h with
 | none => exact .none
 | int k n h ih => exact .int k n ih
 | bool b h ih => exact .bool b ih
 | str s h ih => exact .str s ih
 | sl E xs A c cs rest h1 h2 h3 h4 h5 h6 ih1 ih2 => exact .sl E xs A c cs rest h1 h2 h3 h4 ih1 ih2
 | slx E xs ys A c cs rest h1 h2 h3 h4 h5 h6 ih1 ih2 => exact .slx E xs ys A c cs rest h1 h2 h3 h4 ih1 ih2
 | own E xs r hr h ih => rw [<- hρ r hr] at ih ⊢; exact .own E xs r (Nat.lt_of_lt_of_le hr hN) ih
 | nil h ih => exact .nil ih
 | nilptr h ih => exact .nilptr ih
 | nmap h ih => exact .nmap ih
 | fn f h ih => exact .fn f ih
 | undef h ih => exact .undef ih
 | as E i lo n co ad c h1 h2 ih => exact .as E i lo n co ad c (h1.ext hN hρ) ih
 | asn E i lo co h1 h2 h3 h4 ih => exact .asn E i lo co (Nat.lt_of_lt_of_le h1 hN) ((hρ i h1).trans h2) h3 ih
 | ap E i k o b K h1 h2 h3 ih => exact .ap E i k o b K (Nat.lt_of_lt_of_le h1 hN) ⟨(hρ i h1).trans h2.1, h2.2⟩ ih
 | clo f ps bs h1 h2 ih => exact .clo f ps bs (h1.ext hN hρ) ih
 | mp E kk tb b ls h1 h2 ih1 ih2 => exact .mp E kk tb b ls ih1 ih2
 | vl l A c ls rest h1 h2 h3 h4 h5 h6 ih1 ih2 => exact .vl l A c ls rest h1 h2 h3 h4 ih1 ih2
 | ce l ad ls rest h1 h2 ih1 ih2 => exact .ce l ad ls rest ih1 ih2
 | ptr i o b h1 h2 h3 ih => exact .ptr i o b (Nat.lt_of_lt_of_le h1 hN) ((hρ i h1).trans h2) ih
 | mo i b h1 h2 h3 ih => exact .mo i b (Nat.lt_of_lt_of_le h1 hN) ((hρ i h1).trans h2) ih
 | gv i c l v h1 h2 h3 ih => exact .gv i c l _ (Nat.lt_of_lt_of_le h1 hN) (by rw [hρ i h1]; exact h2) ih
 | el E x o ad cs rest h1 h2 ih1 ih2 => exact .el E x o ad cs rest ih1 ih2
 | agg l ls h1 h2 ih1 ih2 => exact .agg l ls ih1 ih2
 | tup l ls h1 h2 ih1 ih2 => exact .tup l ls ih1 ih2
 | junk a h ih => exact .junk a ih
theorem Wk.sv {u : XV T} (h : Wk v u) (k : SV C N ρ v a) : SV C N ρ u a := by
 cases h with
 | same => exact k
 | drop E xs r => cases k with | own _ _ _ _ h => exact h
 | nil E => cases k with | nil h => exact .sl E [] Option.none 0 [] [] (Nat.le_refl _) (Nat.zero_le _) (Nat.zero_le _) (fun _ => ⟨rfl, rfl⟩) .none .none
 | nilx E => cases k with | nil h => exact .slx E [] [] Option.none 0 [] [] (Nat.le_refl _) (Nat.zero_le _) (Nat.zero_le _) (fun _ => ⟨rfl, rfl⟩) .none .none
 | spare E xs ys => cases k with | slx _ _ _ A c cs rest h1 h2 h3 h4 h5 h6 =>
  rw [List.flatMap_append] at h5
  obtain ⟨p, q, rfl, k1, k2⟩ := h5.split
  rw [List.append_assoc]
  exact .sl E xs A c p (q ++ rest) (by omega) h2 (by omega) (fun e => ⟨by have := (h4 e).1; omega, (h4 e).2⟩) k1 .none
theorem Wks.sv {us : List (XV T)} (h : Wks vs us) (k : SVs C N ρ vs as_) : SVs C N ρ us as_ := by
 induction h generalizing as_ with
 | nil => exact k
 | cons h1 h2 ih => obtain ⟨a, bs, rfl, k1, k2⟩ := k.to; exact .cons (h1.sv k1) (ih k2)
theorem SVs.one (h : SV C N ρ v a) (ho : v.one = true) : a.one = true := by
 change SVs C N ρ [v] [a] at h
 generalize hx : [v] = x at h
 generalize hy : [a] = y at h
 induction h generalizing v a with
 | none => cases hx
 | own E xs r hr h ih => injection hx with e1 e2; injection hy with e3 e4; subst e1 e2 e3 e4; exact ih rfl rfl rfl
 | el E x o ad cs rest h1 h2 _ _ => injection hx with e1 e2; injection hy with e3 e4; subst e1 e2 e3 e4; rfl
 | agg l ls h1 h2 _ _ => injection hx with e1 e2; subst e1; simp [XV.one] at ho
 | tup l ls h1 h2 _ _ => injection hx with e1 e2; subst e1; simp [XV.one] at ho
 | junk a h _ => injection hx with e1 e2; subst e1; simp [XV.one] at ho
 | undef h _ => injection hx with e1 e2; subst e1; simp [XV.one] at ho
 | mp E kk tb b ls h1 h2 _ _ => injection hx with e1 e2; subst e1; simp [XV.one] at ho
 | vl l A c ls rest h1 h2 h3 h4 h5 h6 _ _ => injection hx with e1 e2; subst e1; simp [XV.one] at ho
 | ce l ad ls rest h1 h2 _ _ => injection hx with e1 e2; subst e1; simp [XV.one] at ho
 | ap E i k o b h1 h2 _ _ => injection hx with e1 e2; subst e1; simp [XV.one] at ho
 | gv i c l v h1 h2 h3 _ =>
  injection hx with e1 e2; injection hy with e3 e4; subst e1 e2 e3 e4
  rcases C.gsv_one _ _ _ _ h2 with ⟨u, e, h⟩ | ⟨_, _, _, _, e⟩
  ·rw [e]; exact h
  ·rw [e]; rfl
 | _ => injection hx with e1 e2; injection hy with e3 e4; subst e1 e2 e3 e4; rfl
end
end Go.Proofs.YteempnebenjkmaaGreatDoor
namespace Go.Proofs.YteempnebenjkmaaGreatDoor
open Go.RowKit
set_option maxRecDepth 100000
set_option linter.unusedVariables false
variable {T : Nat -> Type}
inductive MK where
 | str
 | int (k : IntKind)
 | two (k j : IntKind)
 deriving DecidableEq
abbrev MK.ty : MK -> Type
 | .str => List UInt8
 | .int _ => Int
 | .two _ _ => Int × Int
def MK.val : (K : MK) -> K.ty -> Value
 | .str, s => .string ⟨s.toArray⟩
 | .int k, n => .int k n
 | .two k j, p => .agg #[.int k p.1, .int j p.2]
def MK.of : (K : MK) -> XV T -> Option K.ty
 | .str, .str s => some s
 | .int k, .int k' n => if k = k' then some n else none
 | .two k j, .agg [.int k' a, .int j' b] => if k = k' /\ j = j' then some (a, b) else none
 | _, _ => none
def MK.zero : (K : MK) -> K.ty
 | .str => []
 | .int _ => (0 : Int)
 | .two _ _ => ((0 : Int), (0 : Int))
inductive HI (T : Nat -> Type) : Type where
 | obj (t : TypeId) (cells : List (XV T))
 | row (e sz : Nat)
 | arr (e : TypeId) (E : Nat) (kp : Bool) (xs : List (T E))
 | mmap (K V : MK) (es : List (K.ty × V.ty))
 | gen (E : Nat) (x : T E)
 | dead
def HI.alive : HI T -> Bool
 | .dead => false
 | _ => true
@[simp] theorem ZA5 (b c : Nat) : (ZgG b).owns c ↔ b = c := ⟨fun h => by injection h, fun h => by subst h; rfl⟩
@[simp] theorem ZCg (b o c : Nat) : (ptr b o).owns c ↔ b = c := ⟨fun h => by injection h, fun h => by subst h; rfl⟩
@[simp] theorem Zui (b o c : Nat) : (ab b o).owns c ↔ b = c := ⟨fun h => by injection h, fun h => by subst h; rfl⟩
theorem Zyn {b c K L : Nat} (h : ab b K = ab c L) : b = c /\ K = L := by
 unfold ab at h
 injection h with h1 h2
 injection h1 with h1
 injection h1 with h1
 exact ⟨h1, h2⟩
def SH (C : ZaA T) (N : Nat) (ρ : Nat -> AV) (σ : St) (i : Nat) : HI T -> Prop
 | .obj t cells => ∃ b acs, ρ i = ptr b 0 /\ σ.blk b = some (.own t acs) /\ σ.used b /\ SVs C N ρ cells acs
 | .row e sz => ∃ n cells, Own σ e sz (ρ i) n cells
 | .arr e E _ xs => (∃ b K pre rest, ρ i = ab b K /\ σ.blk b = some (.own e (pre ++ rest)) /\ σ.used b /\ (∀ N' ρ', SVs C N' ρ' (xs.flatMap (C.enc E)) pre) /\ (pre ++ rest).length = K * C.sz E /\ K <= maxLen /\ (C.full E = true -> ∃ zs : List (T E), ∀ N' ρ', SVs C N' ρ' (zs.flatMap (C.enc E)) rest)) \/ (ρ i = .lst none 0 0 [] /\ xs = [])
 | .mmap K V es => ∃ b, ρ i = ZgG b /\ σ.blk b = some (.map (es.map fun p => (K.val p.1, V.val p.2))) /\ σ.used b
 | .gen E x => C.gsh E x σ (ρ i)
 | .dead => True
structure Hp (C : ZaA T) (ρ : Nat -> AV) (h : List (HI T)) (σ : St) : Prop where
 it : ∀ i x, h[i]? = some x -> SH C h.length ρ σ i x
 dist : ∀ i j x y b, h[i]? = some x -> h[j]? = some y -> x.alive = true -> y.alive = true -> (ρ i).owns b -> (ρ j).owns b -> i = j
def Liv (ρ : Nat -> AV) (h : List (HI T)) (b : Nat) : Prop := ∃ i x, h[i]? = some x /\ x.alive = true /\ (ρ i).owns b
def ZCh (U : Nat -> Prop) (ρ : Nat -> AV) (h : List (HI T)) (b : Nat) : Prop := ∃ i x, U i /\ h[i]? = some x /\ x.alive = true /\ (ρ i).owns b
structure Rel (U : Nat -> Prop) (ρ : Nat -> AV) (h : List (HI T)) (σ : St) (ρ' : Nat -> AV) (h' : List (HI T)) (τ : St) : Prop where
 len : h.length <= h'.length
 ext : ∀ i, i < h.length -> ρ' i = ρ i
 but : But (ZCh U ρ h) σ τ
 born : ∀ b, Liv ρ' h' b -> Liv ρ h b \/ (σ.blk b = none /\ ¬ σ.used b)
section
variable {U : Nat -> Prop} {C : ZaA T} {ρ ρ' ρ'' : Nat -> AV} {h h' h'' : List (HI T)} {σ τ υ : St} {b i : Nat}
theorem Zry {e sz n : Nat} {v : AV} {cells : List AV} (ho : Own σ e sz v n cells) (hb : v.owns b) : σ.used b /\ σ.blk b = some (.tail e (n * sz) ((match v with | .lst _ _ c _ => c | _ => 0) * sz)) := by
 rcases ho.2 with ⟨rfl, _⟩ | ⟨g, c, rfl, _, _, h1, h2⟩
 ·cases hb
 ·injection hb with hb
  subst hb
  exact ⟨h2, h1⟩
theorem Hp.used (H : Hp C ρ h σ) (hl : Liv ρ h b) : σ.used b := by
 obtain ⟨i, x, h1, h2, h3⟩ := hl
 have := H.it i x h1
 cases x with
 | gen E x => exact C.gsh_used _ _ _ _ _ this h3
 | mmap K V es =>
  obtain ⟨b', h4, _, h5⟩ := this
  rw [h4] at h3
  injection h3 with h3
  subst h3
  exact h5
 | obj t cells =>
  obtain ⟨b', acs, h4, _, h5, _⟩ := this
  rw [h4] at h3
  injection h3 with h3
  subst h3
  exact h5
 | arr e E kp xs =>
  rcases this with ⟨b', K', pre, rest, h4, _, h5, _⟩ | ⟨h4, _⟩
  ·rw [h4] at h3
   injection h3 with h3
   subst h3
   exact h5
  ·rw [h4] at h3; cases h3
 | row e sz =>
  obtain ⟨n, cells, ho⟩ := this
  exact (Zry ho h3).1
 | dead => cases h2
theorem Hp.blk (H : Hp C ρ h σ) (hl : Liv ρ h b) : ∃ k, σ.blk b = some k := by
 obtain ⟨i, x, h1, h2, h3⟩ := hl
 have := H.it i x h1
 cases x with
 | gen E x => exact C.gsh_blk _ _ _ _ _ this h3
 | mmap K V es =>
  obtain ⟨b', h4, h5, _⟩ := this
  rw [h4] at h3
  injection h3 with h3
  subst h3
  exact ⟨_, h5⟩
 | obj t cells =>
  obtain ⟨b', acs, h4, h5, _, _⟩ := this
  rw [h4] at h3
  injection h3 with h3
  subst h3
  exact ⟨_, h5⟩
 | arr e E kp xs =>
  rcases this with ⟨b', K', pre, rest, h4, h5, _, _⟩ | ⟨h4, _⟩
  ·rw [h4] at h3
   injection h3 with h3
   subst h3
   exact ⟨_, h5⟩
  ·rw [h4] at h3; cases h3
 | row e sz =>
  obtain ⟨n, cells, ho⟩ := this
  exact ⟨_, (Zry ho h3).2⟩
 | dead => cases h2
theorem But.more {S S' : Nat -> Prop} (hX : But S σ τ) (hS : ∀ b, S b -> S' b) : But S' σ τ := ⟨fun c x hc hx => hX.keep c x (fun hs => hc (hS c hs)) hx, hX.used⟩
theorem Rel.refl (U : Nat -> Prop) (ρ : Nat -> AV) (h : List (HI T)) (σ : St) : Rel U ρ h σ ρ h σ := ⟨Nat.le_refl _, fun _ _ => rfl, .refl _ _, fun _ hb => .inl hb⟩
theorem Rel.mono {U U' : Nat -> Prop} (r : Rel U ρ h σ ρ' h' τ) (hU : ∀ i, U i -> U' i) : Rel U' ρ h σ ρ' h' τ := ⟨r.len, r.ext, r.but.more fun b ⟨i, x, h1, h2⟩ => ⟨i, x, hU i h1, h2⟩, r.born⟩
theorem Rel.trans {U V : Nat -> Prop} (H : Hp C ρ h σ) (r1 : Rel U ρ h σ ρ' h' τ) (r2 : Rel V ρ' h' τ ρ'' h'' υ) : Rel (fun _ => True) ρ h σ ρ'' h'' υ := by
 have hb1 : But (ZCh (fun _ => True) ρ h) σ τ := r1.but.more (fun b ⟨i, x, _, h2⟩ => ⟨i, x, trivial, h2⟩)
 refine ⟨Nat.le_trans r1.len r2.len, fun i hi => (r2.ext i (Nat.lt_of_lt_of_le hi r1.len)).trans (r1.ext i hi), hb1.ext2 (fun b hb => ?_) r2.but, fun b hb => ?_⟩
 ·obtain ⟨i, x, _, h2⟩ := hb
  rcases r1.born b ⟨i, x, h2⟩ with ⟨j, y, h3⟩ | h3
  ·exact .inl ⟨j, y, trivial, h3⟩
  ·exact .inr h3.1
 rcases r2.born b hb with h1 | ⟨h1, h2⟩
 ·exact r1.born b h1
 ·exact .inr ⟨r1.but.noneOfB (fun b ⟨i, x, _, h4⟩ => H.used ⟨i, x, h4⟩) h2 h1, fun hu => h2 (r1.but.used _ hu)⟩
theorem Zby {α : Type} {l : List α} {i j : Nat} {x y : α} (hx : (l.set i x)[j]? = some y) : (j = i /\ y = x /\ i < l.length) \/ (j ≠ i /\ l[j]? = some y) := by
 rw [List.getElem?_set] at hx
 by_cases hj : i = j
 ·subst hj
  rw [if_pos rfl] at hx
  split at hx
  ·injection hx with hx; exact .inl ⟨rfl, hx.symm, ‹_›⟩
  ·cases hx
 ·rw [if_neg hj] at hx
  exact .inr ⟨fun e => hj e.symm, hx⟩
theorem Zbu {α : Type} {l : List α} {j : Nat} {x y : α} (hx : (l ++ [x])[j]? = some y) : (j = l.length /\ y = x) \/ (j < l.length /\ l[j]? = some y) := by
 rw [List.getElem?_append] at hx
 split at hx
 ·exact .inr ⟨‹_›, hx⟩
 ·have : j - l.length = 0 := by
   rcases Nat.eq_zero_or_pos (j - l.length) with h0 | h0
   ·exact h0
   ·rw [List.getElem?_cons] at hx
    rw [if_neg (by omega)] at hx
    simp at hx
  rw [this] at hx
  simp at hx
  exact .inl ⟨by omega, hx.symm⟩
def rup (ρ : Nat -> AV) (i : Nat) (a : AV) : Nat -> AV := fun j => if j = i then a else ρ j
theorem ZaD (ρ : Nat -> AV) (i : Nat) (a : AV) : rup ρ i a i = a := by unfold rup; rw [if_pos rfl]
theorem ZeF {ρ : Nat -> AV} {i j : Nat} {a : AV} (h : j ≠ i) : rup ρ i a j = ρ j := by unfold rup; rw [if_neg h]
theorem Zat {α : Type} {l : List α} {i : Nat} {x : α} (h : l[i]? = some x) : i < l.length := (List.getElem?_eq_some_iff.1 h).1
theorem Hp.new (H : Hp C ρ h σ) (hb : ¬ σ.used b) (hn : σ.blk b = none) (t : TypeId) {cells : List (XV T)} {acs : List AV} (hc : SVs C h.length ρ cells acs) :
 Hp C (rup ρ h.length (ptr b 0)) (h ++ [.obj t cells]) (σ.put b (.own t acs)) /\ Rel U ρ h σ (rup ρ h.length (ptr b 0)) (h ++ [.obj t cells]) (σ.put b (.own t acs)) /\ SV C (h ++ [HI.obj t cells]).length (rup ρ h.length (ptr b 0)) (.ptr h.length 0) (ptr b 0) := by
 have hext : ∀ i, i < h.length -> rup ρ h.length (ptr b 0) i = ρ i := fun i hi => ZeF (by omega)
 have hlen : h.length <= (h ++ [HI.obj t cells]).length := by simp
 have hnew : ∀ i x c, h[i]? = some x -> x.alive = true -> (ρ i).owns c -> c ≠ b := fun i x c h1 h2 h3 e => by
  subst e
  exact hb (H.used ⟨i, x, h1, h2, h3⟩)
 have hsh : ∀ i x, h[i]? = some x -> SH C (h ++ [HI.obj t cells]).length (rup ρ h.length (ptr b 0)) (σ.put b (.own t acs)) i x := fun i x hx => by
  have hi := Zat hx
  have := H.it i x hx
  cases x with
  | gen E x =>
   show C.gsh E x _ (rup ρ h.length (ptr b 0) i)
   rw [hext i hi]
   exact C.gsh_but _ _ _ _ _ (fun _ => False) this (Ext.put _ hn).but (fun _ _ hf => hf)
  | mmap K V es =>
   obtain ⟨b', h1, h2, h3⟩ := this
   have hne : b' ≠ b := hnew i _ b' hx rfl (by rw [h1]; rfl)
   exact ⟨b', (hext i hi).trans h1, by rw [Zaz _ _ hne]; exact h2, .inl h3⟩
  | obj t' cs' =>
   obtain ⟨b', acs', h1, h2, h3, h4⟩ := this
   have hne : b' ≠ b := hnew i _ b' hx rfl (by rw [h1]; rfl)
   exact ⟨b', acs', (hext i hi).trans h1, by rw [Zaz _ _ hne]; exact h2, .inl h3, h4.ext hlen hext⟩
  | arr e E kp xs =>
   rcases this with ⟨b', K', pre, rest, h1, h2, h3, h4⟩ | ⟨h1, h2⟩
   ·have hne : b' ≠ b := hnew i _ b' hx rfl (by rw [h1]; rfl)
    exact .inl ⟨b', K', pre, rest, (hext i hi).trans h1, by rw [Zaz _ _ hne]; exact h2, .inl h3, h4⟩
   ·exact .inr ⟨(hext i hi).trans h1, h2⟩
  | row e sz =>
   obtain ⟨n, cs', ho⟩ := this
   exact ⟨n, cs', by rw [hext i hi]; exact ho.ext (Ext.put _ hn)⟩
  | dead => trivial
 refine ⟨⟨fun i x hx => ?_, fun i j x y c hx hy ax ay bx by_ => ?_⟩, ⟨hlen, hext, (Ext.put _ hn).but, fun c hc => ?_⟩, .ptr _ _ b (by simp) (ZaD _ _ _) .none⟩
 ·rcases Zbu hx with ⟨rfl, rfl⟩ | ⟨hi, hx⟩
  ·exact ⟨b, acs, ZaD _ _ _, ZaW _ _ _, .inr rfl, hc.ext hlen hext⟩
  ·exact hsh i x hx
 ·rcases Zbu hx with ⟨rfl, rfl⟩ | ⟨hi, hx⟩ <;> rcases Zbu hy with ⟨rfl, rfl⟩ | ⟨hj, hy⟩
  ·rfl
  ·rw [ZaD] at bx; injection bx with bx; subst bx
   rw [hext j hj] at by_
   exact absurd rfl (hnew j y _ hy ay by_)
  ·rw [ZaD] at by_; injection by_ with by_; subst by_
   rw [hext i hi] at bx
   exact absurd rfl (hnew i x _ hx ax bx)
  ·rw [hext i hi] at bx; rw [hext j hj] at by_
   exact H.dist i j x y c hx hy ax ay bx by_
 ·obtain ⟨i, x, hx, ax, bx⟩ := hc
  rcases Zbu hx with ⟨rfl, rfl⟩ | ⟨hi, hx⟩
  ·rw [ZaD] at bx; injection bx with bx; subst bx
   exact .inr ⟨hn, hb⟩
  ·rw [hext i hi] at bx
   exact .inl ⟨i, x, hx, ax, bx⟩
theorem Hp.newArr (kp : Bool) (H : Hp C ρ h σ) (hb : ¬ σ.used b) (hn : σ.blk b = none) (t : TypeId) {E K : Nat} {xs : List (T E)} {pre rest : List AV} (hc : ∀ N ρ, SVs C N ρ (xs.flatMap (C.enc E)) pre) (hK : (pre ++ rest).length = K * C.sz E) (hm : K <= maxLen) (hfl : C.full E = true -> ∃ zs : List (T E), ∀ N' ρ', SVs C N' ρ' (zs.flatMap (C.enc E)) rest) :
 Hp C (rup ρ h.length (ab b K)) (h ++ [.arr t E kp xs]) (σ.put b (.own t (pre ++ rest))) /\ Rel U ρ h σ (rup ρ h.length (ab b K)) (h ++ [.arr t E kp xs]) (σ.put b (.own t (pre ++ rest))) := by
 have hext : ∀ i, i < h.length -> rup ρ h.length (ab b K) i = ρ i := fun i hi => ZeF (by omega)
 have hlen : h.length <= (h ++ [HI.arr t E kp xs]).length := by simp
 have hnew : ∀ i x c, h[i]? = some x -> x.alive = true -> (ρ i).owns c -> c ≠ b := fun i x c h1 h2 h3 e => by
  subst e
  exact hb (H.used ⟨i, x, h1, h2, h3⟩)
 have hsh : ∀ i x, h[i]? = some x -> SH C (h ++ [HI.arr t E kp xs]).length (rup ρ h.length (ab b K)) (σ.put b (.own t (pre ++ rest))) i x := fun i x hx => by
  have hi := Zat hx
  have := H.it i x hx
  cases x with
  | gen E x =>
   show C.gsh E x _ (rup ρ h.length (ab b K) i)
   rw [hext i hi]
   exact C.gsh_but _ _ _ _ _ (fun _ => False) this (Ext.put _ hn).but (fun _ _ hf => hf)
  | mmap K V es =>
   obtain ⟨b', h1, h2, h3⟩ := this
   have hne : b' ≠ b := hnew i _ b' hx rfl (by rw [h1]; rfl)
   exact ⟨b', (hext i hi).trans h1, by rw [Zaz _ _ hne]; exact h2, .inl h3⟩
  | obj t' cs' =>
   obtain ⟨b', acs', h1, h2, h3, h4⟩ := this
   have hne : b' ≠ b := hnew i _ b' hx rfl (by rw [h1]; rfl)
   exact ⟨b', acs', (hext i hi).trans h1, by rw [Zaz _ _ hne]; exact h2, .inl h3, h4.ext hlen hext⟩
  | arr e E kp xs =>
   rcases this with ⟨b', K', pre, rest, h1, h2, h3, h4⟩ | ⟨h1, h2⟩
   ·have hne : b' ≠ b := hnew i _ b' hx rfl (by rw [h1]; rfl)
    exact .inl ⟨b', K', pre, rest, (hext i hi).trans h1, by rw [Zaz _ _ hne]; exact h2, .inl h3, h4⟩
   ·exact .inr ⟨(hext i hi).trans h1, h2⟩
  | row e sz =>
   obtain ⟨n, cs', ho⟩ := this
   exact ⟨n, cs', by rw [hext i hi]; exact ho.ext (Ext.put _ hn)⟩
  | dead => trivial
 refine ⟨⟨fun i x hx => ?_, fun i j x y c hx hy ax ay bx by_ => ?_⟩, ⟨hlen, hext, (Ext.put _ hn).but, fun c hc => ?_⟩⟩
 ·rcases Zbu hx with ⟨rfl, rfl⟩ | ⟨hi, hx⟩
  ·exact .inl ⟨b, K, pre, rest, ZaD _ _ _, ZaW _ _ _, .inr rfl, hc, hK, hm, hfl⟩
  ·exact hsh i x hx
 ·rcases Zbu hx with ⟨rfl, rfl⟩ | ⟨hi, hx⟩ <;> rcases Zbu hy with ⟨rfl, rfl⟩ | ⟨hj, hy⟩
  ·rfl
  ·rw [ZaD] at bx; injection bx with bx; subst bx
   rw [hext j hj] at by_
   exact absurd rfl (hnew j y _ hy ay by_)
  ·rw [ZaD] at by_; injection by_ with by_; subst by_
   rw [hext i hi] at bx
   exact absurd rfl (hnew i x _ hx ax bx)
  ·rw [hext i hi] at bx; rw [hext j hj] at by_
   exact H.dist i j x y c hx hy ax ay bx by_
 ·obtain ⟨i, x, hx, ax, bx⟩ := hc
  rcases Zbu hx with ⟨rfl, rfl⟩ | ⟨hi, hx⟩
  ·rw [ZaD] at bx; injection bx with bx; subst bx
   exact .inr ⟨hn, hb⟩
  ·rw [hext i hi] at bx
   exact .inl ⟨i, x, hx, ax, bx⟩
theorem Hp.newRow (H : Hp C ρ h σ) {v : AV} {e sz n : Nat} {cells : List AV} (hX : Ext σ τ) (ho : Own τ e sz v n cells) (hv : ∀ g, v.owns g -> σ.blk g = none /\ ¬ σ.used g) :
 Hp C (rup ρ h.length v) (h ++ [.row e sz]) τ /\ Rel U ρ h σ (rup ρ h.length v) (h ++ [.row e sz]) τ := by
 have hext : ∀ i, i < h.length -> rup ρ h.length v i = ρ i := fun i hi => ZeF (by omega)
 have hlen : h.length <= (h ++ [HI.row e sz]).length := by simp
 have hnew : ∀ i x c, h[i]? = some x -> x.alive = true -> (ρ i).owns c -> ¬ v.owns c := fun i x c h1 h2 h3 e =>
  (hv c e).2 (H.used ⟨i, x, h1, h2, h3⟩)
 refine ⟨⟨fun i x hx => ?_, fun i j x y c hx hy ax ay bx by_ => ?_⟩, ⟨hlen, hext, hX.but, fun c hc => ?_⟩⟩
 ·rcases Zbu hx with ⟨rfl, rfl⟩ | ⟨hi, hx⟩
  ·exact ⟨n, cells, by rw [ZaD]; exact ho⟩
  ·have := H.it i x hx
   cases x with
   | gen E x =>
    show C.gsh E x _ (rup ρ h.length v i)
    rw [hext i hi]
    exact C.gsh_but _ _ _ _ _ (fun _ => False) this hX.but (fun _ _ hf => hf)
   | mmap K V es =>
    obtain ⟨b', h1, h2, h3⟩ := this
    exact ⟨b', (hext i hi).trans h1, hX.keep _ _ h2, hX.used _ h3⟩
   | obj t' cs' =>
    obtain ⟨b', acs', h1, h2, h3, h4⟩ := this
    exact ⟨b', acs', (hext i hi).trans h1, hX.keep _ _ h2, hX.used _ h3, h4.ext hlen hext⟩
   | arr e E kp xs =>
    rcases this with ⟨b', K', pre, rest, h1, h2, h3, h4⟩ | ⟨h1, h2⟩
    ·exact .inl ⟨b', K', pre, rest, (hext i hi).trans h1, hX.keep _ _ h2, hX.used _ h3, h4⟩
    ·exact .inr ⟨(hext i hi).trans h1, h2⟩
   | row e sz =>
    obtain ⟨n, cs', ho⟩ := this
    exact ⟨n, cs', by rw [hext i hi]; exact ho.ext hX⟩
   | dead => trivial
 ·rcases Zbu hx with ⟨rfl, rfl⟩ | ⟨hi, hx⟩ <;> rcases Zbu hy with ⟨rfl, rfl⟩ | ⟨hj, hy⟩
  ·rfl
  ·rw [ZaD] at bx
   rw [hext j hj] at by_
   exact absurd bx (hnew j y _ hy ay by_)
  ·rw [ZaD] at by_
   rw [hext i hi] at bx
   exact absurd by_ (hnew i x _ hx ax bx)
  ·rw [hext i hi] at bx; rw [hext j hj] at by_
   exact H.dist i j x y c hx hy ax ay bx by_
 ·obtain ⟨i, x, hx, ax, bx⟩ := hc
  rcases Zbu hx with ⟨rfl, rfl⟩ | ⟨hi, hx⟩
  ·rw [ZaD] at bx
   exact .inr (hv _ bx)
  ·rw [hext i hi] at bx
   exact .inl ⟨i, x, hx, ax, bx⟩
theorem Own.but' {S : Nat -> Prop} {e sz n : Nat} {v : AV} {cells : List AV} (ho : Own σ e sz v n cells) (hX : But S σ τ) (hS : ∀ g, v.owns g -> ¬ S g) : Own τ e sz v n cells :=
 ho.but hX fun g hg => hS g (by
  rcases ho.2 with ⟨rfl, _⟩ | ⟨g', c, rfl, _⟩
  ·cases hg
  ·exact hg)
theorem Hp.grow (H : Hp C ρ h σ) {r : Nat} (hU : U r) {e0 sz0 : Nat} (hr : h[r]? = some (.row e0 sz0)) {v : AV} {e sz n : Nat} {cells : List AV} (hX : But (fun b => (ρ r).owns b) σ τ) (ho : Own τ e sz v n cells) (hv : ∀ g, v.owns g -> (ρ r).owns g \/ (σ.blk g = none /\ ¬ σ.used g)) :
 Hp C (rup ρ h.length v) (h.set r .dead ++ [.row e sz]) τ /\ Rel U ρ h σ (rup ρ h.length v) (h.set r .dead ++ [.row e sz]) τ := by
 have hrl := Zat hr
 have hl : (h.set r HI.dead).length = h.length := by simp
 have hext : ∀ i, i < h.length -> rup ρ h.length v i = ρ i := fun i hi => ZeF (by omega)
 have hlen : h.length <= (h.set r HI.dead ++ [HI.row e sz]).length := by simp
 have hoth : ∀ i x c, h[i]? = some x -> x.alive = true -> i ≠ r -> (ρ i).owns c -> ¬ (ρ r).owns c := fun i x c h1 h2 h3 h4 h5 => h3 (H.dist i r x _ c h1 hr h2 rfl h4 h5)
 have hnew : ∀ i x c, h[i]? = some x -> x.alive = true -> i ≠ r -> (ρ i).owns c -> ¬ v.owns c := fun i x c h1 h2 h3 h4 h5 => by
  rcases hv c h5 with h6 | h6
  ·exact hoth i x c h1 h2 h3 h4 h6
  ·exact h6.2 (H.used ⟨i, x, h1, h2, h4⟩)
 refine ⟨⟨fun i x hx => ?_, fun i j x y c hx hy ax ay bx by_ => ?_⟩, ⟨hlen, hext, ?_, fun c hc => ?_⟩⟩
 ·rcases Zbu hx with ⟨rfl, rfl⟩ | ⟨hi, hx⟩
  ·exact ⟨n, cells, by rw [hl, ZaD]; exact ho⟩
  ·rw [hl] at hi
   rcases Zby hx with ⟨_, rfl, _⟩ | ⟨hne, hx⟩
   ·trivial
   have := H.it i x hx
   cases x with
   | gen E x =>
    show C.gsh E x _ (rup ρ h.length v i)
    rw [hext i hi]
    exact C.gsh_but _ _ _ _ _ _ this hX (fun b' hb' => hoth i _ b' hx rfl hne hb')
   | mmap K V es =>
    obtain ⟨b', h1, h2, h3⟩ := this
    exact ⟨b', (hext i hi).trans h1, hX.keep _ _ (hoth i _ b' hx rfl hne (by rw [h1]; rfl)) h2, hX.used _ h3⟩
   | obj t' cs' =>
    obtain ⟨b', acs', h1, h2, h3, h4⟩ := this
    exact ⟨b', acs', (hext i hi).trans h1, hX.keep _ _ (hoth i _ b' hx rfl hne (by rw [h1]; rfl)) h2, hX.used _ h3, h4.ext hlen hext⟩
   | arr e E kp xs =>
    rcases this with ⟨b', K', pre, rest, h1, h2, h3, h4⟩ | ⟨h1, h2⟩
    ·exact .inl ⟨b', K', pre, rest, (hext i hi).trans h1, hX.keep _ _ (hoth i _ b' hx rfl hne (by rw [h1]; rfl)) h2, hX.used _ h3, h4⟩
    ·exact .inr ⟨(hext i hi).trans h1, h2⟩
   | row e sz =>
    obtain ⟨n, cs', ho'⟩ := this
    exact ⟨n, cs', by rw [hext i hi]; exact ho'.but' hX fun g hg => hoth i _ g hx rfl hne hg⟩
   | dead => trivial
 ·rcases Zbu hx with ⟨rfl, rfl⟩ | ⟨hi, hx⟩ <;> rcases Zbu hy with ⟨rfl, rfl⟩ | ⟨hj, hy⟩
  ·rfl
  ·rcases Zby hy with ⟨_, rfl, _⟩ | ⟨hne, hy⟩
   ·cases ay
   rw [hl] at hj bx
   rw [ZaD] at bx
   rw [hext j hj] at by_
   exact absurd bx (hnew j y _ hy ay hne by_)
  ·rcases Zby hx with ⟨_, rfl, _⟩ | ⟨hne, hx⟩
   ·cases ax
   rw [hl] at hi by_
   rw [ZaD] at by_
   rw [hext i hi] at bx
   exact absurd by_ (hnew i x _ hx ax hne bx)
  ·rcases Zby hy with ⟨_, rfl, _⟩ | ⟨_, hy⟩
   ·cases ay
   rcases Zby hx with ⟨_, rfl, _⟩ | ⟨_, hx⟩
   ·cases ax
   rw [hl] at hi hj
   rw [hext i hi] at bx; rw [hext j hj] at by_
   exact H.dist i j x y c hx hy ax ay bx by_
 ·exact ⟨fun c k hc hk => hX.keep c k (fun h1 => hc ⟨r, _, hU, hr, rfl, h1⟩) hk, hX.used⟩
 ·obtain ⟨i, x, hx, ax, bx⟩ := hc
  rcases Zbu hx with ⟨rfl, rfl⟩ | ⟨hi, hx⟩
  ·rw [hl, ZaD] at bx
   rcases hv c bx with h1 | h1
   ·exact .inl ⟨r, _, hr, rfl, h1⟩
   ·exact .inr h1
  ·rcases Zby hx with ⟨_, rfl, _⟩ | ⟨_, hx⟩
   ·cases ax
   rw [hl] at hi
   rw [hext i hi] at bx
   exact .inl ⟨i, x, hx, ax, bx⟩
theorem Hp.write (H : Hp C ρ h σ) {i : Nat} (hU : U i) {t : TypeId} {cells cells' : List (XV T)} (hi : h[i]? = some (.obj t cells)) {acs' : List AV} (hb : ρ i = ptr b 0) (hc : SVs C h.length ρ cells' acs') :
 Hp C ρ (h.set i (.obj t cells')) (σ.set b (.own t acs')) /\ Rel U ρ h σ ρ (h.set i (.obj t cells')) (σ.set b (.own t acs')) := by
 obtain ⟨b0, acs0, e0, hb0, hu0, _⟩ := H.it i _ hi
 rw [hb] at e0
 have hbb : b0 = b := by injection e0 with e0; injection e0 with e0; injection e0 with e0; injection e0 with e0; exact e0.symm
 subst hbb
 have hoth : ∀ j x c, h[j]? = some x -> x.alive = true -> j ≠ i -> (ρ j).owns c -> c ≠ b0 := fun j x c h1 h2 h3 h4 e => by
  subst e
  exact h3 (H.dist j i x _ c h1 hi h2 rfl h4 (by rw [hb]; rfl))
 have hset : ∀ c, c ≠ b0 -> (σ.set b0 (.own t acs')).blk c = σ.blk c := fun c hc => by show (if c = b0 then _ else σ.blk c) = _; rw [if_neg hc]
 have hbut : But (fun c => c = b0) σ (σ.set b0 (.own t acs')) := ⟨fun c k hc hk => (hset c hc).trans hk, fun c hc => hc⟩
 have hliv : ∀ c, Liv ρ (h.set i (.obj t cells')) c -> Liv ρ h c := fun c ⟨j, x, hx, ax, bx⟩ => by
  rcases Zby hx with ⟨rfl, rfl, _⟩ | ⟨_, hx⟩
  ·exact ⟨j, _, hi, rfl, bx⟩
  ·exact ⟨j, x, hx, ax, bx⟩
 refine ⟨⟨fun j x hx => ?_, fun j k x y c hx hy ax ay bx by_ => ?_⟩, ⟨by simp, fun _ _ => rfl, ⟨fun c k hc hk => hbut.keep c k (fun e => hc ⟨i, _, hU, hi, rfl, by rw [hb, e]; rfl⟩) hk, fun c hc => hc⟩, fun c hc => .inl (hliv c hc)⟩⟩
 ·rw [List.length_set]
  rcases Zby hx with ⟨rfl, rfl, _⟩ | ⟨hne, hx⟩
  ·exact ⟨b0, acs', hb, by show (if b0 = b0 then _ else σ.blk b0) = _; rw [if_pos rfl], hu0, hc⟩
  ·have := H.it j x hx
   cases x with
   | gen E x => exact C.gsh_but _ _ _ _ _ _ this hbut (fun b' hb' => hoth j _ b' hx rfl hne hb')
   | mmap K V es =>
    obtain ⟨b', h1, h2, h3⟩ := this
    exact ⟨b', h1, (hset b' (hoth j _ b' hx rfl hne (by rw [h1]; rfl))).trans h2, h3⟩
   | obj t' cs' =>
    obtain ⟨b', acs2, h1, h2, h3, h4⟩ := this
    exact ⟨b', acs2, h1, (hset b' (hoth j _ b' hx rfl hne (by rw [h1]; rfl))).trans h2, h3, h4⟩
   | arr e E kp xs =>
    rcases this with ⟨b', K', pre, rest, h1, h2, h3, h4⟩ | ⟨h1, h2⟩
    ·exact .inl ⟨b', K', pre, rest, h1, (hset b' (hoth j _ b' hx rfl hne (by rw [h1]; rfl))).trans h2, h3, h4⟩
    ·exact .inr ⟨h1, h2⟩
   | row e sz =>
    obtain ⟨n, cs', ho'⟩ := this
    exact ⟨n, cs', ho'.but' hbut fun g hg => hoth j _ g hx rfl hne hg⟩
   | dead => trivial
 ·rcases Zby hx with ⟨e1, e2, _⟩ | ⟨hne, hx2⟩ <;> rcases Zby hy with ⟨e3, e4, _⟩ | ⟨hne2, hy2⟩
  ·rw [e1, e3]
  ·subst e1; exact H.dist j k _ y c hi hy2 rfl ay bx by_
  ·subst e3; exact H.dist j k x _ c hx2 hi ax rfl bx by_
  ·exact H.dist j k x y c hx2 hy2 ax ay bx by_
theorem Hp.writeArr (H : Hp C ρ h σ) {i : Nat} (hU : U i) {t : TypeId} {E : Nat} {kp : Bool} {xs xs' : List (T E)} (hi : h[i]? = some (.arr t E kp xs)) {pre' rest' : List AV} {K : Nat} (hb : ρ i = ab b K) (hc : ∀ N ρ, SVs C N ρ (xs'.flatMap (C.enc E)) pre') (hK : (pre' ++ rest').length = K * C.sz E) (hfl : C.full E = true -> ∃ zs : List (T E), ∀ N' ρ', SVs C N' ρ' (zs.flatMap (C.enc E)) rest') :
 Hp C ρ (h.set i (.arr t E kp xs')) (σ.set b (.own t (pre' ++ rest'))) /\ Rel U ρ h σ ρ (h.set i (.arr t E kp xs')) (σ.set b (.own t (pre' ++ rest'))) := by
 obtain ⟨b0, K', pre0, rest0, e0, hb0, hu0, hmx⟩ : ∃ b0 K' pre0 rest0, ρ i = ab b0 K' /\ σ.blk b0 = some (.own t (pre0 ++ rest0)) /\ σ.used b0 /\ K' <= maxLen := by
  rcases H.it i _ hi with ⟨b0, K', pre0, rest0, e0, hb0, hu0, _, _, hmx, _⟩ | ⟨e0, _⟩
  ·exact ⟨b0, K', pre0, rest0, e0, hb0, hu0, hmx⟩
  ·rw [hb] at e0; cases e0
 rw [hb] at e0
 obtain ⟨hbb, hkk⟩ := Zyn e0.symm
 subst hbb hkk
 have hoth : ∀ j x c, h[j]? = some x -> x.alive = true -> j ≠ i -> (ρ j).owns c -> c ≠ b0 := fun j x c h1 h2 h3 h4 e => by
  subst e
  exact h3 (H.dist j i x _ c h1 hi h2 rfl h4 (by rw [hb]; rfl))
 have hset : ∀ c, c ≠ b0 -> (σ.set b0 (.own t (pre' ++ rest'))).blk c = σ.blk c := fun c hc => by show (if c = b0 then _ else σ.blk c) = _; rw [if_neg hc]
 have hbut : But (fun c => c = b0) σ (σ.set b0 (.own t (pre' ++ rest'))) := ⟨fun c k hc hk => (hset c hc).trans hk, fun c hc => hc⟩
 have hliv : ∀ c, Liv ρ (h.set i (.arr t E kp xs')) c -> Liv ρ h c := fun c ⟨j, x, hx, ax, bx⟩ => by
  rcases Zby hx with ⟨rfl, rfl, _⟩ | ⟨_, hx⟩
  ·exact ⟨j, _, hi, rfl, bx⟩
  ·exact ⟨j, x, hx, ax, bx⟩
 refine ⟨⟨fun j x hx => ?_, fun j k x y c hx hy ax ay bx by_ => ?_⟩, ⟨by simp, fun _ _ => rfl, ⟨fun c k hc hk => hbut.keep c k (fun e => hc ⟨i, _, hU, hi, rfl, by rw [hb, e]; rfl⟩) hk, fun c hc => hc⟩, fun c hc => .inl (hliv c hc)⟩⟩
 ·rw [List.length_set]
  rcases Zby hx with ⟨rfl, rfl, _⟩ | ⟨hne, hx⟩
  ·exact .inl ⟨b0, _, pre', rest', hb, by show (if b0 = b0 then _ else σ.blk b0) = _; rw [if_pos rfl], hu0, hc, hK, hmx, hfl⟩
  ·have := H.it j x hx
   cases x with
   | gen E x => exact C.gsh_but _ _ _ _ _ _ this hbut (fun b' hb' => hoth j _ b' hx rfl hne hb')
   | mmap K V es =>
    obtain ⟨b', h1, h2, h3⟩ := this
    exact ⟨b', h1, (hset b' (hoth j _ b' hx rfl hne (by rw [h1]; rfl))).trans h2, h3⟩
   | obj t' cs' =>
    obtain ⟨b', acs2, h1, h2, h3, h4⟩ := this
    exact ⟨b', acs2, h1, (hset b' (hoth j _ b' hx rfl hne (by rw [h1]; rfl))).trans h2, h3, h4⟩
   | arr e E kp xs =>
    rcases this with ⟨b', K', pre, rest, h1, h2, h3, h4⟩ | ⟨h1, h2⟩
    ·exact .inl ⟨b', K', pre, rest, h1, (hset b' (hoth j _ b' hx rfl hne (by rw [h1]; rfl))).trans h2, h3, h4⟩
    ·exact .inr ⟨h1, h2⟩
   | row e sz =>
    obtain ⟨n, cs', ho'⟩ := this
    exact ⟨n, cs', ho'.but' hbut fun g hg => hoth j _ g hx rfl hne hg⟩
   | dead => trivial
 ·rcases Zby hx with ⟨e1, e2, _⟩ | ⟨hne, hx2⟩ <;> rcases Zby hy with ⟨e3, e4, _⟩ | ⟨hne2, hy2⟩
  ·rw [e1, e3]
  ·subst e1; exact H.dist j k _ y c hi hy2 rfl ay bx by_
  ·subst e3; exact H.dist j k x _ c hx2 hi ax rfl bx by_
  ·exact H.dist j k x y c hx2 hy2 ax ay bx by_
end
end Go.Proofs.YteempnebenjkmaaGreatDoor
namespace Go.Proofs.YteempnebenjkmaaGreatDoor
open Go.RowKit
set_option maxRecDepth 100000
set_option linter.unusedVariables false
variable {T : Nat -> Type}
def XV.ofV1 : Value -> XV T
 | .int k n => .int k n
 | .bool b => .bool b
 | .string s => .str s.data.toList
 | .slice none 0 0 => .nil
 | .pointer none => .nilptr
 | .map none => .nmap
 | _ => .junk
def XV.ofV : Value -> XV T
 | .agg cs => .agg (cs.toList.map XV.ofV1)
 | v => XV.ofV1 v
def XV.cells : XV T -> List (XV T)
 | .agg l => l
 | v => [v]
def XV.isVal : XV T -> Bool
 | .agg l => l.all XV.one
 | v => v.one
def ZkX : List (Nat × XV T) -> Nat -> XV T
 | [], _ => .junk
 | (j, v) :: l, i => bif Nat.beq j i then v else ZkX l i
def xev (env : List (Nat × XV T)) : Operand -> XV T
 | .tmp t => ZkX env t
 | .const v => XV.ofV v
 | .global _ => .junk
 | .func f => .fn f
def XV.force {α : Type} (v : XV T) (k : XV T -> α) : α := match v with
 | .int a b => k (.int a b)
 | .bool b => k (.bool b)
 | .str s => k (.str s)
 | .sl E xs o => k (.sl E xs o)
 | .slx E xs ys => k (.slx E xs ys)
 | .nil => k .nil
 | .ptr i o => k (.ptr i o)
 | .nilptr => k .nilptr
 | .nmap => k .nmap
 | .el E x o => k (.el E x o)
 | .agg l => k (.agg l)
 | .tup l => k (.tup l)
 | .fn f => k (.fn f)
 | .as E i lo n co => k (.as E i lo n co)
 | .ap E i j o => k (.ap E i j o)
 | .clo f ps => k (.clo f ps)
 | .mp E kk tb => k (.mp E kk tb)
 | .mo i => k (.mo i)
 | .gv i c l => k (.gv i c l)
 | .vl l => k (.vl l)
 | .ce l => k (.ce l)
 | .undef => k .undef
 | .junk => k .junk
def ZcN {α : Type} : List (XV T) -> (List (XV T) -> α) -> α
 | [], k => k []
 | v :: l, k => v.force fun v => ZcN l fun l => k (v :: l)
@[simp] theorem ZdU {α : Type} (v : XV T) (k : XV T -> α) : v.force k = k v := by cases v <;> rfl
@[simp] theorem ZbG {α : Type} (l : List (XV T)) (k : List (XV T) -> α) : ZcN l k = k l := by
 induction l generalizing k with
 | nil => rfl
 | cons v l ih => simp [ZcN, ih]
section
variable {C : ZaA T} {N : Nat} {ρ : Nat -> AV} {a : AV} {as_ : List AV}
theorem Zaw {k : IntKind} {n : Int} : SV C N ρ (.int k n) a ↔ a = .raw (.int k n) := ⟨fun h => by cases h; rfl, fun h => by subst h; exact .int _ _ .none⟩
theorem Za7 {b : Bool} : SV C N ρ (.bool b) a ↔ a = .raw (.bool b) := ⟨fun h => by cases h; rfl, fun h => by subst h; exact .bool _ .none⟩
theorem ZgH {s : List UInt8} : SV C N ρ (.str s) a ↔ a = .raw (.string ⟨s.toArray⟩) := ⟨fun h => by cases h; rfl, fun h => by subst h; exact .str _ .none⟩
theorem Zek : SV C N ρ .nil a ↔ a = .lst none 0 0 [] := ⟨fun h => by cases h; rfl, fun h => by subst h; exact .nil .none⟩
theorem ZbU : SV C N ρ .nilptr a ↔ a = .raw (.pointer none) := ⟨fun h => by cases h; rfl, fun h => by subst h; exact .nilptr .none⟩
theorem Zjt : SV C N ρ .nmap a ↔ a = .raw (.map none) := ⟨fun h => by cases h; rfl, fun h => by subst h; exact .nmap .none⟩
theorem Zju {f : Nat} : SV C N ρ (.fn f) a ↔ a = .raw (.func (.func f) #[] #[]) := ⟨fun h => by cases h; rfl, fun h => by subst h; exact .fn f .none⟩
theorem ZbQ {E i lo n : Nat} {co : Option Nat} : SV C N ρ (.as E i lo n co) a ↔ (∃ ad c, a = .raw (.slice (some ad) n c) /\ ZA4 (C.sz E) N ρ i lo n co ad c) \/ (a = .lst none 0 0 [] /\ n = 0 /\ i < N /\ ρ i = .lst none 0 0 [] /\ ∀ c', co = some c' -> c' = 0) := by
 constructor
 ·intro h
  cases h with
  | as _ _ _ _ _ ad c h1 _ => exact .inl ⟨ad, c, rfl, h1⟩
  | asn _ _ _ _ h1 h2 h3 _ => exact .inr ⟨rfl, rfl, h1, h2, h3⟩
 ·rintro (⟨ad, c, rfl, h⟩ | ⟨rfl, rfl, h1, h2, h3⟩)
  ·exact .as E i lo n co ad c h .none
  ·exact .asn E i lo co h1 h2 h3 .none
theorem Zo1 {E i k o : Nat} : SV C N ρ (.ap E i k o) a ↔ ∃ b, a = ptr b (k * C.sz E + o) /\ i < N /\ ∃ K, ρ i = ab b K /\ k < K := ⟨fun h => by cases h; exact ⟨_, rfl, ‹_›, _, ‹_›⟩, fun ⟨b, e, h1, K, h2⟩ => by subst e; exact .ap E i k o b K h1 h2 .none⟩
theorem Ziz {f : Nat} {ps : List Nat} : SV C N ρ (.clo f ps) a ↔ ∃ bs, a = .raw (ZDy f bs) /\ Ze6 N ρ ps bs := ⟨fun h => by cases h; exact ⟨_, rfl, ‹_›⟩, fun ⟨bs, e, h⟩ => by subst e; exact .clo f ps bs h .none⟩
theorem ZiA : SV C N ρ .undef a ↔ a = .raw Go.undef := ⟨fun h => by cases h; rfl, fun h => by subst h; exact .undef .none⟩
theorem ZbV : SV C N ρ .junk a := .junk a .none
theorem ZcE {l : List (XV T)} : SV C N ρ (.agg l) a ↔ ∃ ls, a = .agg ls /\ SVs C N ρ l ls := ⟨fun h => by cases h; exact ⟨_, rfl, ‹_›⟩, fun ⟨ls, e, h⟩ => by subst e; exact .agg l ls h .none⟩
theorem Ze7 {l : List (XV T)} : SV C N ρ (.tup l) a ↔ ∃ ls, a = .tup ls /\ SVs C N ρ l ls := ⟨fun h => by cases h; exact ⟨_, rfl, ‹_›⟩, fun ⟨ls, e, h⟩ => by subst e; exact .tup l ls h .none⟩
theorem Zdp {i o : Nat} : SV C N ρ (.ptr i o) a ↔ ∃ b, a = ptr b o /\ i < N /\ ρ i = ptr b 0 := ⟨fun h => by cases h; exact ⟨_, rfl, ‹_›, ‹_›⟩, fun ⟨b, e, h1, h2⟩ => by subst e; exact .ptr i o b h1 h2 .none⟩
theorem Zqx {i : Nat} : SV C N ρ (.mo i) a ↔ ∃ b, a = ZgG b /\ i < N /\ ρ i = ZgG b := ⟨fun h => by cases h; exact ⟨_, rfl, ‹_›, ‹_›⟩, fun ⟨b, e, h1, h2⟩ => by subst e; exact .mo i b h1 h2 .none⟩
theorem Zqy {i c : Nat} {l : List Nat} : SV C N ρ (.gv i c l) a ↔ i < N /\ C.gsv c l (ρ i) a := ⟨fun h => by cases h; exact ⟨‹_›, ‹_›⟩, fun ⟨h1, h2⟩ => .gv i c l a h1 h2 .none⟩
theorem Zo2 {E o : Nat} {x : T E} : SV C N ρ (.el E x o) a ↔ ∃ ad cs rest, a = .eptr ad (cs ++ rest) /\ SVs C N ρ ((C.enc E x).drop o) cs := ⟨fun h => by cases h; exact ⟨_, _, _, rfl, ‹_›⟩, fun ⟨ad, cs, rest, e, h⟩ => by subst e; exact .el E x o ad cs rest h .none⟩
theorem Zuj {l : List (XV T)} : SV C N ρ (.vl l) a ↔ ∃ A c ls rest, a = .lst A l.length c (ls ++ rest) /\ l.length <= c /\ c <= maxLen /\ l.length <= 140737488355328 /\ (A = none -> l.length = 0 /\ c = 0) /\ SVs C N ρ l ls :=
 ⟨fun h => by cases h; exact ⟨_, _, _, _, rfl, ‹_›, ‹_›, ‹_›, ‹_›, ‹_›⟩, fun ⟨A, c, ls, rest, e, h1, h2, h3, h4, h5⟩ => by subst e; exact .vl l A c ls rest h1 h2 h3 h4 h5 .none⟩
theorem ZsU {l : List (XV T)} : SV C N ρ (.ce l) a ↔ ∃ ad ls rest, a = .eptr ad (ls ++ rest) /\ SVs C N ρ l ls := ⟨fun h => by cases h; exact ⟨_, _, _, rfl, ‹_›⟩, fun ⟨ad, ls, rest, e, h⟩ => by subst e; exact .ce l ad ls rest h .none⟩
theorem Zb8 {E : Nat} {xs : List (T E)} : SV C N ρ (.sl E xs none) a ↔ ∃ A c cs rest, a = .lst A xs.length c (cs ++ rest) /\ xs.length <= c /\ c <= maxLen /\ xs.length <= 140737488355328 /\ (A = none -> xs.length = 0 /\ c = 0) /\ SVs C N ρ (xs.flatMap (C.enc E)) cs :=
 ⟨fun h => by cases h; exact ⟨_, _, _, _, rfl, ‹_›, ‹_›, ‹_›, ‹_›, ‹_›⟩, fun ⟨A, c, cs, rest, e, h1, h2, h3, h4, h5⟩ => by subst e; exact .sl E xs A c cs rest h1 h2 h3 h4 h5 .none⟩
theorem Zo3 {E : Nat} {xs ys : List (T E)} : SV C N ρ (.slx E xs ys) a ↔ ∃ A c cs rest, a = .lst A xs.length c (cs ++ rest) /\ xs.length + ys.length <= c /\ c <= maxLen /\ xs.length + ys.length <= 140737488355328 /\ (A = none -> xs.length + ys.length = 0 /\ c = 0) /\ SVs C N ρ ((xs ++ ys).flatMap (C.enc E)) cs :=
 ⟨fun h => by cases h; exact ⟨_, _, _, _, rfl, ‹_›, ‹_›, ‹_›, ‹_›, ‹_›⟩, fun ⟨A, c, cs, rest, e, h1, h2, h3, h4, h5⟩ => by subst e; exact .slx E xs ys A c cs rest h1 h2 h3 h4 h5 .none⟩
theorem ZfK {E r : Nat} {xs : List (T E)} : SV C N ρ (.sl E xs (some r)) a ↔ a = ρ r /\ r < N /\ SV C N ρ (.sl E xs none) a := ⟨fun h => by cases h; exact ⟨rfl, ‹_›, ‹_›⟩, fun ⟨e, h1, h2⟩ => by subst e; exact .own E xs r h1 h2⟩
theorem Zfp {E : Nat} {xs : List (T E)} {o : Option Nat} (h : SV C N ρ (.sl E xs o) a) : ∃ A c cs rest, a = .lst A xs.length c (cs ++ rest) /\ xs.length <= c /\ c <= maxLen /\ xs.length <= 140737488355328 /\ (A = none -> xs.length = 0 /\ c = 0) /\ SVs C N ρ (xs.flatMap (C.enc E)) cs := by
 cases o with
 | none => exact Zb8.1 h
 | some r => exact Zb8.1 (ZfK.1 h).2.2
theorem ZeG {x : XV T} : SVs C N ρ [x] as_ ↔ ∃ a, as_ = [a] /\ SV C N ρ x a := ⟨fun h => by obtain ⟨a, bs, rfl, h1, h2⟩ := h.to; rw [ZbA] at h2; subst h2; exact ⟨a, rfl, h1⟩, fun ⟨a, e, h⟩ => by subst e; exact h⟩
theorem Zig {x y : XV T} : SVs C N ρ [x, y] as_ ↔ ∃ a b, as_ = [a, b] /\ SV C N ρ x a /\ SV C N ρ y b := ⟨fun h => by
 obtain ⟨a, bs, rfl, h1, h2⟩ := h.to
 obtain ⟨b, rfl, h3⟩ := ZeG.1 h2
 exact ⟨a, b, rfl, h1, h3⟩, fun ⟨a, b, e, h1, h2⟩ => by subst e; exact .cons h1 h2⟩
theorem ZDP {x y z : XV T} : SVs C N ρ [x, y, z] as_ ↔ ∃ a b c, as_ = [a, b, c] /\ SV C N ρ x a /\ SV C N ρ y b /\ SV C N ρ z c := ⟨fun h => by
 obtain ⟨a, bs, rfl, h1, h2⟩ := h.to
 obtain ⟨b, c, rfl, h3, h4⟩ := Zig.1 h2
 exact ⟨a, b, c, rfl, h1, h3, h4⟩, fun ⟨a, b, c, e, h1, h2, h3⟩ => by subst e; exact .cons h1 (.cons h2 h3)⟩
theorem Zqz (v : Value) : SV C N ρ (XV.ofV1 v) (AV.ofV1 v) := by
 unfold XV.ofV1
 split
 ·exact Zaw.2 rfl
 ·exact Za7.2 rfl
 ·exact ZgH.2 (by simp [AV.ofV1])
 ·exact Zek.2 rfl
 ·exact ZbU.2 rfl
 ·exact Zjt.2 rfl
 ·exact ZbV
theorem Zrz (l : List Value) : SVs C N ρ (l.map XV.ofV1) (l.map AV.ofV1) := by
 induction l with
 | nil => exact .none
 | cons v l ih => exact .cons (Zqz v) ih
theorem Zyo (v : Value) : SV C N ρ (XV.ofV v) (AV.ofV v) := by
 cases v with
 | agg cs => exact ZcE.2 ⟨_, rfl, Zrz _⟩
 | _ => unfold XV.ofV AV.ofV; dsimp only; exact Zqz _
theorem ZnJ {v : XV T} (h : SV C N ρ v a) (hv : v.isVal = true) : SVs C N ρ v.cells a.cells := by
 cases v with
 | agg l => obtain ⟨ls, rfl, h1⟩ := ZcE.1 h; exact h1
 | int k n => rw [Zaw.1 h]; exact Zaw.2 rfl
 | bool b => rw [Za7.1 h]; exact Za7.2 rfl
 | str s => rw [ZgH.1 h]; exact ZgH.2 rfl
 | nil => rw [Zek.1 h]; exact Zek.2 rfl
 | nilptr => rw [ZbU.1 h]; exact ZbU.2 rfl
 | nmap => rw [Zjt.1 h]; exact Zjt.2 rfl
 | fn f => rw [Zju.1 h]; exact Zju.2 rfl
 | ptr i o => obtain ⟨b, rfl, h1⟩ := Zdp.1 h; exact Zdp.2 ⟨b, rfl, h1⟩
 | mo i => obtain ⟨b, rfl, h1⟩ := Zqx.1 h; exact Zqx.2 ⟨b, rfl, h1⟩
 | gv i c l =>
  rcases C.gsv_one _ _ _ _ (Zqy.1 h).2 with ⟨u, rfl, h3⟩ | ⟨_, _, _, _, rfl⟩
  ·have h4 : (AV.raw u).cells = [.raw u] := by cases u <;> first | rfl | cases h3
   rw [h4]; exact h
  ·exact h
 | sl E xs o => obtain ⟨A, c, cs, rest, rfl, _⟩ := Zfp h; exact h
 | slx E xs ys => obtain ⟨A, c, cs, rest, rfl, _⟩ := Zo3.1 h; exact h
 | as E i lo n co => rcases ZbQ.1 h with ⟨ad, c, rfl, h1⟩ | ⟨rfl, _⟩ <;> exact h
 | clo f ps => obtain ⟨bs, rfl, h1⟩ := Ziz.1 h; exact Ziz.2 ⟨bs, rfl, h1⟩
 | _ => simp [XV.isVal, XV.one] at hv
theorem Zuk {v : XV T} (hv : v.isVal = true) : ∀ x ∈ v.cells, x.one = true := by
 unfold XV.isVal at hv
 unfold XV.cells
 split at hv
 ·exact List.all_eq_true.1 hv
 ·intro x hx
  cases v with
  | agg l => simp_all
  | _ => simp at hx; subst hx; exact hv
theorem Zki {v : XV T} (h : SV C N ρ v a) (hv : v.isVal = true) : Zb4 a = true := by
 cases v with
 | agg l => obtain ⟨ls, rfl, h1⟩ := ZcE.1 h; rfl
 | int k n => rw [Zaw.1 h]; rfl
 | bool b => rw [Za7.1 h]; rfl
 | str s => rw [ZgH.1 h]; rfl
 | nil => rw [Zek.1 h]; rfl
 | nilptr => rw [ZbU.1 h]; rfl
 | nmap => rw [Zjt.1 h]; rfl
 | fn f => rw [Zju.1 h]; rfl
 | ptr i o => obtain ⟨b, rfl, h1⟩ := Zdp.1 h; rfl
 | mo i => obtain ⟨b, rfl, h1⟩ := Zqx.1 h; rfl
 | gv i c l => rcases C.gsv_one _ _ _ _ (Zqy.1 h).2 with ⟨u, rfl, h3⟩ | ⟨_, _, _, _, rfl⟩ <;> rfl
 | sl E xs o => obtain ⟨A, c, cs, rest, rfl, _⟩ := Zfp h; rfl
 | slx E xs ys => obtain ⟨A, c, cs, rest, rfl, _⟩ := Zo3.1 h; rfl
 | as E i lo n co => rcases ZbQ.1 h with ⟨ad, c, rfl, h1⟩ | ⟨rfl, _⟩ <;> rfl
 | clo f ps => obtain ⟨bs, rfl, h1⟩ := Ziz.1 h; rfl
 | _ => simp [XV.isVal, XV.one] at hv
theorem SVs.ones {vs : List (XV T)} (h : SVs C N ρ vs as_) (ho : ∀ x ∈ vs, x.one = true) : ∀ a ∈ as_, a.one = true := by
 induction vs generalizing as_ with
 | nil => rw [ZbA.1 h]; simp
 | cons v vs ih =>
  obtain ⟨a, bs, rfl, h1, h2⟩ := h.to
  intro x hx
  rcases List.mem_cons.1 hx with rfl | hx
  ·exact SVs.one h1 (ho v (List.mem_cons_self))
  ·exact ih h2 (fun y hy => ho y (List.mem_cons_of_mem _ hy)) x hx
theorem Zew {v : XV T} (h : v.closed = true) : v.one = true := by cases v <;> simp_all [XV.closed, XV.one]
end
def ZmF (C : ZaA T) (P : Program) (U : Nat -> Prop) (o : Oper) (vs : List (XV T)) (h : List (HI T)) (r : XV T) (h' : List (HI T)) : Prop :=
 ∀ ρ σ as_, SVs C h.length ρ vs as_ -> Hp C ρ h σ -> ZdL P o as_ σ fun rv τ => ∃ ρ', SV C h'.length ρ' r rv /\ Hp C ρ' h' τ /\ Rel U ρ h σ ρ' h' τ
def Tr (C : ZaA T) (P : Program) (U : Nat -> Prop) (f : FuncId) (args : List (XV T)) (h : List (HI T)) (r : XV T) (h' : List (HI T)) : Prop :=
 ∀ ρ σ vs, SVs C h.length ρ args vs -> Hp C ρ h σ -> Zal P f vs σ fun rv τ => ∃ ρ', SV C h'.length ρ' r rv /\ Hp C ρ' h' τ /\ Rel U ρ h σ ρ' h' τ
section
variable {C : ZaA T} {P : Program} {o : Oper} {vs : List (XV T)} {h : List (HI T)} {r : XV T}
theorem ZmF.same {U : Nat -> Prop} (k : ∀ (ρ : Nat -> AV) (σ : St) (as_ : List AV) (K : AV -> St -> Prop), SVs C h.length ρ vs as_ -> Hp C ρ h σ -> (∀ rv, SV C h.length ρ r rv -> K rv σ) -> ZdL P o as_ σ K) : ZmF C P U o vs h r h :=
 fun ρ σ as_ hv H => k ρ σ as_ _ hv H fun rv hr => ⟨ρ, hr, H, .refl _ _ _ _⟩
end
end Go.Proofs.YteempnebenjkmaaGreatDoor
namespace Go.Proofs.YteempnebenjkmaaGreatDoor
open Go.RowKit
set_option maxRecDepth 100000
set_option linter.unusedVariables false
variable {T : Nat -> Type} {A : Type}
def ZCD (op : BinOp) (ka : IntKind) (a : Int) (kb : IntKind) (b : Int) (k : XV T -> Option A) : Option A := match op with
 | .shl => if b < 0 then none else k (.int ka (ka.wrap (a * 2 ^ min b.toNat ka.bits)))
 | .shr => if b < 0 then none else k (.int ka (a.fdiv (2 ^ min b.toNat ka.bits)))
 | op => if ka = kb then match op with
  | .add => k (.int ka (ka.wrap (a + b)))
  | .sub => k (.int ka (ka.wrap (a - b)))
  | .mul => k (.int ka (ka.wrap (a * b)))
  | .and => k (.int ka (ka.wrap (BitVec.ofInt ka.bits a &&& BitVec.ofInt ka.bits b).toNat))
  | .or => k (.int ka (ka.wrap (BitVec.ofInt ka.bits a ||| BitVec.ofInt ka.bits b).toNat))
  | .eql => k (.bool (decide (a = b)))
  | .neq => k (.bool (decide (a ≠ b)))
  | .lss => k (.bool (decide (a < b)))
  | .leq => k (.bool (decide (a <= b)))
  | .gtr => k (.bool (decide (b < a)))
  | .geq => k (.bool (decide (b <= a)))
  | _ => none
  else none
def Zul (P : Program) (t : TypeId) : Bool := match P.underlying t with
 | some .bool => true
 | _ => false
def ZrA (P : Program) (t : TypeId) : Bool := match P.underlying t with
 | some (.pointer e) => Nat.beq e (P.pointee t)
 | _ => false
def ZCE : List SK -> List (XV T) -> Bool
 | [], [] => true
 | .i k :: ks, .int k' _ :: l => decide (k = k') && ZCE ks l
 | .b :: ks, .bool _ :: l => ZCE ks l
 | .s :: ks, .str _ :: l => ZCE ks l
 | _, _ => false
def ZCi (P : Program) (op : BinOp) (t : TypeId) (x y : XV T) (k : XV T -> Option A) : Option A := match x, y with
 | .int ka a, .int kb b => ZCD op ka a kb b k
 | .bool a, .bool b => if Zul P t = true then match op with
  | .eql => k (.bool (decide (a = b)))
  | .neq => k (.bool (decide (a ≠ b)))
  | _ => none
  else none
 | .ptr _ _, .nilptr => if ZrA P t = true then match op with
  | .eql => k (.bool false)
  | .neq => k (.bool true)
  | _ => none
  else none
 | .nilptr, .nilptr => if ZrA P t = true then match op with
  | .eql => k (.bool true)
  | .neq => k (.bool false)
  | _ => none
  else none
 | _, _ => none
def Zyp (P : Program) (op : BinOp) (t : TypeId) (a b v : Value) : Prop := ∀ (w : World) (x y : Operand), (do eqGuard op t x y a b; binOp op t a b : Sem Value).run P w = .ok v w
section
variable {P : Program} {op : BinOp} {t : TypeId} {ka kb : IntKind} {a b : Int} {k : XV T -> Option A} {z : A}
theorem ZsV (h : ZCD op ka a kb b k = some z) : ∃ r : XV T, k r = some z /\ ∃ v, Zyp P op t (.int ka a) (.int kb b) v /\ ∀ (C : ZaA T) N ρ, SV C N ρ r (.raw v) := by
 unfold ZCD at h
 cases op
 case shl =>
  simp only at h; split at h
  ·cases h
  ·exact ⟨_, h, .int ka (ka.wrap (a * 2 ^ min b.toNat ka.bits)), fun w x y => by rw [eqGuard_at_int, pure_bind, binOp_shl]; unfold Op.shift; rw [if_neg ‹_›]; rfl, fun C N ρ => Zaw.2 rfl⟩
 case shr =>
  simp only at h; split at h
  ·cases h
  ·exact ⟨_, h, .int ka (a.fdiv (2 ^ min b.toNat ka.bits)), fun w x y => by rw [eqGuard_at_int, pure_bind, binOp_shr]; unfold Op.shift; rw [if_neg ‹_›]; rfl, fun C N ρ => Zaw.2 rfl⟩
 case neq =>
  simp only at h
  split at h
  ·rename_i e; subst e
   exact ⟨_, h, .bool (decide (a ≠ b)), fun w x y => by simp [eqGuard_at_int, binOp, Op.intCmp]; rfl, fun C N ρ => Za7.2 rfl⟩
  ·cases h
 all_goals
  simp only at h
  split at h
  ·rename_i e; subst e
   first
    | (cases h; done)
    | exact ⟨_, h, _, fun w x y => by simp [eqGuard_at_int, binOp, Op.intArith, Op.intCmp, Op.intBits]; try rfl, fun C N ρ => by first | exact Zaw.2 rfl | exact Za7.2 rfl⟩
  ·cases h
theorem ZiB : ∀ (x y : List UInt8), Op.bytesLess x y = decide (x < y)
 | [], [] => by simp [Op.bytesLess]
 | _ :: _, [] => by simp [Op.bytesLess]
 | [], _ :: _ => by simp [Op.bytesLess]
 | a :: x, b :: y => by
  rw [Op.bytesLess, ZiB x y]
  simp only [List.cons_lt_cons_iff]
  by_cases h1 : a < b <;> by_cases h2 : a = b <;> by_cases h3 : x < y <;> simp [h1, h2, h3]
theorem ZrB (a b : List UInt8) : (a == b) = decide (a = b) := by by_cases h : a = b <;> simp [h]
theorem Zlo (l : List UInt8) : (ByteArray.mk l.toArray).toList = l := by rw [ByteArray.toList_eq]
theorem Zy3 (a b : Bool) : (a == b) = decide (a = b) := by cases a <;> cases b <;> rfl
theorem Zy4 (a b : Bool) : (!(a == b)) = decide (a ≠ b) := by cases a <;> cases b <;> rfl
theorem ZsW {x y : XV T} (h : ZCi P op t x y k = some z) : ∃ r, k r = some z /\ ∀ (C : ZaA T) N ρ a b, SV C N ρ x a -> SV C N ρ y b -> ∃ v, Zyp P op t a.val b.val v /\ SV C N ρ r (.raw v) := by
 unfold ZCi at h
 split at h
 ·obtain ⟨r, h1, v, h2, h3⟩ := ZsV (P := P) (t := t) h
  exact ⟨r, h1, fun C N ρ a b ha hb => by rw [Zaw.1 ha, Zaw.1 hb]; exact ⟨v, by simpa using h2, h3 C N ρ⟩⟩
 ·split at h
  ·rename_i hT
   have ht : P.underlying t = some .bool := by unfold Zul at hT; split at hT <;> simp_all
   cases op
   all_goals
    simp only at h
    first
     | (cases h; done)
     | exact ⟨_, h, fun C N ρ a b ha hb => by
      rw [Za7.1 ha, Za7.1 hb]
      exact ⟨_, fun w x y => by simp only [AV.val_raw, eqGuard_at_bool, pure_bind, binOp]; simp [Zie ht]; rfl, Za7.2 (by first | exact congrArg (fun c => AV.raw (Value.bool c)) (Zy4 _ _) | exact congrArg (fun c => AV.raw (Value.bool c)) (Zy3 _ _))⟩⟩
  ·cases h
 ·split at h
  ·rename_i hT
   have ht : P.underlying t = some (.pointer (P.pointee t)) := by
    unfold ZrA at hT; split at hT
    ·rename_i e he; rw [he, Nat.eq_of_beq_eq_true hT]
    ·cases hT
   cases op
   all_goals
    simp only at h
    first
     | (cases h; done)
     | exact ⟨_, h, fun C N ρ a b ha hb => by
      obtain ⟨q, rfl, _⟩ := Zdp.1 ha
      rw [ZbU.1 hb]
      exact ⟨_, fun w x y => by simp [ptr, eqGuard_at_pointer, run_eql_pointer_nil w t _ ht, run_neq_pointer_nil w t _ ht], Za7.2 rfl⟩⟩
  ·cases h
 ·split at h
  ·rename_i hT
   have ht : P.underlying t = some (.pointer (P.pointee t)) := by
    unfold ZrA at hT; split at hT
    ·rename_i e he; rw [he, Nat.eq_of_beq_eq_true hT]
    ·cases hT
   cases op
   all_goals
    simp only at h
    first
     | (cases h; done)
     | exact ⟨_, h, fun C N ρ a b ha hb => by
      rw [ZbU.1 ha, ZbU.1 hb]
      exact ⟨_, fun w x y => by simp [eqGuard_at_pointer, run_eql_pointer_nil w t _ ht, run_neq_pointer_nil w t _ ht], Za7.2 rfl⟩⟩
  ·cases h
 ·cases h
end
end Go.Proofs.YteempnebenjkmaaGreatDoor
namespace Go.Proofs.YteempnebenjkmaaGreatDoor
open Go.RowKit
set_option linter.unusedSimpArgs false
set_option maxRecDepth 100000
set_option linter.unusedVariables false
variable {T : Nat -> Type} {A : Type}
def Zce {α : Type} : List (HI T) -> (List (HI T) -> α) -> α
 | [], k => k []
 | .obj t cs :: l, k => Zce l fun l => k (.obj t cs :: l)
 | .row e sz :: l, k => Zce l fun l => k (.row e sz :: l)
 | .arr e E kp xs :: l, k => Zce l fun l => k (.arr e E kp xs :: l)
 | .mmap K V es :: l, k => Zce l fun l => k (.mmap K V es :: l)
 | .gen E x :: l, k => Zce l fun l => k (.gen E x :: l)
 | .dead :: l, k => Zce l fun l => k (.dead :: l)
@[simp] theorem Zbr {α : Type} (l : List (HI T)) (k : List (HI T) -> α) : Zce l k = k l := by
 induction l generalizing k with
 | nil => rfl
 | cons v l ih => cases v <;> simp [Zce, ih]
def Ze1 {α : Type} (xs : List α) (n : Int) : Option α := if 0 <= n then xs[n.toNat]? else none
def Zdq (t : Option Bool) (n : Option Nat) (cells : List (XV T)) (o : Nat) (k : XV T -> Option A) : Option A := match t, n with
 | some true, some n => if o + n <= cells.length then ZcN ((cells.drop o).take n) fun l => k (.agg l) else none
 | some false, some _ => match cells[o]? with
  | some v => v.force k
  | none => none
 | _, _ => none
def Zlp (cs : List (XV T)) (o : Nat) (xs : List (XV T)) : List (XV T) := cs.take o ++ xs ++ cs.drop (o + xs.length)
def Zlq (place : Nat -> Option (Nat × Nat)) (cells : List (XV T)) : List (Nat × XV T) -> Option (List (XV T))
 | [] => some cells
 | (i, v) :: rest => match place i with
  | none => none
  | some (off, size) => if v.isVal = true /\ v.cells.length = size /\ off + v.cells.length <= cells.length then ZcN (Zlp cells off v.cells) fun cells => Zlq place cells rest else none
def Zy5 (C : ZaA T) (E : Nat) : Nat -> List (XV T) -> (List (T E) -> Option A) -> Option A
 | 0, [], k => k []
 | 0, _ :: _, _ => none
 | n + 1, l, k => (C.dec E (l.take (C.sz E))).bind fun x => Zy5 C E n (l.drop (C.sz E)) fun xs => k (x :: xs)
def ZqA (n : Int) : Bool -> Bool -> List (XV T) -> Option (Int × Int)
 | false, false, [] => some (0, n)
 | true, false, [.int _ a] => some (a, n)
 | false, true, [.int _ b] => some (0, b)
 | true, true, [.int _ a, .int _ b] => some (a, b)
 | _, _, _ => none
def Zum (C : ZaA T) (P : Program) (t : TypeId) (lo hi : Bool) (x : XV T) (ix : List (XV T)) (k : XV T -> Option A) : Option A := match x with
 | .sl E xs _ => match Zar P t with
  | some e => match Zav P e with
   | some sz => if Nat.beq sz (C.sz E) = true then match ZqA (T := T) xs.length lo hi ix with
    | some (l, u) => if 0 <= l /\ l <= u /\ u <= xs.length then k (.sl E ((xs.drop l.toNat).take (u.toNat - l.toNat)) none) else none
    | none => none
    else none
   | none => none
  | none => none
 | .slx E xs ys => match Zar P t with
  | some e => match Zav P e with
   | some sz => if Nat.beq sz (C.sz E) = true then match ZqA (T := T) xs.length lo hi ix with
    | some (l, u) => if 0 <= l /\ l <= u /\ u <= (xs ++ ys).length then k (.sl E (((xs ++ ys).drop l.toNat).take (u.toNat - l.toNat)) none) else none
    | none => none
    else none
   | none => none
  | none => none
 | _ => none
def ZrC : Bool -> List (XV T) -> Option (Int × Int × Int)
 | false, [.int _ b, .int _ m] => some (0, b, m)
 | true, [.int _ a, .int _ b, .int _ m] => some (a, b, m)
 | _, _ => none
def ZqB (C : ZaA T) (P : Program) (t : TypeId) (lo : Bool) (x : XV T) (ix : List (XV T)) (k : XV T -> Option A) : Option A := match x with
 | .sl E xs _ => match Zar P t with
  | some e => match Zav P e with
   | some sz => if Nat.beq sz (C.sz E) = true then match ZrC (T := T) lo ix with
    | some (l, u, m) => if 0 <= l /\ l <= u /\ u <= m /\ m <= xs.length then k (.sl E ((xs.drop l.toNat).take (u.toNat - l.toNat)) none) else none
    | none => none
    else none
   | none => none
  | none => none
 | _ => none
def ZCF (C : ZaA T) (P : Program) (t : TypeId) (lo hi : Bool) (x : XV T) (ix : List (XV T)) (k : XV T -> Option A) : Option A := match x with
 | .as E i a n co => match Zar P t with
  | some e => match Zav P e with
   | some sz => if Nat.beq sz (C.sz E) = true then match ZqA (T := T) n lo hi ix with
    | some (l, u) => if 0 <= l /\ l <= u /\ u <= ((co.getD n : Nat) : Int) /\ u <= 140737488355328 then k (.as E i (a + l.toNat) (u.toNat - l.toNat) (co.map (· - l.toNat))) else none
    | none => none
    else none
   | none => none
  | none => none
 | _ => none
def Zy6 (C : ZaA T) (P : Program) (t : TypeId) (lo : Bool) (E n : Nat) (co : Option Nat) (ix : List (XV T)) (k : XV T -> Option A) : Option A := match Zar P t with
 | some e => match Zav P e with
  | some sz => if Nat.beq sz (C.sz E) = true then match ZrC (T := T) lo ix with
   | some (l, u, m) => if 0 <= l /\ l <= u /\ u <= m /\ m <= ((co.getD n : Nat) : Int) then k .junk else none
   | none => none
   else none
  | none => none
 | none => none
def ZCG : List (XV T) -> Option (List Nat)
 | [] => some []
 | .ptr i 0 :: l => (ZCG l).bind fun ps => some (i :: ps)
 | _ :: _ => none
def ZqC (C : ZaA T) (P : Program) (t : TypeId) (x y : XV T) (h : List (HI T)) (k : XV T -> List (HI T) -> Option A) : Option A := match Zar P t with
 | none => none
 | some e => match Zav P e, ZaS P e, Zb5 P e with
  | some sz, some z, some by_ => if Nat.beq z.cells.size sz = true then match x, y with
   | .nil, .sl E ys _ => if Nat.beq sz (C.sz E) = true then
    if ys.length <= 140737488355328 /\ ys.length * by_ <= 140737488355328 then Zce (h ++ [.row e sz]) fun h' => k (.sl E ys (some h.length)) h' else none
    else none
   | .sl E xs (some r), .sl E' ys _ => if he : E' = E then match h[r]? with
    | some (.row e' sz') => if Nat.beq e' e = true /\ Nat.beq sz' sz = true /\ Nat.beq sz (C.sz E) = true then
     if xs.length + ys.length <= 140737488355328 /\ (xs.length + ys.length) * by_ <= 140737488355328 then Zce (h.set r .dead ++ [.row e sz]) fun h' => k (.sl E (xs ++ he ▸ ys) (some h.length)) h' else none
     else none
    | _ => none
    else none
   | _, _ => none
   else none
  | _, _, _ => none
def ZAz (C : ZaA T) (E : Nat) (h : List (HI T)) (v : XV T) (k : List (T E) -> Option A) : Option A := match v with
 | .nil => k []
 | .sl E' ys _ => if hE : E' = E then k (hE ▸ ys) else none
 | .as E' j lo m _ => match h[j]? with
  | some (.arr _ E2 _ xs) => if hE : E2 = E then if Nat.beq E' E = true then if lo + m <= xs.length then k (((hE ▸ xs : List (T E)).drop lo).take m) else none else none else none
  | _ => none
 | _ => none
def Zun (C : ZaA T) (E sz : Nat) (z : Value) (k : T E -> Option A) : Option A := (C.dec E ((List.range sz).map fun i => .ofV (z.cells[i % sz]!))).bind k
def Zm7 (C : ZaA T) (E sz : Nat) (z : Value) : Bool := !C.full E || (C.dec E ((List.range sz).map fun i => .ofV (z.cells[i % sz]!))).isSome
def ZCH (C : ZaA T) (P : Program) (t : TypeId) (x y : XV T) (h : List (HI T)) (k : XV T -> List (HI T) -> Option A) : Option A := match Zar P t with
 | none => none
 | some e => match Zav P e, ZaS P e, Zb5 P e with
  | some sz, some z, some by_ => if Nat.beq z.cells.size sz = true then match x with
   | .as E i lo n co => match h[i]? with
    | some (.arr e' E' kp xs) => if (Nat.beq E E' && Nat.beq e' e && Nat.beq sz (C.sz E') && Zm7 C E' sz z) = true then ZAz C E' h y fun ys =>
     if n + ys.length <= 140737488355328 /\ (n + ys.length) * by_ <= 140737488355328 /\ lo + n <= xs.length then match co with
      | some c => if n + ys.length <= c then Zce (h.set i (.arr e' E' kp (xs.take (lo + n) ++ ys ++ xs.drop (lo + n + ys.length)))) fun h' => k (.as E' i lo (n + ys.length) (some c)) h'
       else Zce (h ++ [.arr e' E' kp ((xs.drop lo).take n ++ ys)]) fun h' => k (.as E' h.length 0 (n + ys.length) none) h'
      | none => if Nat.beq lo 0 = true then Zce (h.set i .dead ++ [.arr e' E' kp (xs.take n ++ ys)]) fun h' => k (.as E' h.length 0 (n + ys.length) none) h' else none
     else none
     else none
    | _ => none
   | .nil => match y with
    | .sl E ys _ => if (Nat.beq sz (C.sz E) && Zm7 C E sz z) = true then
     if ys.length <= 140737488355328 /\ ys.length * by_ <= 140737488355328 then Zce (h ++ [.arr e E false ys]) fun h' => k (.as E h.length 0 ys.length none) h' else none
     else none
    | _ => none
   | _ => none
   else none
  | _, _, _ => none
def Zuo (C : ZaA T) : XV T -> XV T -> Bool
 | .as _ _ _ _ _, _ => true
 | .nil, .sl E _ _ => C.arrm E
 | _, _ => false
def ZD0 (C : ZaA T) (P : Program) (t tn : TypeId) (x y : XV T) (h : List (HI T)) (k : XV T -> List (HI T) -> Option A) : Option A := match Zar P t, P.underlying tn with
 | some e, some (.int _) => match Zav P e, ZaS P e, Zb5 P e with
  | some sz, some z, some by_ => if Nat.beq z.cells.size sz = true then match x, y with
   | .as E i lo n (some c), .int _ m => match h[i]? with
    | some (.arr e' E' kp xs) => if (Nat.beq E E' && Nat.beq e' e && Nat.beq sz (C.sz E') && Zm7 C E' sz z) = true then
     if (c : Int) < n + m /\ (n : Int) <= c /\ (n : Int) + m <= 140737488355328 /\ ((n : Int) + m) * by_ <= 140737488355328 /\ lo + n <= xs.length then
      Zce (h ++ [.arr e' E' kp ((xs.drop lo).take n)]) fun h' => k (.as E' h.length 0 (n + m.toNat) none) h'
     else none
     else none
    | _ => none
   | _, _ => none
   else none
  | _, _, _ => none
 | _, _ => none
def Zy7 (C : ZaA T) (P : Program) (t : TypeId) (x y : XV T) (h : List (HI T)) (k : XV T -> List (HI T) -> Option A) : Option A := match Zar P t with
 | none => none
 | some e => match Zav P e, ZaS P e, Zb5 P e, C.code e with
  | some sz, some z, some by_, some E => if (Nat.beq z.cells.size sz && Nat.beq sz (C.sz E)) = true then match x, y with
   | .int _ l, .int _ c => if 0 <= l /\ l <= c /\ c <= 140737488355328 /\ (by_ : Int) * c <= 140737488355328 then Zun C E sz z fun zt =>
    Zce (h ++ [.arr e E true (List.replicate c.toNat zt)]) fun h' => k (.as E h.length 0 l.toNat (some c.toNat)) h' else none
   | _, _ => none
   else none
  | _, _, _, _ => none
def ZDQ (P : Program) (c : Call) (i : Nat) (h : List (HI T)) (k : XV T -> List (HI T) -> Option A) : Option A := match c.callee, c.argTypes[0]? with
 | .builtin .len, some t => match P.underlying t, h[i]? with
  | some (.map _ _), some (.mmap K V es) => k (.int .i64 es.length) h
  | _, _ => none
 | _, _ => none
def Zup (P : Program) (t : TypeId) : Option (Nat × TypeId) := match P.underlying t with
 | some (.array n e) => some (n, e)
 | _ => none
def Zo4 (n : Int) (i o sz : Nat) (h : List (HI T)) (k : XV T -> List (HI T) -> Option A) : Nat -> Nat -> Option A
 | 0, _ => none
 | r + 1, j => if n = (j : Int) then k (.ptr i (o + j * sz)) h else Zo4 n i o sz h k r (j + 1)
structure Orc (T : Nat -> Type) (A : Type) where
 call : FuncId -> List (XV T) -> List (HI T) -> (XV T -> List (HI T) -> Option A) -> Option A
 on : Op -> List (XV T) -> Bool
 op : Op -> List (XV T) -> List (HI T) -> (XV T -> List (HI T) -> Option A) -> Option A
abbrev Tou (T : Nat -> Type) := FuncId -> List (XV T) -> List (HI T) -> List Nat
def gvs : List (XV T) -> List Nat
 | [] => []
 | .gv i _ _ :: l => i :: gvs l
 | _ :: l => gvs l
def ZiC (tou : Tou T) (o : Op) (vs : List (XV T)) (h : List (HI T)) : List Nat := match o, vs with
 | .store _ _ _, .ptr i _ :: _ => [i]
 | .store _ _ _, .ap _ i _ _ :: _ => [i]
 | .mapUpdate _ _ _ _, .mo i :: _ => [i]
 | .call c, vs => match c.callee, vs with
  | .value _, .fn f :: args => tou f args h
  | .value _, .clo f ps :: args => tou f (args ++ ps.map fun i => .ptr i 0) h
  | .builtin .append, .sl _ _ (some r) :: _ => [r]
  | .builtin .append, .as _ i _ _ _ :: _ => [i]
  | .builtin .copy, .as _ i _ _ _ :: _ => [i]
  | .builtin .clear, .as _ i _ _ _ :: _ => [i]
  | _, vs => gvs vs
 | _, vs => gvs vs
structure Orc.Ok (C : ZaA T) (P : Program) (tou : Tou T) (orc : Orc T A) : Prop where
 call : ∀ f args h k z, orc.call f args h k = some z -> ∃ r h', k r h' = some z /\ Tr C P (· ∈ tou f args h) f args h r h'
 op : ∀ o vs h k z, orc.on o vs = true -> orc.op o vs h k = some z -> ∃ r h', k r h' = some z /\ ∀ d ty pos af g, ZmF C P (· ∈ ZiC tou o vs h) ⟨d, o, ty, pos, af, g⟩ vs h r h'
def XV.wk : XV T -> XV T
 | .slx E xs _ => .sl E xs none
 | v => v
def Zlr (c : Call) : Bool := match c.callee with
 | .builtin _ => true
 | _ => false
def ZsX (C : ZaA T) (P : Program) (orc : Orc T A) (c : Call) (vs : List (XV T)) (h : List (HI T)) (k : XV T -> List (HI T) -> Option A) : Option A := match c.callee, vs with
 | .value _, .fn f :: args => orc.call f args h k
 | .value _, .clo f ps :: args => ZcN (args ++ ps.map fun i => .ptr i 0) fun args => orc.call f args h k
 | .builtin .len, [x] => match x, c.argTypes[0]? with
  | .sl E xs _, some t => match Zar P t with
   | some _ => k (.int .i64 xs.length) h
   | none => none
  | .nil, some t => match Zar P t with
   | some _ => k (.int .i64 0) h
   | none => none
  | .str s, some t => match P.underlying t with
   | some .string => k (.int .i64 s.length) h
   | _ => none
  | .as _ _ _ n _, some t => match Zar P t with
   | some _ => k (.int .i64 n) h
   | none => none
  | .vl l, some t => match Zar P t with
   | some _ => k (.int .i64 l.length) h
   | none => none
  | _, _ => none
 | .builtin .append, [x, y] => match c.argTypes.toList with
  | [t, t'] => if Nat.beq t t' = true then bif Zuo C x y then ZCH C P t x y h k else ZqC C P t x y h k else none
  | _ => none
 | _, _ => none
def XV.isAs : XV T -> Bool
 | .as _ _ _ _ _ => true
 | _ => false
def ZCI (C : ZaA T) (P : Program) (orc : Orc T A) (o : Op) (vs : List (XV T)) (h : List (HI T)) (k : XV T -> List (HI T) -> Option A) : Option A := match o, vs with
 | .move _, [x] => x.force fun x => k x h
 | .assign _, [x] => x.force fun x => k x h
 | .pick _ _ _, [.bool c, a, b] => cond c (a.force fun a => k a h) (b.force fun b => k b h)
 | .alloc e, [] => match ZaS P e with
  | some z => ZcN (XV.ofV z).cells fun cs => Zce (h ++ [.obj e cs]) fun h' => k (.ptr h.length 0) h'
  | none => none
 | .box e _, [x] => if x.isVal = true then ZcN x.cells fun cs => Zce (h ++ [.obj e cs]) fun h' => k (.ptr h.length 0) h' else none
 | .build t parts, vs => match ZaS P t, ZbS P t with
  | some z, some pl => match Zlq (fun i => pl[i]?) (XV.ofV z).cells ((parts.toList.map (·.1)).zip vs) with
   | some cells => ZcN cells fun cells => k (.agg cells) h
   | none => none
  | _, _ => none
 | .buildSlice t n parts, vs => match Zar P t with
  | some e => match Zav P e, ZaS P e, C.code e with
   | some sz, some z, some E => if Nat.beq sz (C.sz E) = true /\ Nat.beq z.cells.size sz = true /\ n * sz <= 16777216 then
    match Zlq (fun i => some (i * sz, sz)) ((List.range (n * sz)).map fun i => .ofV (z.cells[i % sz]!)) ((parts.toList.map (·.1)).zip vs) with
    | some cells => cond (cells.any XV.isAs && Nat.beq sz 1) (ZcN cells fun cells => k (.vl cells) h) (Zy5 C E n cells fun xs => Zce (h ++ [.row e sz]) fun h' => k (.sl E xs (some h.length)) h')
    | none => none
    else none
   | some sz, some z, none => if Nat.beq sz 1 = true /\ Nat.beq z.cells.size sz = true /\ n * sz <= 16777216 then
    match Zlq (fun i => some (i * sz, sz)) ((List.range (n * sz)).map fun i => .ofV (z.cells[i % sz]!)) ((parts.toList.map (·.1)).zip vs) with
    | some cells => ZcN cells fun cells => k (.vl cells) h
    | none => none
    else none
   | _, _, _ => none
  | none => none
 | .load t _, [.ptr i o] => match h[i]? with
  | some (.obj _ cs) => Zdq (Ze0 P t) (Zav P t) cs o fun v => k v h
  | _ => none
 | .load t _, [.ce cs] => Zdq (Ze0 P t) (Zav P t) cs 0 fun v => k v h
 | .load t _, [.el E x o] => Zdq (Ze0 P t) (Zav P t) ((C.enc E x).drop o) 0 fun v => k v h
 | .store t _ _, [.ptr i o, x] => match h[i]? with
  | some (.obj e cs) => match Zav P t with
   | some n => if x.isVal = true /\ Nat.beq x.cells.length n = true /\ o + n <= cs.length then ZcN (Zlp cs o x.cells) fun cs' => Zce (h.set i (.obj e cs')) fun h' => k .junk h' else none
   | none => none
  | _ => none
 | .load t _, [.ap E i j o] => match h[i]? with
  | some (.arr _ E' _ xs) => if hE : E' = E /\ o <= C.sz E' then (xs[j]?).bind fun x => Zdq (Ze0 P t) (Zav P t) ((C.enc E' x).drop o) 0 fun v => k v h else none
  | _ => none
 | .makeSlice t _ _, [x, y] => Zy7 C P t x y h k
 | .nilCheck _, [x] => match x with
  | .ptr i o => k (.ptr i o) h
  | .ap E i j o => k (.ap E i j o) h
  | .clo f ps => k (.clo f ps) h
  | .el E y o => k (.el E y o) h
  | .ce l => k (.ce l) h
  | .fn f => k (.fn f) h
  | _ => none
 | .extract _ i, [.tup l] => match l[i]? with
  | some r => r.force fun r => k r h
  | none => none
 | .fieldAddr t _ f, [x] => match Zba P t with
  | some l => match l[f]? with
   | some (off, some (_ + 1), _) => match x with
    | .ptr i o => k (.ptr i (o + off)) h
    | .el E y o => k (.el E y (o + off)) h
    | .ap E i j o => k (.ap E i j (o + off)) h
    | .ce l => ZcN (l.drop off) fun l => k (.ce l) h
    | _ => none
   | _ => none
  | none => none
 | .indexAddr t _ _, [.sl E xs _, .int _ n] => match Zar P t with
  | some e => match Zav P e with
   | some sz => if Nat.beq sz (C.sz E) = true then (Ze1 xs n).bind fun x => k (.el E x 0) h else none
   | none => none
  | none => none
 | .indexAddr t _ _, [.vl l, .int _ n] => match Zar P t with
  | some e => match Zav P e with
   | some sz => if Nat.beq sz 1 = true then if 0 <= n /\ n < (l.length : Int) then ZcN (l.drop n.toNat) fun l => k (.ce l) h else none else none
   | none => none
  | none => none
 | .indexAddr t _ _, [.slx E xs _, .int _ n] => match Zar P t with
  | some e => match Zav P e with
   | some sz => if Nat.beq sz (C.sz E) = true then (Ze1 xs n).bind fun x => k (.el E x 0) h else none
   | none => none
  | none => none
 | .indexAddr t _ _, [.as E i lo m _, .int _ n] => match Zar P t with
  | some e => match Zav P e with
   | some sz => if Nat.beq sz (C.sz E) = true then if 0 <= n /\ n < (m : Int) then k (.ap E i (lo + n.toNat) 0) h else none else none
   | none => none
  | none => none
 | .indexAddr t _ _, [.ptr i o, .int _ n] => match Zup P t with
  | some (len, e) => match Zav P e with
   | some sz => Zo4 n i o sz h k len 0
   | none => none
  | none => none
 | .slice t _ lo hi none, .as E i a n co :: ix => ZCF C P t lo.isSome hi.isSome (.as E i a n co) ix fun v => k v h
 | .slice t _ lo hi none, x :: ix => Zum C P t lo.isSome hi.isSome x ix fun v => k v h
 | .slice t _ lo (some _) (some _), .as E i a n co :: ix => Zy6 C P t lo.isSome E n co ix fun v => k v h
 | .slice t _ lo (some _) (some _), x :: ix => ZqB C P t lo.isSome x ix fun v => k v h
 | .binOp op t _ _ _, [x, y] => ZCi P op t x y fun v => k v h
 | .unOp .not _ _, [.bool b] => k (.bool (!b)) h
 | .convert s d _, [x] => match P.underlying s, P.underlying d, x with
  | some (.int _), some (.int kd), .int _ n => k (.int kd (kd.wrap n)) h
  | _, _, _ => none
 | .call c, vs => cond (Zlr c) (ZsX C P orc c (vs.map XV.wk) h k) (ZsX C P orc c vs h k)
 | _, _ => none
def xop (C : ZaA T) (P : Program) (orc : Orc T A) (o : Op) (vs : List (XV T)) (h : List (HI T)) (k : XV T -> List (HI T) -> Option A) : Option A := cond (orc.on o vs) (orc.op o vs h k) (ZCI C P orc o vs h k)
section
variable {C : ZaA T} {N : Nat} {ρ : Nat -> AV} {P : Program} {h : List (HI T)} {d : Option Nat} {ty t : TypeId} {pos : String} {af : Array Edge} {g : Option (Nat × Bool)} {z : A}
theorem ZcO {tb : Option Bool} {n : Option Nat} {cells : List (XV T)} {o : Nat} {k : XV T -> Option A} (hk : Zdq tb n cells o k = some z) :
 ∃ r, k r = some z /\ ∀ N ρ as_ rest, SVs C N ρ cells as_ -> ∃ a, Zbw tb n (as_ ++ rest) o = some a /\ SV C N ρ r a := by
 unfold Zdq at hk
 split at hk
 ·split at hk
  ·rename_i n hl
   rw [ZbG] at hk
   refine ⟨_, hk, fun N ρ as_ rest hs => ?_⟩
   have hlen := hs.len
   refine ⟨.agg ((as_.drop o).take n), ?_, ZcE.2 ⟨_, rfl, (hs.drop o).take n⟩⟩
   unfold Zbw
   dsimp only
   rw [if_pos (by rw [List.length_append]; omega), List.drop_append_of_le_length (by omega), List.take_append_of_le_length (by rw [List.length_drop]; omega)]
  ·cases hk
 ·split at hk
  ·rename_i v hv
   rw [ZdU] at hk
   refine ⟨v, hk, fun N ρ as_ rest hs => ?_⟩
   obtain ⟨a, h1, h2⟩ := hs.get hv
   refine ⟨a, ?_, h2⟩
   unfold Zbw
   dsimp only
   rw [List.getElem?_append_left (Zat h1)]
   exact h1
  ·cases hk
 ·cases hk
theorem Zo5 {cells xs : List (XV T)} {as_ bs : List AV} (o : Nat) (h1 : SVs C N ρ cells as_) (h2 : SVs C N ρ xs bs) : SVs C N ρ (Zlp cells o xs) (ZaG as_ o bs) := by
 unfold Zlp ZaG
 rw [h2.len]
 exact ((h1.take o).app h2).app (h1.drop _)
theorem ZeH {place : Nat -> Option (Nat × Nat)} : ∀ {parts : List (Nat × XV T)} {cells r : List (XV T)} {as_ bs : List AV}, Zlq place cells parts = some r -> SVs C N ρ cells as_ -> SVs C N ρ (parts.map (·.2)) bs -> ∃ rs, ZdD place as_ ((parts.map (·.1)).zip bs) = some rs /\ SVs C N ρ r rs
 | [], cells, r, as_, bs, hr, hc, hp => by
  injection hr with hr
  subst hr
  exact ⟨as_, rfl, hc⟩
 | (i, v) :: rest, cells, r, as_, bs, hr, hc, hp => by
  obtain ⟨b, bs', rfl, h1, h2⟩ := SVs.to hp
  unfold Zlq at hr
  split at hr
  ·cases hr
  ·rename_i off size hpl
   split at hr
   ·rename_i hcond
    obtain ⟨hv, hs, hl⟩ := hcond
    rw [ZbG] at hr
    have hcs := ZnJ h1 hv
    obtain ⟨rs, g1, g2⟩ := ZeH hr (Zo5 off hc hcs) h2
    refine ⟨rs, ?_, g2⟩
    simp only [List.map_cons, List.zip_cons_cons]
    unfold ZdD
    rw [hpl]
    dsimp only
    rw [Zki h1 hv]
    have e1 := hcs.len
    have e2 := hc.len
    have hno : ¬ ((!true || decide (b.cells.length ≠ size) || decide (off + b.cells.length > as_.length)) = true) := by
     rw [e1, e2, hs] at *
     simp only [Bool.not_true, Bool.false_or, Bool.or_eq_true, decide_eq_true_eq, not_or]
     omega
    rw [if_neg hno]
    exact g1
   ·cases hr
theorem Zjv {E : Nat} : ∀ {n : Nat} {l : List (XV T)} {k : List (T E) -> Option A}, Zy5 C E n l k = some z -> ∃ xs : List (T E), k xs = some z /\ xs.length = n /\ l.length = n * C.sz E /\ ∀ N ρ as_, SVs C N ρ l as_ -> SVs C N ρ (xs.flatMap (C.enc E)) as_
 | 0, [], k, hk => ⟨[], hk, rfl, by simp, fun N ρ as_ hs => hs⟩
 | 0, _ :: _, k, hk => by cases hk
 | n + 1, l, k, hk => by
  unfold Zy5 at hk
  cases hd : C.dec E (l.take (C.sz E)) with
  | none => rw [hd] at hk; cases hk
  | some x =>
   rw [hd] at hk
   obtain ⟨xs, h1, h2, h3, h4⟩ := Zjv (E := E) hk
   have hw := C.back E _ _ hd
   have hwl : ∀ {a b : List (XV T)}, Wks a b -> a.length = b.length := fun hab => by
    induction hab with
    | nil => rfl
    | cons _ _ ih => simp [ih]
   have e1 := hwl hw
   rw [C.len, List.length_take] at e1
   rw [List.length_drop] at h3
   refine ⟨x :: xs, h1, by simp [h2], ?_, fun N ρ as_ hs => ?_⟩
   ·rw [Nat.succ_mul]; omega
   ·rw [List.flatMap_cons, <- List.take_append_drop (C.sz E) as_]
    exact ((Wks.sv hw (hs.take _)).app (h4 N ρ _ (hs.drop _)))
theorem Zcl {E : Nat} (xs : List (T E)) : (xs.flatMap (C.enc E)).length = xs.length * C.sz E := by
 induction xs with
 | nil => simp
 | cons x xs ih => rw [List.flatMap_cons, List.length_append, C.len, ih, List.length_cons, Nat.succ_mul]; omega
theorem Zeq {E : Nat} (xs : List (T E)) (n : Nat) : (xs.flatMap (C.enc E)).drop (n * C.sz E) = (xs.drop n).flatMap (C.enc E) := by
 induction n generalizing xs with
 | zero => simp
 | succ n ih => cases xs with
  | nil => simp
  | cons x xs =>
   rw [List.flatMap_cons, List.drop_succ_cons, <- ih, Nat.succ_mul, Nat.add_comm, <- List.drop_drop, List.drop_append_of_le_length (by rw [C.len]; omega)]
   have e0 : (C.enc E x).drop (C.sz E) = [] := List.drop_eq_nil_of_le (by rw [C.len]; omega)
   rw [e0, List.nil_append]
theorem Zer {E : Nat} (xs : List (T E)) (n : Nat) : (xs.flatMap (C.enc E)).take (n * C.sz E) = (xs.take n).flatMap (C.enc E) := by
 induction n generalizing xs with
 | zero => simp
 | succ n ih => cases xs with
  | nil => simp
  | cons x xs =>
   rw [List.flatMap_cons, List.take_succ_cons, List.flatMap_cons, <- ih, Nat.succ_mul, List.take_append, List.take_of_length_le (by rw [C.len]; omega), C.len]
   congr 2
   omega
theorem ZcA {E : Nat} (xs : List (T E)) : ∀ v ∈ xs.flatMap (C.enc E), v.closed = true := fun v hv => by
 obtain ⟨x, _, hx⟩ := List.mem_flatMap.1 hv
 exact C.shut E x v hx
end
end Go.Proofs.YteempnebenjkmaaGreatDoor
namespace Go.Proofs.YteempnebenjkmaaGreatDoor
open Go.RowKit
set_option linter.unusedSimpArgs false
set_option maxRecDepth 100000
set_option linter.unusedVariables false
variable {T : Nat -> Type} {A : Type}
section
variable {U : Nat -> Prop} {C : ZaA T} {N : Nat} {ρ : Nat -> AV} {P : Program} {h : List (HI T)} {d : Option Nat} {ty t : TypeId} {pos : String} {af : Array Edge} {g : Option (Nat × Bool)} {z : A} {orc : Orc T A} {k : XV T -> List (HI T) -> Option A} {vs : List (XV T)}
theorem ZqD (v : Value) : (XV.ofV1 v : XV T).cells = [XV.ofV1 v] := by unfold XV.ofV1; split <;> rfl
theorem ZqE (v : Value) (hv : ∀ cs, v ≠ .agg cs) : (AV.ofV1 v).cells = [AV.ofV1 v] := by
 unfold AV.ofV1
 split
 ·rfl
 ·cases v <;> first | rfl | exact absurd rfl (hv _)
theorem Zkj (v : Value) : SVs C N ρ (XV.ofV v : XV T).cells (AV.ofV v).cells := by
 cases v with
 | agg cs => exact Zrz _
 | _ =>
  unfold XV.ofV AV.ofV
  dsimp only
  rw [ZqD, ZqE _ (fun cs e => by cases e)]
  exact Zqz _
abbrev Zb9 (C : ZaA T) (P : Program) (U : Nat -> Prop) (o : Oper) (vs : List (XV T)) (h : List (HI T)) (k : XV T -> List (HI T) -> Option A) (z : A) : Prop := ∃ r h', k r h' = some z /\ ZmF C P U o vs h r h'
theorem Zuq {e : TypeId} {v : Value} (hz : ZaS P e = some v) (hk : k (.ptr h.length 0) (h ++ [.obj e (XV.ofV v).cells]) = some z) : Zb9 C P U ⟨d, .alloc e, ty, pos, af, g⟩ [] h k z := by
 refine ⟨_, _, hk, fun ρ σ as_ hs H => ?_⟩
 rw [ZbA.1 hs]
 refine ⟨v, hz, fun b hb hn => ?_⟩
 obtain ⟨h1, h2, h3⟩ := H.new hb hn e (Zkj v)
 exact ⟨_, h3, h1, h2⟩
theorem Zy8 {e : TypeId} {x : XV T} {y : Operand} (hv : x.isVal = true) (hk : k (.ptr h.length 0) (h ++ [.obj e x.cells]) = some z) : Zb9 C P U ⟨d, .box e y, ty, pos, af, g⟩ [x] h k z := by
 refine ⟨_, _, hk, fun ρ σ as_ hs H => ?_⟩
 obtain ⟨a, rfl, h1⟩ := ZeG.1 hs
 intro b hb hn
 obtain ⟨g1, g2, g3⟩ := H.new hb hn e (ZnJ h1 hv)
 exact ⟨_, g3, g1, g2⟩
theorem Zgb {l : List Nat} {vs : List (XV T)} {as_ : List AV} (hs : SVs C N ρ vs as_) : ∃ bs, SVs C N ρ ((l.zip vs).map (·.2)) bs /\ ((l.zip vs).map (·.1)).zip bs = l.zip as_ := by
 induction l generalizing vs as_ with
 | nil => exact ⟨[], .none, rfl⟩
 | cons x l ih =>
  cases vs with
  | nil => rw [ZbA.1 hs]; exact ⟨[], .none, rfl⟩
  | cons v vs =>
   obtain ⟨a, bs, rfl, h1, h2⟩ := hs.to
   obtain ⟨cs, h3, h4⟩ := ih h2
   exact ⟨a :: cs, .cons h1 h3, by simp [h4]⟩
theorem Zur {parts : Array (Nat × Operand)} {v : Value} {pl : List (Nat × Nat)} {cells : List (XV T)} (hz : ZaS P t = some v) (hp : ZbS P t = some pl) (hf : Zlq (fun i => pl[i]?) (XV.ofV v).cells ((parts.toList.map (·.1)).zip vs) = some cells) (hk : k (.agg cells) h = some z) : Zb9 C P U ⟨d, .build t parts, ty, pos, af, g⟩ vs h k z := by
 refine ⟨_, _, hk, fun ρ σ as_ hs H => ?_⟩
 obtain ⟨bs, h1, h2⟩ := Zgb (l := parts.toList.map (·.1)) hs
 obtain ⟨rs, h3, h4⟩ := ZeH hf (Zkj v) h1
 rw [h2] at h3
 exact ⟨v, pl, rs, hz, hp, h3, ρ, ZcE.2 ⟨rs, rfl, h4⟩, H, .refl _ _ _ _⟩
theorem ZiD (l : List Nat) (z : Array Value) (sz : Nat) : SVs C N ρ ((l.map fun i => .ofV (z[i % sz]!)) : List (XV T)) (l.map fun i => .ofV (z[i % sz]!)) := by
 induction l with
 | nil => exact .none
 | cons x l ih => exact .cons (Zyo _) ih
theorem ZmG {parts : Array (Nat × Operand)} {n : Nat} {v : Value} {e : TypeId} {sz E : Nat} {cells : List (XV T)} (he : Zar P t = some e) (hz : ZaS P e = some v) (hsz : Zav P e = some sz) (h1 : Nat.beq sz (C.sz E) = true /\ Nat.beq v.cells.size sz = true /\ n * sz <= 16777216)
 (hf : Zlq (fun i => some (i * sz, sz)) ((List.range (n * sz)).map fun i => .ofV (v.cells[i % sz]!)) ((parts.toList.map (·.1)).zip vs) = some cells)
 (hk : (Zy5 C E n cells fun xs => k (.sl E xs (some h.length)) (h ++ [.row e sz])) = some z) : Zb9 C P U ⟨d, .buildSlice t n parts, ty, pos, af, g⟩ vs h k z := by
 obtain ⟨e1, e2, e3⟩ := h1
 have e1 := Nat.eq_of_beq_eq_true e1
 have e2 := Nat.eq_of_beq_eq_true e2
 obtain ⟨xs, d1, d2, d3, d4⟩ := Zjv hk
 refine ⟨_, _, d1, fun ρ σ as_ hs H => ?_⟩
 obtain ⟨bs, h1, h2⟩ := Zgb (l := parts.toList.map (·.1)) hs
 obtain ⟨rs, h3, h4⟩ := ZeH hf (ZiD _ _ _) h1
 rw [h2] at h3
 refine ⟨e, sz, v, rs, he, hsz, hz, e2, e3, h3, fun b hb hn => ?_⟩
 have hl := h4.len
 have hmax : n * sz <= 16777216 := e3
 have hpos := C.pos E
 have hn1 : n <= 16777216 := Nat.le_trans (Nat.le_mul_of_pos_right n (by omega)) e3
 have ho : Own (σ.put b (.tail e (n * sz) (n * sz))) e sz (.lst (some ⟨b, 0, none⟩) n n rs) n rs :=
  ⟨by rw [hl, d3, e1], .inr ⟨b, n, rfl, Nat.le_refl _, by unfold maxLen; omega, ZaW _ _ _, .inr rfl⟩⟩
 obtain ⟨g1, g2⟩ := H.newRow (Ext.put _ hn) ho (fun c hc => by injection hc with hc; change b = c at hc; subst hc; exact ⟨hn, hb⟩)
 refine ⟨_, ?_, g1, g2⟩
 refine ZfK.2 ⟨(ZaD _ _ _).symm, by simp, Zb8.2 ⟨some ⟨b, 0, none⟩, n, rs, [], by rw [d2]; simp, by omega, by unfold maxLen; omega, by omega, (fun e => by cases e), ?_⟩⟩
 exact (d4 _ _ _ h4).shut (ZcA xs)
theorem Hp.toExt0 {σ τ : St} (H : Hp C ρ h σ) (hX : Ext σ τ) : Hp C ρ h τ := by
 refine ⟨fun i x hx => ?_, H.dist⟩
 have := H.it i x hx
 cases x with
 | mmap K V es =>
  obtain ⟨b', h1, h2, h3⟩ := this
  exact ⟨b', h1, hX.keep _ _ h2, hX.used _ h3⟩
 | obj t' cs' =>
  obtain ⟨b', acs', h1, h2, h3, h4⟩ := this
  exact ⟨b', acs', h1, hX.keep _ _ h2, hX.used _ h3, h4⟩
 | arr e E kp xs =>
  rcases this with ⟨b', K', pre, rest, h1, h2, h3, h4⟩ | ⟨h1, h2⟩
  ·exact .inl ⟨b', K', pre, rest, h1, hX.keep _ _ h2, hX.used _ h3, h4⟩
  ·exact .inr ⟨h1, h2⟩
 | row e sz =>
  obtain ⟨n, cs', ho⟩ := this
  exact ⟨n, cs', ho.ext hX⟩
 | gen E x => exact C.gsh_but _ _ _ _ _ (fun _ => False) this hX.but (fun _ _ hf => hf)
 | dead => trivial
theorem Rel.toExt0 {σ τ : St} (hX : Ext σ τ) : Rel U ρ h σ ρ h τ := ⟨Nat.le_refl _, fun _ _ => rfl, ⟨fun c k _ hk => hX.keep _ _ hk, hX.used⟩, fun b hb => .inl hb⟩
theorem Zls {parts : Array (Nat × Operand)} {n : Nat} {v : Value} {e : TypeId} {sz : Nat} {cells : List (XV T)} (he : Zar P t = some e) (hz : ZaS P e = some v) (hsz : Zav P e = some sz) (h1 : Nat.beq sz 1 = true /\ Nat.beq v.cells.size sz = true /\ n * sz <= 16777216)
 (hf : Zlq (fun i => some (i * sz, sz)) ((List.range (n * sz)).map fun i => .ofV (v.cells[i % sz]!)) ((parts.toList.map (·.1)).zip vs) = some cells)
 (hk : k (.vl cells) h = some z) : Zb9 C P U ⟨d, .buildSlice t n parts, ty, pos, af, g⟩ vs h k z := by
 obtain ⟨e1, e2, e3⟩ := h1
 have e1 := Nat.eq_of_beq_eq_true e1
 have e2 := Nat.eq_of_beq_eq_true e2
 subst e1
 refine ⟨_, _, hk, fun ρ σ as_ hs H => ?_⟩
 obtain ⟨bs, h1, h2⟩ := Zgb (l := parts.toList.map (·.1)) hs
 obtain ⟨rs, h3, h4⟩ := ZeH hf (ZiD _ _ _) h1
 rw [h2] at h3
 refine ⟨e, 1, v, rs, he, hsz, hz, e2, e3, h3, fun b hb hn => ?_⟩
 have hl := h4.len
 have hcl : cells.length = n := by
  have := ZgD _ _ _ _ h3
  simp at this
  omega
 have hX : Ext σ (σ.put b (.tail e (n * 1) (n * 1))) := Ext.put _ hn
 refine ⟨ρ, Zuj.2 ⟨some ⟨b, 0, none⟩, n, rs, [], by rw [hcl]; simp, by omega, by unfold maxLen; omega, by omega, (fun e => by cases e), h4⟩, H.toExt0 hX, Rel.toExt0 hX⟩
theorem Zo6 {parts : Array (Nat × Operand)} {n : Nat} {v : Value} {e : TypeId} {sz E : Nat} {cells : List (XV T)} (he : Zar P t = some e) (hz : ZaS P e = some v) (hsz : Zav P e = some sz) (h1 : Nat.beq sz (C.sz E) = true /\ Nat.beq v.cells.size sz = true /\ n * sz <= 16777216)
 (hf : Zlq (fun i => some (i * sz, sz)) ((List.range (n * sz)).map fun i => .ofV (v.cells[i % sz]!)) ((parts.toList.map (·.1)).zip vs) = some cells)
 (hk : cond (cells.any XV.isAs && Nat.beq sz 1) (ZcN cells fun cells => k (.vl cells) h) (Zy5 C E n cells fun xs => k (.sl E xs (some h.length)) (h ++ [.row e sz])) = some z) : Zb9 C P U ⟨d, .buildSlice t n parts, ty, pos, af, g⟩ vs h k z := by
 cases hA : (cells.any XV.isAs && Nat.beq sz 1)
 ·rw [hA] at hk
  exact ZmG he hz hsz h1 hf hk
 ·rw [hA, cond_true, ZbG] at hk
  simp only [Bool.and_eq_true] at hA
  exact Zls he hz hsz ⟨hA.2, h1.2⟩ hf hk
theorem ZwM {i o : Nat} {x : Operand} {e : TypeId} {cs : List (XV T)} (hi : h[i]? = some (.obj e cs)) (hk : (Zdq (Ze0 P t) (Zav P t) cs o fun v => k v h) = some z) : Zb9 C P U ⟨d, .load t x, ty, pos, af, g⟩ [.ptr i o] h k z := by
 obtain ⟨r, h1, h2⟩ := ZcO hk
 refine ⟨_, _, h1, fun ρ σ as_ hs H => ?_⟩
 obtain ⟨a, rfl, h3⟩ := ZeG.1 hs
 obtain ⟨b, rfl, hiN, hρ⟩ := Zdp.1 h3
 obtain ⟨b', acs, hb1, hb2, hb3, hb4⟩ := H.it i _ hi
 rw [hρ] at hb1
 have : b = b' := by injection hb1 with hb1; injection hb1 with hb1; injection hb1 with hb1; injection hb1
 subst this
 obtain ⟨a, h4, h5⟩ := h2 h.length ρ acs [] hb4
 rw [List.append_nil] at h4
 exact ⟨a, by unfold Zdk ptr; dsimp only; rw [hb2]; exact h4, ρ, h5, H, .refl _ _ _ _⟩
theorem ZsY {E o : Nat} {y : T E} {x : Operand} (hk : (Zdq (Ze0 P t) (Zav P t) ((C.enc E y).drop o) 0 fun v => k v h) = some z) : Zb9 C P U ⟨d, .load t x, ty, pos, af, g⟩ [.el E y o] h k z := by
 obtain ⟨r, h1, h2⟩ := ZcO hk
 refine ⟨_, _, h1, fun ρ σ as_ hs H => ?_⟩
 obtain ⟨a, rfl, h3⟩ := ZeG.1 hs
 obtain ⟨ad, cs, rest, rfl, h4⟩ := Zo2.1 h3
 obtain ⟨a, h5, h6⟩ := h2 h.length ρ cs rest h4
 exact ⟨a, by unfold Zdk; dsimp only; exact h5, ρ, h6, H, .refl _ _ _ _⟩
theorem ZqF {cs : List (XV T)} {x : Operand} (hk : (Zdq (Ze0 P t) (Zav P t) cs 0 fun v => k v h) = some z) : Zb9 C P U ⟨d, .load t x, ty, pos, af, g⟩ [.ce cs] h k z := by
 obtain ⟨r, h1, h2⟩ := ZcO hk
 refine ⟨_, _, h1, fun ρ σ as_ hs H => ?_⟩
 obtain ⟨a, rfl, h3⟩ := ZeG.1 hs
 obtain ⟨ad, ls, rest, rfl, h4⟩ := ZsU.1 h3
 obtain ⟨a, h5, h6⟩ := h2 h.length ρ ls rest h4
 exact ⟨a, by unfold Zdk; dsimp only; exact h5, ρ, h6, H, .refl _ _ _ _⟩
theorem Zus {i o n : Nat} (hU : U i) {x y : Operand} {e : TypeId} {v : XV T} {cs : List (XV T)} (hi : h[i]? = some (.obj e cs)) (hn : Zav P t = some n) (hc : v.isVal = true /\ Nat.beq v.cells.length n = true /\ o + n <= cs.length) (hk : k .junk (h.set i (.obj e (Zlp cs o v.cells))) = some z) : Zb9 C P U ⟨d, .store t x y, ty, pos, af, g⟩ [.ptr i o, v] h k z := by
 obtain ⟨c1, c2, c3⟩ := hc
 have c2 := Nat.eq_of_beq_eq_true c2
 refine ⟨_, _, hk, fun ρ σ as_ hs H => ?_⟩
 obtain ⟨a, u, rfl, h3, h4⟩ := Zig.1 hs
 obtain ⟨b, rfl, hiN, hρ⟩ := Zdp.1 h3
 obtain ⟨b', acs, hb1, hb2, hb3, hb4⟩ := H.it i _ hi
 rw [hρ] at hb1
 have : b = b' := by injection hb1 with hb1; injection hb1 with hb1; injection hb1 with hb1; injection hb1
 subst this
 have hcv := ZnJ h4 c1
 have e1 := hcv.len
 have e2 := hb4.len
 obtain ⟨g1, g2⟩ := H.write hU hi hρ (Zo5 o hb4 hcv)
 refine ⟨_, ?_, ρ, ZbV, g1, g2⟩
 unfold Zkf ptr Zhg
 dsimp only
 rw [hb2, hn]
 dsimp only
 have hones : u.cells.all AV.one = true := List.all_eq_true.2 (hcv.ones (Zuk c1))
 rw [Zki h4 c1, hones]
 rw [if_pos (by simp; omega)]
theorem ZnK {x : Operand} {f off n : Nat} {l : List (Nat × Option Nat × Option Bool)} {b : Option Bool} {i o : Nat} (hl : Zba P t = some l) (hf : l[f]? = some (off, some (n + 1), b)) (hk : k (.ptr i (o + off)) h = some z) : Zb9 C P U ⟨d, .fieldAddr t x f, ty, pos, af, g⟩ [.ptr i o] h k z := by
 refine ⟨_, _, hk, fun ρ σ as_ hs H => ?_⟩
 obtain ⟨a, rfl, h3⟩ := ZeG.1 hs
 obtain ⟨c, rfl, h4, h5⟩ := Zdp.1 h3
 exact ⟨l, off, n, b, hl, hf, ρ, by rw [Zbl]; exact Zdp.2 ⟨c, rfl, h4, h5⟩, H, .refl _ _ _ _⟩
theorem Zlt {x : Operand} {f off n : Nat} {l : List (Nat × Option Nat × Option Bool)} {b : Option Bool} {E o : Nat} {y : T E} (hl : Zba P t = some l) (hf : l[f]? = some (off, some (n + 1), b)) (hk : k (.el E y (o + off)) h = some z) : Zb9 C P U ⟨d, .fieldAddr t x f, ty, pos, af, g⟩ [.el E y o] h k z := by
 refine ⟨_, _, hk, fun ρ σ as_ hs H => ?_⟩
 obtain ⟨a, rfl, h3⟩ := ZeG.1 hs
 obtain ⟨ad, cs, rest, rfl, h4⟩ := Zo2.1 h3
 refine ⟨l, off, n, b, hl, hf, ρ, Zo2.2 ⟨ad.add off, cs.drop off, rest.drop (off - cs.length), ?_, ?_⟩, H, .refl _ _ _ _⟩
 ·rw [List.drop_append]
 ·rw [<- List.drop_drop]; exact h4.drop off
theorem ZkI {x : Operand} {f off n : Nat} {l : List (Nat × Option Nat × Option Bool)} {b : Option Bool} {vs : List (XV T)} (hl : Zba P t = some l) (hf : l[f]? = some (off, some (n + 1), b)) (hk : (ZcN (vs.drop off) fun l => k (.ce l) h) = some z) : Zb9 C P U ⟨d, .fieldAddr t x f, ty, pos, af, g⟩ [.ce vs] h k z := by
 rw [ZbG] at hk
 refine ⟨_, _, hk, fun ρ σ as_ hs H => ?_⟩
 obtain ⟨a, rfl, h3⟩ := ZeG.1 hs
 obtain ⟨ad, cs, rest, rfl, h4⟩ := ZsU.1 h3
 refine ⟨l, off, n, b, hl, hf, ρ, ZsU.2 ⟨ad.add off, cs.drop off, rest.drop (off - cs.length), ?_, h4.drop off⟩, H, .refl _ _ _ _⟩
 rw [List.drop_append]
theorem Zo7 {x y : Operand} {E sz : Nat} {e : TypeId} {xs : List (T E)} {ow : Option Nat} {ki : IntKind} {n : Int} (he : Zar P t = some e) (hsz : Zav P e = some sz) (h1 : Nat.beq sz (C.sz E) = true) (hk : ((Ze1 xs n).bind fun x => k (.el E x 0) h) = some z) : Zb9 C P U ⟨d, .indexAddr t x y, ty, pos, af, g⟩ [.sl E xs ow, .int ki n] h k z := by
 have e1 := Nat.eq_of_beq_eq_true h1
 cases hg : Ze1 xs n with
 | none => rw [hg] at hk; cases hk
 | some w =>
  rw [hg] at hk
  refine ⟨_, _, hk, fun ρ σ as_ hs H => ?_⟩
  obtain ⟨a, b, rfl, h3, h4⟩ := Zig.1 hs
  obtain ⟨A, c, cs, rest, rfl, l1, l2, l3, l4, l5⟩ := Zfp h3
  rw [Zaw.1 h4]
  unfold Ze1 at hg
  split at hg
  ·rename_i hn
   have hlt := Zat hg
   cases A with
   | none => have := (l4 rfl).1; omega
   | some ad =>
    have hlen := l5.len
    rw [Zcl] at hlen
    refine ⟨e, sz, ki, n.toNat, he, hsz, by simp; omega, hlt, ρ, Zo2.2 ⟨ad.add (n.toNat * sz), (cs.drop (n.toNat * sz)).take sz, (cs.drop (n.toNat * sz)).drop sz ++ rest, ?_, ?_⟩, H, .refl _ _ _ _⟩
    ·have hm : (n.toNat + 1) * C.sz E <= xs.length * C.sz E := Nat.mul_le_mul_right _ hlt
     rw [<- List.append_assoc, List.take_append_drop, List.drop_append_of_le_length (by rw [hlen, e1]; rw [Nat.succ_mul] at hm; omega)]
    ·have := (l5.drop (n.toNat * sz)).take sz
     rw [e1, Zeq, List.drop_eq_getElem_cons hlt, List.flatMap_cons, List.take_append_of_le_length (by rw [C.len]; omega), List.take_of_length_le (by rw [C.len]; omega)] at this
     rw [List.drop_zero, e1]
     have hx : xs[n.toNat] = w := by rw [List.getElem?_eq_getElem hlt] at hg; injection hg
     rw [hx] at this
     exact this
  ·cases hg
theorem ZqG {x y : Operand} {sz : Nat} {e : TypeId} {l : List (XV T)} {ki : IntKind} {n : Int} (he : Zar P t = some e) (hsz : Zav P e = some sz) (h1 : Nat.beq sz 1 = true) (hn : 0 <= n /\ n < (l.length : Int)) (hk : k (.ce (l.drop n.toNat)) h = some z) : Zb9 C P U ⟨d, .indexAddr t x y, ty, pos, af, g⟩ [.vl l, .int ki n] h k z := by
 have e1 := Nat.eq_of_beq_eq_true h1
 subst e1
 refine ⟨_, _, hk, fun ρ σ as_ hs H => ?_⟩
 obtain ⟨a, b, rfl, h3, h4⟩ := Zig.1 hs
 obtain ⟨A, c, ls, rest, rfl, l1, l2, l3, l4, l5⟩ := Zuj.1 h3
 rw [Zaw.1 h4]
 cases A with
 | none => have := (l4 rfl).1; omega
 | some ad =>
  have hlen := l5.len
  refine ⟨e, 1, ki, n.toNat, he, hsz, by simp; omega, by omega, ρ, ZsU.2 ⟨ad.add (n.toNat * 1), ls.drop n.toNat, rest, ?_, l5.drop _⟩, H, .refl _ _ _ _⟩
  rw [Nat.mul_one, List.drop_append_of_le_length (by omega)]
theorem Zm8 {x : Operand} {lo hi : Option Operand} {v : XV T} {ix : List (XV T)} {E n sz : Nat} {e : TypeId} {zs : List (T E)} {l u : Int} (hv : ∀ ρ a, SV C h.length ρ v a -> ∃ A c cs rest, a = .lst A n c (cs ++ rest) /\ zs.length <= c /\ c <= maxLen /\ zs.length <= 140737488355328 /\ (A = none -> zs.length = 0 /\ c = 0) /\ SVs C h.length ρ (zs.flatMap (C.enc E)) cs)
 (he : Zar P t = some e) (hsz : Zav P e = some sz) (h1 : Nat.beq sz (C.sz E) = true) (hends : ZqA (T := T) n lo.isSome hi.isSome ix = some (l, u)) (hb : 0 <= l /\ l <= u /\ u <= zs.length) (hk : k (.sl E ((zs.drop l.toNat).take (u.toNat - l.toNat)) none) h = some z) : Zb9 C P U ⟨d, .slice t x lo hi none, ty, pos, af, g⟩ (v :: ix) h k z := by
 have e1 := Nat.eq_of_beq_eq_true h1
 obtain ⟨b1, b2, b3⟩ := hb
 refine ⟨_, _, hk, fun ρ σ as_ hs H => ?_⟩
 obtain ⟨a, bs, rfl, h3, h4⟩ := hs.to
 obtain ⟨A, c, cs, rest, rfl, l1, l2, l3, l4, l5⟩ := hv ρ a h3
 have hlen := l5.len
 rw [Zcl] at hlen
 have hse : ZbE n c lo.isSome hi.isSome (none : Option Operand).isSome bs l.toNat u.toNat c := by
  generalize lo.isSome = bl at hends ⊢
  generalize hi.isSome = bh at hends ⊢
  unfold ZqA at hends
  split at hends
  ·injection hends with hends; injection hends with f1 f2; subst f1 f2
   rw [ZbA] at h4; subst h4
   exact ⟨rfl, by simp, rfl⟩
  ·injection hends with hends; injection hends with f1 f2; subst f1 f2
   obtain ⟨b, rfl, h5⟩ := ZeG.1 h4
   rw [Zaw.1 h5]
   exact ⟨⟨_, (AV.val_raw _).trans (congrArg (Value.int _) (Int.toNat_of_nonneg (by omega)).symm)⟩, by simp, rfl⟩
  ·injection hends with hends; injection hends with f1 f2; subst f1 f2
   obtain ⟨b, rfl, h5⟩ := ZeG.1 h4
   rw [Zaw.1 h5]
   exact ⟨rfl, ⟨_, (AV.val_raw _).trans (congrArg (Value.int _) (Int.toNat_of_nonneg (by omega)).symm)⟩, rfl⟩
  ·injection hends with hends; injection hends with f1 f2; subst f1 f2
   obtain ⟨b, b', rfl, h5, h6⟩ := Zig.1 h4
   rw [Zaw.1 h5, Zaw.1 h6]
   exact ⟨⟨_, (AV.val_raw _).trans (congrArg (Value.int _) (Int.toNat_of_nonneg (by omega)).symm)⟩, ⟨_, (AV.val_raw _).trans (congrArg (Value.int _) (Int.toNat_of_nonneg (by omega)).symm)⟩, rfl⟩
  ·cases hends
 have hnl : ((zs.drop l.toNat).take (u.toNat - l.toNat)).length = u.toNat - l.toNat := by simp; omega
 refine ⟨e, sz, he, hsz, l.toNat, u.toNat, c, hse, by omega, by omega, Nat.le_refl _, ρ, ?_, H, .refl _ _ _ _⟩
 by_cases hc : c = l.toNat
 ·rw [if_pos hc, if_pos hc]
  have hz0 : u.toNat - l.toNat = 0 := by omega
  have hx0 : (zs.drop l.toNat).take (u.toNat - l.toNat) = [] := by rw [hz0]; simp
  rw [hx0, hz0, show c - l.toNat = 0 from by omega]
  exact Zb8.2 ⟨A, 0, [], [], rfl, Nat.le_refl _, Nat.zero_le _, Nat.zero_le _, fun _ => ⟨rfl, rfl⟩, .none⟩
 ·rw [if_neg hc, if_neg hc]
  refine Zb8.2 ⟨A.map (·.add (l.toNat * sz)), c - l.toNat, (cs.drop (l.toNat * sz)).take ((u.toNat - l.toNat) * sz), (cs.drop (l.toNat * sz)).drop ((u.toNat - l.toNat) * sz) ++ rest, ?_, by rw [hnl]; omega, by omega, by rw [hnl]; omega, fun hA => ?_, ?_⟩
  ·rw [hnl, <- List.append_assoc, List.take_append_drop, List.drop_append_of_le_length (by rw [hlen, e1]; exact Nat.mul_le_mul_right _ (by omega))]
  ·cases A with
   | none => have := l4 rfl; rw [hnl]; omega
   | some _ => cases hA
  ·have := (l5.drop (l.toNat * sz)).take ((u.toNat - l.toNat) * sz)
   rw [e1, Zeq, Zer] at this
   rw [e1]; exact this
theorem ZsZ {x hi mx : Operand} {lo : Option Operand} {v : XV T} {ix : List (XV T)} (hk : (ZqB C P t lo.isSome v ix fun v => k v h) = some z) : Zb9 C P U ⟨d, .slice t x lo (some hi) (some mx), ty, pos, af, g⟩ (v :: ix) h k z := by
 unfold ZqB at hk
 split at hk
 rotate_left
 ·cases hk
 rename_i E xs ow
 split at hk
 rotate_left
 ·cases hk
 rename_i e he
 split at hk
 rotate_left
 ·cases hk
 rename_i sz hsz
 split at hk
 rotate_left
 ·cases hk
 rename_i h1
 split at hk
 rotate_left
 ·cases hk
 rename_i l u m hends
 split at hk
 rotate_left
 ·cases hk
 rename_i hb
 have e1 := Nat.eq_of_beq_eq_true h1
 obtain ⟨b1, b2, b3, b4⟩ := hb
 refine ⟨_, _, hk, fun ρ σ as_ hs H => ?_⟩
 obtain ⟨a, bs, rfl, h3, h4⟩ := hs.to
 obtain ⟨A, c, cs, rest, rfl, l1, l2, l3, l4, l5⟩ := Zfp h3
 have hlen := l5.len
 rw [Zcl] at hlen
 have hse : ZbE xs.length c lo.isSome (some hi).isSome (some mx).isSome bs l.toNat u.toNat m.toNat := by
  generalize lo.isSome = bl at hends ⊢
  unfold ZrC at hends
  split at hends
  ·injection hends with hends; injection hends with f1 f2; injection f2 with f2 f3; subst f1 f2 f3
   obtain ⟨b, b', rfl, h5, h6⟩ := Zig.1 h4
   rw [Zaw.1 h5, Zaw.1 h6]
   exact ⟨rfl, ⟨_, (AV.val_raw _).trans (congrArg (Value.int _) (Int.toNat_of_nonneg (by omega)).symm)⟩, ⟨_, (AV.val_raw _).trans (congrArg (Value.int _) (Int.toNat_of_nonneg (by omega)).symm)⟩⟩
  ·injection hends with hends; injection hends with f1 f2; injection f2 with f2 f3; subst f1 f2 f3
   obtain ⟨b, bs', rfl, h5, h6⟩ := h4.to
   obtain ⟨b', b'', rfl, h7, h8⟩ := Zig.1 h6
   rw [Zaw.1 h5, Zaw.1 h7, Zaw.1 h8]
   exact ⟨⟨_, (AV.val_raw _).trans (congrArg (Value.int _) (Int.toNat_of_nonneg (by omega)).symm)⟩, ⟨_, (AV.val_raw _).trans (congrArg (Value.int _) (Int.toNat_of_nonneg (by omega)).symm)⟩, ⟨_, (AV.val_raw _).trans (congrArg (Value.int _) (Int.toNat_of_nonneg (by omega)).symm)⟩⟩
  ·cases hends
 have hnl : ((xs.drop l.toNat).take (u.toNat - l.toNat)).length = u.toNat - l.toNat := by simp; omega
 refine ⟨e, sz, he, hsz, l.toNat, u.toNat, m.toNat, hse, by omega, by omega, by omega, ρ, ?_, H, .refl _ _ _ _⟩
 by_cases hc : m.toNat = l.toNat
 ·rw [if_pos hc, if_pos hc]
  have hz0 : u.toNat - l.toNat = 0 := by omega
  have hx0 : (xs.drop l.toNat).take (u.toNat - l.toNat) = [] := by rw [hz0]; simp
  rw [hx0, hz0, show m.toNat - l.toNat = 0 from by omega]
  exact Zb8.2 ⟨A, 0, [], [], rfl, Nat.le_refl _, Nat.zero_le _, Nat.zero_le _, fun _ => ⟨rfl, rfl⟩, .none⟩
 ·rw [if_neg hc, if_neg hc]
  refine Zb8.2 ⟨A.map (·.add (l.toNat * sz)), m.toNat - l.toNat, (cs.drop (l.toNat * sz)).take ((u.toNat - l.toNat) * sz), (cs.drop (l.toNat * sz)).drop ((u.toNat - l.toNat) * sz) ++ rest, ?_, by rw [hnl]; omega, by omega, by rw [hnl]; omega, fun hA => ?_, ?_⟩
  ·rw [hnl, <- List.append_assoc, List.take_append_drop, List.drop_append_of_le_length (by rw [hlen, e1]; exact Nat.mul_le_mul_right _ (by omega))]
  ·cases A with
   | none => have := l4 rfl; rw [hnl]; omega
   | some _ => cases hA
  ·have := (l5.drop (l.toNat * sz)).take ((u.toNat - l.toNat) * sz)
   rw [e1, Zeq, Zer] at this
   rw [e1]; exact this
theorem Zut {x : Operand} {lo hi : Option Operand} {v : XV T} {ix : List (XV T)} (hk : (Zum C P t lo.isSome hi.isSome v ix fun v => k v h) = some z) : Zb9 C P U ⟨d, .slice t x lo hi none, ty, pos, af, g⟩ (v :: ix) h k z := by
 unfold Zum at hk
 split at hk
 ·split at hk
  ·split at hk
   ·split at hk
    ·split at hk
     ·split at hk
      ·exact Zm8 (fun ρ a h3 => Zfp h3) ‹_› ‹_› ‹_› ‹_› ‹_› hk
      ·cases hk
     ·cases hk
    ·cases hk
   ·cases hk
  ·cases hk
 ·rename_i E xs ys
  split at hk
  ·split at hk
   ·split at hk
    ·split at hk
     ·split at hk
      ·refine Zm8 (zs := xs ++ ys) (fun ρ a h3 => ?_) ‹_› ‹_› ‹_› ‹_› ‹_› hk
       obtain ⟨A, c, cs, rest, rfl, g1, g2, g3, g4, g5⟩ := Zo3.1 h3
       exact ⟨A, c, cs, rest, rfl, by rw [List.length_append]; exact g1, g2, by rw [List.length_append]; exact g3, fun e => by rw [List.length_append]; exact g4 e, g5⟩
      ·cases hk
     ·cases hk
    ·cases hk
   ·cases hk
  ·cases hk
 ·cases hk
end
end Go.Proofs.YteempnebenjkmaaGreatDoor
