/- XX1, XX2, XX3, XX4, XX5, XX6, XXa, XXs, XXt, XXu, XXv, XXm, XX7, XX8, XX9, XX10, XX11, XX12, XX13, XX14, XX15, XX16, XFz, XTw, XCl, XLe in one. -/
import Derived.Test.YtiienjjhlibopaaGreatDoorBb
import Derived.Laws.Concat
import Derived.Laws.Cover1
import Derived.Laws.AppendOwn
import Derived.Laws.MakeOwn
import Derived.Lib.AppendZerosOnto
namespace Go.Proofs.YtiienjjhlibopaaGreatDoor
open Go.RowKit
set_option maxRecDepth 100000
set_option linter.unusedVariables false
inductive XV (T : Nat -> Type) : Type where
 | int (k : IntKind) (n : Int)
 | bool (b : Bool)
 | str (s : List UInt8)
 | sl (E : Nat) (xs : List (T E)) (own : Option Nat)
 | slx (E : Nat) (xs ys : List (T E))
 | nil
 | ptr (i o : Nat)
 | nilptr
 | el (E : Nat) (x : T E) (o : Nat)
 | agg (l : List (XV T))
 | tup (l : List (XV T))
 | fn (f : Nat)
 | as (E i lo n : Nat) (co : Option Nat)
 | ap (E i k o : Nat)
 | clo (f : Nat) (ps : List Nat)
 | mp (E : Nat) (k : IntKind) (tb : List (Int × List (T E)))
 | mo (i : Nat)
 | gv (i c : Nat) (l : List Nat)
 | nmap
 | vl (l : List (XV T))
 | ce (l : List (XV T))
 | undef
 | junk
variable {T : Nat -> Type}
instance : Inhabited (XV T) := ⟨.junk⟩
def XV.closed : XV T -> Bool
 | .int _ _ | .bool _ | .str _ | .nil | .nilptr | .nmap | .fn _ => true
 | .sl _ _ none => true
 | .slx _ _ _ => true
 | _ => false
def XV.one : XV T -> Bool
 | .int _ _ | .bool _ | .str _ | .nil | .nilptr | .fn _ | .sl _ _ _ | .slx _ _ _ | .ptr _ _ | .as _ _ _ _ _ | .clo _ _ | .mo _ | .gv _ _ _ | .nmap => true
 | _ => false
def AV.blkO : AV -> Option Nat
 | .raw (.pointer (some ad)) => some ad.block
 | .lst (some ad) _ _ _ => some ad.block
 | .raw (.map (some b)) => some b
 | _ => none
def AV.owns : AV -> Nat -> Prop
 | .tup l, b => ∃ x ∈ l, x.blkO = some b
 | a, b => a.blkO = some b
inductive Wk : XV T -> XV T -> Prop where
 | same (v : XV T) : Wk v v
 | drop (E : Nat) (xs : List (T E)) (r : Nat) : Wk (.sl E xs (some r)) (.sl E xs none)
 | nil (E : Nat) : Wk .nil (.sl E [] none)
 | spare (E : Nat) (xs ys : List (T E)) : Wk (.slx E xs ys) (.sl E xs none)
 | nilx (E : Nat) : Wk .nil (.slx E [] [])
inductive Wks : List (XV T) -> List (XV T) -> Prop where
 | nil : Wks [] []
 | cons {v u vs us} : Wk v u -> Wks vs us -> Wks (v :: vs) (u :: us)
structure ZbD (T : Nat -> Type) where
 enc : (E : Nat) -> T E -> List (XV T)
 dec : (E : Nat) -> List (XV T) -> Option (T E)
 sz : Nat -> Nat
 code : Nat -> Option Nat
 arrm : Nat -> Bool := fun _ => false
 full : Nat -> Bool := fun _ => false
 scr : Nat -> Bool := fun _ => false
 byt : (E : Nat) -> List (T E) -> Option (List UInt8) := fun _ _ => none
 unb : (E : Nat) -> List UInt8 -> Option (List (T E)) := fun _ _ => none
 len : ∀ E x, (enc E x).length = sz E
 pos : ∀ E, 0 < sz E
 shut : ∀ E x, ∀ v ∈ enc E x, v.closed = true
 back : ∀ E l x, dec E l = some x -> Wks l (enc E x)
 byt_ok : ∀ E xs bs, byt E xs = some bs -> xs.flatMap (enc E) = bs.map (fun b => XV.int .u8 (b.toNat : Int)) := by intro E xs bs h; cases h
 byt_sz : ∀ E xs bs, byt E xs = some bs -> sz E = 1 := by intro E xs bs h; cases h
 unb_ok : ∀ E bs xs, unb E bs = some xs -> xs.flatMap (enc E) = bs.map (fun b => XV.int .u8 (b.toNat : Int)) := by intro E bs xs h; cases h
 unb_len : ∀ E bs xs, unb E bs = some xs -> xs.length = bs.length := by intro E bs xs h; cases h
 gsv : Nat -> List Nat -> AV -> AV -> Prop := fun _ _ _ _ => False
 gsv_one : ∀ c l r a, gsv c l r a -> (∃ v, a = .raw v /\ v.oneCell' = true) \/ ∃ A n c' cs, a = .lst A n c' cs := by intro c l r a h; exact h.elim
 gsv_ptr : ∀ c l r b o, gsv c l r (.raw (.pointer (some ⟨b, o, Option.none⟩))) -> r.owns b := by intro c l r b o h; exact h.elim
 gsh : (E : Nat) -> T E -> St -> AV -> Prop := fun _ _ _ _ => False
 gsh_used : ∀ E x σ a b, gsh E x σ a -> a.owns b -> σ.used b := by intro E x σ a b h; exact h.elim
 gsh_blk : ∀ E x σ a b, gsh E x σ a -> a.owns b -> ∃ k, σ.blk b = some k := by intro E x σ a b h; exact h.elim
 gsh_but : ∀ E x σ τ a S, gsh E x σ a -> But S σ τ -> (∀ b, a.owns b -> ¬ S b) -> gsh E x τ a := by intro E x σ τ a S h; exact h.elim
def ZhG (N : Nat) (ρ : Nat -> AV) : List Nat -> List Nat -> Prop
 | [], [] => True
 | i :: ps, b :: bs => (i < N /\ ρ i = Go.Proofs.YtiienjjhlibopaaGreatDoor.ptr b 0) /\ ZhG N ρ ps bs
 | _, _ => False
def Zs6 (f : Nat) (bs : List Nat) : Value := .func (.func f) #[] (bs.map fun b => Value.pointer (some ⟨b, 0, none⟩)).toArray
def Zef (b : Nat) : AV := .raw (.map (some b))
def ab (b K : Nat) : AV := .lst (some ⟨b, 0, none⟩) K K []
structure Zrc (sz N : Nat) (ρ : Nat -> AV) (i lo n : Nat) (co : Option Nat) (ad : Addr) (c : Nat) : Prop where
 lt : i < N
 le : n <= c
 max : c <= maxLen
 len : n <= 140737488355328
 at_ : ∃ b, ρ i = ab b (lo + c) /\ (0 < c -> ad = ⟨b, lo * sz, none⟩)
 cap : ∀ c', co = some c' -> c = c'
inductive SVs (C : ZbD T) (N : Nat) (ρ : Nat -> AV) : List (XV T) -> List AV -> Prop where
 | none : SVs C N ρ [] []
 | int (k : IntKind) (n : Int) {vs as_} : SVs C N ρ vs as_ -> SVs C N ρ (.int k n :: vs) (.raw (.int k n) :: as_)
 | bool (b : Bool) {vs as_} : SVs C N ρ vs as_ -> SVs C N ρ (.bool b :: vs) (.raw (.bool b) :: as_)
 | str (s : List UInt8) {vs as_} : SVs C N ρ vs as_ -> SVs C N ρ (.str s :: vs) (.raw (.string ⟨s.toArray⟩) :: as_)
 | sl (E : Nat) (xs : List (T E)) (A : Option Addr) (c : Nat) (cs rest : List AV) {vs as_} : xs.length <= c -> c <= maxLen -> xs.length <= 140737488355328 -> (A = Option.none -> xs.length = 0 /\ c = 0) ->
  SVs C N ρ (xs.flatMap (C.enc E)) cs -> SVs C N ρ vs as_ -> SVs C N ρ (.sl E xs Option.none :: vs) (.lst A xs.length c (cs ++ rest) :: as_)
 | slx (E : Nat) (xs ys : List (T E)) (A : Option Addr) (c : Nat) (cs rest : List AV) {vs as_} : xs.length + ys.length <= c -> c <= maxLen -> xs.length + ys.length <= 140737488355328 -> (A = Option.none -> xs.length + ys.length = 0 /\ c = 0) ->
  SVs C N ρ ((xs ++ ys).flatMap (C.enc E)) cs -> SVs C N ρ vs as_ -> SVs C N ρ (.slx E xs ys :: vs) (.lst A xs.length c (cs ++ rest) :: as_)
 | own (E : Nat) (xs : List (T E)) (r : Nat) {vs as_} : r < N -> SVs C N ρ (.sl E xs Option.none :: vs) (ρ r :: as_) -> SVs C N ρ (.sl E xs (some r) :: vs) (ρ r :: as_)
 | nil {vs as_} : SVs C N ρ vs as_ -> SVs C N ρ (.nil :: vs) (.lst Option.none 0 0 [] :: as_)
 | ptr (i o b : Nat) {vs as_} : i < N -> ρ i = Go.Proofs.YtiienjjhlibopaaGreatDoor.ptr b 0 -> SVs C N ρ vs as_ -> SVs C N ρ (.ptr i o :: vs) (Go.Proofs.YtiienjjhlibopaaGreatDoor.ptr b o :: as_)
 | nilptr {vs as_} : SVs C N ρ vs as_ -> SVs C N ρ (.nilptr :: vs) (.raw (.pointer Option.none) :: as_)
 | nmap {vs as_} : SVs C N ρ vs as_ -> SVs C N ρ (.nmap :: vs) (.raw (.map Option.none) :: as_)
 | el (E : Nat) (x : T E) (o : Nat) (ad : Addr) (cs rest : List AV) {vs as_} : SVs C N ρ ((C.enc E x).drop o) cs -> SVs C N ρ vs as_ -> SVs C N ρ (.el E x o :: vs) (.eptr ad (cs ++ rest) :: as_)
 | agg (l : List (XV T)) (ls : List AV) {vs as_} : SVs C N ρ l ls -> SVs C N ρ vs as_ -> SVs C N ρ (.agg l :: vs) (.agg ls :: as_)
 | tup (l : List (XV T)) (ls : List AV) {vs as_} : SVs C N ρ l ls -> SVs C N ρ vs as_ -> SVs C N ρ (.tup l :: vs) (.tup ls :: as_)
 | fn (f : Nat) {vs as_} : SVs C N ρ vs as_ -> SVs C N ρ (.fn f :: vs) (.raw (.func (.func f) #[] #[]) :: as_)
 | as (E i lo n : Nat) (co : Option Nat) (ad : Addr) (c : Nat) {vs as_} : Zrc (C.sz E) N ρ i lo n co ad c -> SVs C N ρ vs as_ -> SVs C N ρ (.as E i lo n co :: vs) (.raw (.slice (some ad) n c) :: as_)
 | asn (E i lo : Nat) (co : Option Nat) {vs as_} : i < N -> ρ i = .lst Option.none 0 0 [] -> (∀ c', co = some c' -> c' = 0) -> SVs C N ρ vs as_ -> SVs C N ρ (.as E i lo 0 co :: vs) (.lst Option.none 0 0 [] :: as_)
 | ap (E i k o b K : Nat) {vs as_} : i < N -> (ρ i = ab b K /\ k < K) -> SVs C N ρ vs as_ -> SVs C N ρ (.ap E i k o :: vs) (Go.Proofs.YtiienjjhlibopaaGreatDoor.ptr b (k * C.sz E + o) :: as_)
 | clo (f : Nat) (ps bs : List Nat) {vs as_} : ZhG N ρ ps bs -> SVs C N ρ vs as_ -> SVs C N ρ (.clo f ps :: vs) (.raw (Zs6 f bs) :: as_)
 | mp (E : Nat) (k : IntKind) (tb : List (Int × List (T E))) (b : Nat) (ls : List AV) {vs as_} : SVs C N ρ (tb.map fun p => XV.sl E p.2 Option.none) ls -> SVs C N ρ vs as_ -> SVs C N ρ (.mp E k tb :: vs) (.mp b (tb.map fun p => Value.int k p.1) ls :: as_)
 | mo (i b : Nat) {vs as_} : i < N -> ρ i = Zef b -> SVs C N ρ vs as_ -> SVs C N ρ (.mo i :: vs) (Zef b :: as_)
 | gv (i c : Nat) (l : List Nat) (a : AV) {vs as_} : i < N -> C.gsv c l (ρ i) a -> SVs C N ρ vs as_ -> SVs C N ρ (.gv i c l :: vs) (a :: as_)
 | vl (l : List (XV T)) (A : Option Addr) (c : Nat) (ls rest : List AV) {vs as_} : l.length <= c -> c <= maxLen -> l.length <= 140737488355328 -> (A = Option.none -> l.length = 0 /\ c = 0) -> SVs C N ρ l ls -> SVs C N ρ vs as_ -> SVs C N ρ (.vl l :: vs) (.lst A l.length c (ls ++ rest) :: as_)
 | ce (l : List (XV T)) (ad : Addr) (ls rest : List AV) {vs as_} : SVs C N ρ l ls -> SVs C N ρ vs as_ -> SVs C N ρ (.ce l :: vs) (.eptr ad (ls ++ rest) :: as_)
 | undef {vs as_} : SVs C N ρ vs as_ -> SVs C N ρ (.undef :: vs) (.raw Go.undef :: as_)
 | junk (a : AV) {vs as_} : SVs C N ρ vs as_ -> SVs C N ρ (.junk :: vs) (a :: as_)
abbrev SV (C : ZbD T) (N : Nat) (ρ : Nat -> AV) (v : XV T) (a : AV) : Prop := SVs C N ρ [v] [a]
section
variable {C : ZbD T} {N N' : Nat} {ρ ρ' : Nat -> AV} {v : XV T} {vs l : List (XV T)} {a : AV} {as_ ls : List AV}
theorem SVs.tail (h : SVs C N ρ (v :: vs) (a :: as_)) : SVs C N ρ vs as_ := by
 generalize hx : v :: vs = x at h
 generalize hy : a :: as_ = y at h
 induction h generalizing v vs a as_ with
 | none => cases hx
 | own E xs r hr h ih => injection hx with _ e2; injection hy with _ e4; subst e2 e4; exact ih rfl rfl
 | _ => injection hx with _ e2; injection hy with _ e4; subst e2 e4; assumption
theorem SVs.head (h : SVs C N ρ (v :: vs) (a :: as_)) : SV C N ρ v a := by
 generalize hx : v :: vs = x at h
 generalize hy : a :: as_ = y at h
 induction h generalizing v vs a as_ with
 | none => cases hx
 | own E xs r hr h ih => injection hx with e1 e2; injection hy with e3 e4; subst e1 e2 e3 e4; exact .own E xs r hr (ih rfl rfl)
 | sl E xs A c cs rest h1 h2 h3 h4 h5 h6 _ _ => injection hx with e1 e2; injection hy with e3 e4; subst e1 e2 e3 e4; exact .sl E xs A c cs rest h1 h2 h3 h4 h5 .none
 | slx E xs ys A c cs rest h1 h2 h3 h4 h5 h6 _ _ => injection hx with e1 e2; injection hy with e3 e4; subst e1 e2 e3 e4; exact .slx E xs ys A c cs rest h1 h2 h3 h4 h5 .none
 | el E x o ad cs rest h1 h2 _ _ => injection hx with e1 e2; injection hy with e3 e4; subst e1 e2 e3 e4; exact .el E x o ad cs rest h1 .none
 | agg l ls h1 h2 _ _ => injection hx with e1 e2; injection hy with e3 e4; subst e1 e2 e3 e4; exact .agg l ls h1 .none
 | tup l ls h1 h2 _ _ => injection hx with e1 e2; injection hy with e3 e4; subst e1 e2 e3 e4; exact .tup l ls h1 .none
 | ptr i o b h1 h2 h3 _ => injection hx with e1 e2; injection hy with e3 e4; subst e1 e2 e3 e4; exact .ptr i o b h1 h2 .none
 | mo i b h1 h2 h3 _ => injection hx with e1 e2; injection hy with e3 e4; subst e1 e2 e3 e4; exact .mo i b h1 h2 .none
 | gv i c l v h1 h2 h3 _ => injection hx with e1 e2; injection hy with e3 e4; subst e1 e2 e3 e4; exact .gv i c l _ h1 h2 .none
 | int k n h _ => injection hx with e1 e2; injection hy with e3 e4; subst e1 e2 e3 e4; exact .int k n .none
 | bool b h _ => injection hx with e1 e2; injection hy with e3 e4; subst e1 e2 e3 e4; exact .bool b .none
 | str s h _ => injection hx with e1 e2; injection hy with e3 e4; subst e1 e2 e3 e4; exact .str s .none
 | nil h _ => injection hx with e1 e2; injection hy with e3 e4; subst e1 e2 e3 e4; exact .nil .none
 | nilptr h _ => injection hx with e1 e2; injection hy with e3 e4; subst e1 e2 e3 e4; exact .nilptr .none
 | nmap h _ => injection hx with e1 e2; injection hy with e3 e4; subst e1 e2 e3 e4; exact .nmap .none
 | as E i lo n co ad c h1 _ _ => injection hx with e1 e2; injection hy with e3 e4; subst e1 e2 e3 e4; exact .as E i lo n co ad c h1 .none
 | asn E i lo co h1 h2 h3 _ _ => injection hx with e1 e2; injection hy with e3 e4; subst e1 e2 e3 e4; exact .asn E i lo co h1 h2 h3 .none
 | ap E i k o b K h1 h2 _ _ => injection hx with e1 e2; injection hy with e3 e4; subst e1 e2 e3 e4; exact .ap E i k o b K h1 h2 .none
 | clo f ps bs h1 _ _ => injection hx with e1 e2; injection hy with e3 e4; subst e1 e2 e3 e4; exact .clo f ps bs h1 .none
 | fn f h _ => injection hx with e1 e2; injection hy with e3 e4; subst e1 e2 e3 e4; exact .fn f .none
 | mp E kk tb b ls h1 h2 _ _ => injection hx with e1 e2; injection hy with e3 e4; subst e1 e2 e3 e4; exact .mp E kk tb b ls h1 .none
 | vl l A c ls rest h1 h2 h3 h4 h5 h6 _ _ => injection hx with e1 e2; injection hy with e3 e4; subst e1 e2 e3 e4; exact .vl l A c ls rest h1 h2 h3 h4 h5 .none
 | ce l ad ls rest h1 h2 _ _ => injection hx with e1 e2; injection hy with e3 e4; subst e1 e2 e3 e4; exact .ce l ad ls rest h1 .none
 | undef h _ => injection hx with e1 e2; injection hy with e3 e4; subst e1 e2 e3 e4; exact .undef .none
 | junk a h _ => injection hx with e1 e2; injection hy with e3 e4; subst e1 e2 e3 e4; exact .junk _ .none
theorem SVs.cons (h : SV C N ρ v a) (k : SVs C N ρ vs as_) : SVs C N ρ (v :: vs) (a :: as_) := by
 change SVs C N ρ [v] [a] at h
 generalize hx : [v] = x at h
 generalize hy : [a] = y at h
 induction h generalizing v a with
 | none => cases hx
 | own E xs r hr h ih => injection hx with e1 e2; injection hy with e3 e4; subst e1 e2 e3 e4; exact .own E xs r hr (ih rfl rfl)
 | sl E xs A c cs rest h1 h2 h3 h4 h5 h6 _ _ => injection hx with e1 e2; injection hy with e3 e4; subst e1 e2 e3 e4; exact .sl E xs A c cs rest h1 h2 h3 h4 h5 k
 | slx E xs ys A c cs rest h1 h2 h3 h4 h5 h6 _ _ => injection hx with e1 e2; injection hy with e3 e4; subst e1 e2 e3 e4; exact .slx E xs ys A c cs rest h1 h2 h3 h4 h5 k
 | el E x o ad cs rest h1 h2 _ _ => injection hx with e1 e2; injection hy with e3 e4; subst e1 e2 e3 e4; exact .el E x o ad cs rest h1 k
 | agg l ls h1 h2 _ _ => injection hx with e1 e2; injection hy with e3 e4; subst e1 e2 e3 e4; exact .agg l ls h1 k
 | tup l ls h1 h2 _ _ => injection hx with e1 e2; injection hy with e3 e4; subst e1 e2 e3 e4; exact .tup l ls h1 k
 | ptr i o b h1 h2 h3 _ => injection hx with e1 e2; injection hy with e3 e4; subst e1 e2 e3 e4; exact .ptr i o b h1 h2 k
 | mo i b h1 h2 h3 _ => injection hx with e1 e2; injection hy with e3 e4; subst e1 e2 e3 e4; exact .mo i b h1 h2 k
 | gv i c l v h1 h2 h3 _ => injection hx with e1 e2; injection hy with e3 e4; subst e1 e2 e3 e4; exact .gv i c l _ h1 h2 k
 | int k' n h _ => injection hx with e1 e2; injection hy with e3 e4; subst e1 e2 e3 e4; exact .int k' n k
 | bool b h _ => injection hx with e1 e2; injection hy with e3 e4; subst e1 e2 e3 e4; exact .bool b k
 | str s h _ => injection hx with e1 e2; injection hy with e3 e4; subst e1 e2 e3 e4; exact .str s k
 | nil h _ => injection hx with e1 e2; injection hy with e3 e4; subst e1 e2 e3 e4; exact .nil k
 | nilptr h _ => injection hx with e1 e2; injection hy with e3 e4; subst e1 e2 e3 e4; exact .nilptr k
 | nmap h _ => injection hx with e1 e2; injection hy with e3 e4; subst e1 e2 e3 e4; exact .nmap k
 | as E i lo n co ad c h1 _ _ => injection hx with e1 e2; injection hy with e3 e4; subst e1 e2 e3 e4; exact .as E i lo n co ad c h1 k
 | asn E i lo co h1 h2 h3 _ _ => injection hx with e1 e2; injection hy with e3 e4; subst e1 e2 e3 e4; exact .asn E i lo co h1 h2 h3 k
 | ap E i k' o b K h1 h2 _ _ => injection hx with e1 e2; injection hy with e3 e4; subst e1 e2 e3 e4; exact .ap E i k' o b K h1 h2 k
 | clo f ps bs h1 _ _ => injection hx with e1 e2; injection hy with e3 e4; subst e1 e2 e3 e4; exact .clo f ps bs h1 k
 | fn f h _ => injection hx with e1 e2; injection hy with e3 e4; subst e1 e2 e3 e4; exact .fn f k
 | mp E kk tb b ls h1 h2 _ _ => injection hx with e1 e2; injection hy with e3 e4; subst e1 e2 e3 e4; exact .mp E kk tb b ls h1 k
 | vl l A c ls rest h1 h2 h3 h4 h5 h6 _ _ => injection hx with e1 e2; injection hy with e3 e4; subst e1 e2 e3 e4; exact .vl l A c ls rest h1 h2 h3 h4 h5 k
 | ce l ad ls rest h1 h2 _ _ => injection hx with e1 e2; injection hy with e3 e4; subst e1 e2 e3 e4; exact .ce l ad ls rest h1 k
 | undef h _ => injection hx with e1 e2; injection hy with e3 e4; subst e1 e2 e3 e4; exact .undef k
 | junk a h _ => injection hx with e1 e2; injection hy with e3 e4; subst e1 e2 e3 e4; exact .junk _ k
theorem SVs.len (h : SVs C N ρ vs as_) : as_.length = vs.length := by
 induction h with
 | none => rfl
 | own E xs r hr h ih => simpa using ih
 | _ => simp_all
theorem ZdF : SVs C N ρ [] as_ ↔ as_ = [] := ⟨fun h => by cases h; rfl, fun h => by subst h; exact .none⟩
theorem SVs.to (h : SVs C N ρ (v :: vs) as_) : ∃ a bs, as_ = a :: bs /\ SV C N ρ v a /\ SVs C N ρ vs bs := by
 cases as_ with
 | nil => have := h.len; simp at this
 | cons a bs => exact ⟨a, bs, rfl, h.head, h.tail⟩
theorem SVs.take (h : SVs C N ρ vs as_) (n : Nat) : SVs C N ρ (vs.take n) (as_.take n) := by
 induction vs generalizing as_ n with
 | nil => rw [ZdF.1 h]; simpa using SVs.none
 | cons v vs ih =>
  obtain ⟨a, bs, rfl, h1, h2⟩ := h.to
  cases n with
  | zero => exact .none
  | succ n => exact .cons h1 (ih h2 n)
theorem SVs.shut (h : SVs C N ρ vs as_) (hc : ∀ v ∈ vs, v.closed = true) : SVs C N' ρ' vs as_ := by
 induction h with
 | none => exact .none
 | int k n h ih => exact .int k n (ih fun v hv => hc v (List.mem_cons_of_mem _ hv))
 | bool b h ih => exact .bool b (ih fun v hv => hc v (List.mem_cons_of_mem _ hv))
 | str s h ih => exact .str s (ih fun v hv => hc v (List.mem_cons_of_mem _ hv))
 | sl E xs A c cs rest h1 h2 h3 h4 h5 h6 ih1 ih2 =>
  refine .sl E xs A c cs rest h1 h2 h3 h4 (ih1 fun v hv => ?_) (ih2 fun v hv => hc v (List.mem_cons_of_mem _ hv))
  obtain ⟨x, _, hx⟩ := List.mem_flatMap.1 hv
  exact C.shut E x v hx
 | slx E xs ys A c cs rest h1 h2 h3 h4 h5 h6 ih1 ih2 =>
  refine .slx E xs ys A c cs rest h1 h2 h3 h4 (ih1 fun v hv => ?_) (ih2 fun v hv => hc v (List.mem_cons_of_mem _ hv))
  obtain ⟨x, _, hx⟩ := List.mem_flatMap.1 hv
  exact C.shut E x v hx
 | own E xs r hr h ih => exact absurd (hc _ (List.mem_cons_self)) (by simp [XV.closed])
 | nil h ih => exact .nil (ih fun v hv => hc v (List.mem_cons_of_mem _ hv))
 | nilptr h ih => exact .nilptr (ih fun v hv => hc v (List.mem_cons_of_mem _ hv))
 | nmap h ih => exact .nmap (ih fun v hv => hc v (List.mem_cons_of_mem _ hv))
 | fn f h ih => exact .fn f (ih fun v hv => hc v (List.mem_cons_of_mem _ hv))
 | ptr i o b h1 h2 h3 ih => exact absurd (hc _ (List.mem_cons_self)) (by simp [XV.closed])
 | mo i b h1 h2 h3 ih => exact absurd (hc _ (List.mem_cons_self)) (by simp [XV.closed])
 | gv i c l v h1 h2 h3 ih => exact absurd (hc _ (List.mem_cons_self)) (by simp [XV.closed])
 | el E x o ad cs rest h1 h2 ih1 ih2 => exact absurd (hc _ (List.mem_cons_self)) (by simp [XV.closed])
 | agg l ls h1 h2 ih1 ih2 => exact absurd (hc _ (List.mem_cons_self)) (by simp [XV.closed])
 | tup l ls h1 h2 ih1 ih2 => exact absurd (hc _ (List.mem_cons_self)) (by simp [XV.closed])
 | junk a h ih => exact absurd (hc _ (List.mem_cons_self)) (by simp [XV.closed])
 | undef h ih => exact absurd (hc _ (List.mem_cons_self)) (by simp [XV.closed])
 | as E i lo n co ad c h1 h2 ih => exact absurd (hc _ (List.mem_cons_self)) (by simp [XV.closed])
 | asn E i lo co h1 h2 h3 h4 ih => exact absurd (hc _ (List.mem_cons_self)) (by simp [XV.closed])
 | ap E i k o b K h1 h2 h3 ih => exact absurd (hc _ (List.mem_cons_self)) (by simp [XV.closed])
 | clo f ps bs h1 h2 ih => exact absurd (hc _ (List.mem_cons_self)) (by simp [XV.closed])
 | mp E kk tb b ls h1 h2 ih1 ih2 => exact absurd (hc _ (List.mem_cons_self)) (by simp [XV.closed])
 | vl l A c ls rest h1 h2 h3 h4 h5 h6 ih1 ih2 => exact absurd (hc _ (List.mem_cons_self)) (by simp [XV.closed])
 | ce l ad ls rest h1 h2 ih1 ih2 => exact absurd (hc _ (List.mem_cons_self)) (by simp [XV.closed])
theorem ZhG.ext (hN : N <= N') (hρ : ∀ i, i < N -> ρ' i = ρ i) : ∀ {ps bs : List Nat}, ZhG N ρ ps bs -> ZhG N' ρ' ps bs
 | [], [], _ => trivial
 | i :: ps, b :: bs, h => ⟨⟨Nat.lt_of_lt_of_le h.1.1 hN, (hρ i h.1.1).trans h.1.2⟩, ZhG.ext hN hρ h.2⟩
 | [], _ :: _, h => h.elim
 | _ :: _, [], h => h.elim
theorem Zrc.ext {sz i lo n c : Nat} {co : Option Nat} {ad : Addr} (h : Zrc sz N ρ i lo n co ad c) (hN : N <= N') (hρ : ∀ i, i < N -> ρ' i = ρ i) : Zrc sz N' ρ' i lo n co ad c := ⟨Nat.lt_of_lt_of_le h.lt hN, h.le, h.max, h.len, by obtain ⟨b, h1, h2⟩ := h.at_; exact ⟨b, (hρ i h.lt).trans h1, h2⟩, h.cap⟩
theorem SVs.ext (h : SVs C N ρ vs as_) (hN : N <= N') (hρ : ∀ i, i < N -> ρ' i = ρ i) : SVs C N' ρ' vs as_ := by
 induction h with
 | none => exact .none
 | int k n h ih => exact .int k n ih
 | bool b h ih => exact .bool b ih
 | str s h ih => exact .str s ih
 | sl E xs A c cs rest h1 h2 h3 h4 h5 h6 ih1 ih2 => exact .sl E xs A c cs rest h1 h2 h3 h4 ih1 ih2
 | slx E xs ys A c cs rest h1 h2 h3 h4 h5 h6 ih1 ih2 => exact .slx E xs ys A c cs rest h1 h2 h3 h4 ih1 ih2
 | own E xs r hr h ih => rw [<- hρ r hr] at ih ⊢; exact .own E xs r (Nat.lt_of_lt_of_le hr hN) ih
 | nil h ih => exact .nil ih
 | nilptr h ih => exact .nilptr ih
 | nmap h ih => exact .nmap ih
 | fn f h ih => exact .fn f ih
 | undef h ih => exact .undef ih
 | as E i lo n co ad c h1 h2 ih => exact .as E i lo n co ad c (h1.ext hN hρ) ih
 | asn E i lo co h1 h2 h3 h4 ih => exact .asn E i lo co (Nat.lt_of_lt_of_le h1 hN) ((hρ i h1).trans h2) h3 ih
 | ap E i k o b K h1 h2 h3 ih => exact .ap E i k o b K (Nat.lt_of_lt_of_le h1 hN) ⟨(hρ i h1).trans h2.1, h2.2⟩ ih
 | clo f ps bs h1 h2 ih => exact .clo f ps bs (h1.ext hN hρ) ih
 | mp E kk tb b ls h1 h2 ih1 ih2 => exact .mp E kk tb b ls ih1 ih2
 | vl l A c ls rest h1 h2 h3 h4 h5 h6 ih1 ih2 => exact .vl l A c ls rest h1 h2 h3 h4 ih1 ih2
 | ce l ad ls rest h1 h2 ih1 ih2 => exact .ce l ad ls rest ih1 ih2
 | ptr i o b h1 h2 h3 ih => exact .ptr i o b (Nat.lt_of_lt_of_le h1 hN) ((hρ i h1).trans h2) ih
 | mo i b h1 h2 h3 ih => exact .mo i b (Nat.lt_of_lt_of_le h1 hN) ((hρ i h1).trans h2) ih
 | gv i c l v h1 h2 h3 ih => exact .gv i c l _ (Nat.lt_of_lt_of_le h1 hN) (by rw [hρ i h1]; exact h2) ih
 | el E x o ad cs rest h1 h2 ih1 ih2 => exact .el E x o ad cs rest ih1 ih2
 | agg l ls h1 h2 ih1 ih2 => exact .agg l ls ih1 ih2
 | tup l ls h1 h2 ih1 ih2 => exact .tup l ls ih1 ih2
 | junk a h ih => exact .junk a ih
theorem SVs.one (h : SV C N ρ v a) (ho : v.one = true) : a.one = true := by
 change SVs C N ρ [v] [a] at h
 generalize hx : [v] = x at h
 generalize hy : [a] = y at h
 induction h generalizing v a with
 | none => cases hx
 | own E xs r hr h ih => injection hx with e1 e2; injection hy with e3 e4; subst e1 e2 e3 e4; exact ih rfl rfl rfl
 | el E x o ad cs rest h1 h2 _ _ => injection hx with e1 e2; injection hy with e3 e4; subst e1 e2 e3 e4; rfl
 | agg l ls h1 h2 _ _ => injection hx with e1 e2; subst e1; simp [XV.one] at ho
 | tup l ls h1 h2 _ _ => injection hx with e1 e2; subst e1; simp [XV.one] at ho
 | junk a h _ => injection hx with e1 e2; subst e1; simp [XV.one] at ho
 | undef h _ => injection hx with e1 e2; subst e1; simp [XV.one] at ho
 | mp E kk tb b ls h1 h2 _ _ => injection hx with e1 e2; subst e1; simp [XV.one] at ho
 | vl l A c ls rest h1 h2 h3 h4 h5 h6 _ _ => injection hx with e1 e2; subst e1; simp [XV.one] at ho
 | ce l ad ls rest h1 h2 _ _ => injection hx with e1 e2; subst e1; simp [XV.one] at ho
 | ap E i k o b h1 h2 _ _ => injection hx with e1 e2; subst e1; simp [XV.one] at ho
 | gv i c l v h1 h2 h3 _ =>
  injection hx with e1 e2; injection hy with e3 e4; subst e1 e2 e3 e4
  rcases C.gsv_one _ _ _ _ h2 with ⟨u, e, h⟩ | ⟨_, _, _, _, e⟩
  ·rw [e]; exact h
  ·rw [e]; rfl
 | _ => injection hx with e1 e2; injection hy with e3 e4; subst e1 e2 e3 e4; rfl
end
end Go.Proofs.YtiienjjhlibopaaGreatDoor
namespace Go.Proofs.YtiienjjhlibopaaGreatDoor
open Go.RowKit
set_option maxRecDepth 100000
set_option linter.unusedVariables false
variable {T : Nat -> Type}
inductive MK where
 | str
 | int (k : IntKind)
 | two (k j : IntKind)
 deriving DecidableEq
abbrev MK.ty : MK -> Type
 | .str => List UInt8
 | .int _ => Int
 | .two _ _ => Int × Int
def MK.val : (K : MK) -> K.ty -> Value
 | .str, s => .string ⟨s.toArray⟩
 | .int k, n => .int k n
 | .two k j, p => .agg #[.int k p.1, .int j p.2]
inductive HI (T : Nat -> Type) : Type where
 | obj (t : TypeId) (cells : List (XV T))
 | row (e sz : Nat)
 | arr (e : TypeId) (E : Nat) (kp : Bool) (xs : List (T E))
 | mmap (K V : MK) (es : List (K.ty × V.ty))
 | gen (E : Nat) (x : T E)
 | dead
def HI.alive : HI T -> Bool
 | .dead => false
 | _ => true
@[simp] theorem Zrd (b c : Nat) : (Zef b).owns c ↔ b = c := ⟨fun h => by injection h, fun h => by subst h; rfl⟩
@[simp] theorem ZrZ (b o c : Nat) : (ptr b o).owns c ↔ b = c := ⟨fun h => by injection h, fun h => by subst h; rfl⟩
@[simp] theorem ZpD (b o c : Nat) : (ab b o).owns c ↔ b = c := ⟨fun h => by injection h, fun h => by subst h; rfl⟩
theorem Zre {b c K L : Nat} (h : ab b K = ab c L) : b = c /\ K = L := by
 unfold ab at h
 injection h with h1 h2
 injection h1 with h1
 injection h1 with h1
 exact ⟨h1, h2⟩
def SH (C : ZbD T) (N : Nat) (ρ : Nat -> AV) (σ : St) (i : Nat) : HI T -> Prop
 | .obj t cells => ∃ b acs, ρ i = ptr b 0 /\ σ.blk b = some (.own t acs) /\ σ.used b /\ SVs C N ρ cells acs
 | .row e sz => ∃ n cells, Own σ e sz (ρ i) n cells
 | .arr e E _ xs => (∃ b K pre rest, ρ i = ab b K /\ σ.blk b = some (.own e (pre ++ rest)) /\ σ.used b /\ (∀ N' ρ', SVs C N' ρ' (xs.flatMap (C.enc E)) pre) /\ (pre ++ rest).length = K * C.sz E /\ K <= maxLen /\ (C.full E = true -> ∃ zs : List (T E), ∀ N' ρ', SVs C N' ρ' (zs.flatMap (C.enc E)) rest)) \/ (ρ i = .lst none 0 0 [] /\ xs = [])
 | .mmap K V es => ∃ b, ρ i = Zef b /\ σ.blk b = some (.map (es.map fun p => (K.val p.1, V.val p.2))) /\ σ.used b
 | .gen E x => C.gsh E x σ (ρ i)
 | .dead => True
structure Hp (C : ZbD T) (ρ : Nat -> AV) (h : List (HI T)) (σ : St) : Prop where
 it : ∀ i x, h[i]? = some x -> SH C h.length ρ σ i x
 dist : ∀ i j x y b, h[i]? = some x -> h[j]? = some y -> x.alive = true -> y.alive = true -> (ρ i).owns b -> (ρ j).owns b -> i = j
def Liv (ρ : Nat -> AV) (h : List (HI T)) (b : Nat) : Prop := ∃ i x, h[i]? = some x /\ x.alive = true /\ (ρ i).owns b
def Zs7 (U : Nat -> Prop) (ρ : Nat -> AV) (h : List (HI T)) (b : Nat) : Prop := ∃ i x, U i /\ h[i]? = some x /\ x.alive = true /\ (ρ i).owns b
structure Rel (U : Nat -> Prop) (ρ : Nat -> AV) (h : List (HI T)) (σ : St) (ρ' : Nat -> AV) (h' : List (HI T)) (τ : St) : Prop where
 len : h.length <= h'.length
 ext : ∀ i, i < h.length -> ρ' i = ρ i
 but : But (Zs7 U ρ h) σ τ
 born : ∀ b, Liv ρ' h' b -> Liv ρ h b \/ (σ.blk b = none /\ ¬ σ.used b)
section
variable {U : Nat -> Prop} {C : ZbD T} {ρ ρ' ρ'' : Nat -> AV} {h h' h'' : List (HI T)} {σ τ υ : St} {b i : Nat}
theorem ZnH {e sz n : Nat} {v : AV} {cells : List AV} (ho : Own σ e sz v n cells) (hb : v.owns b) : σ.used b /\ σ.blk b = some (.tail e (n * sz) ((match v with | .lst _ _ c _ => c | _ => 0) * sz)) := by
 rcases ho.2 with ⟨rfl, _⟩ | ⟨g, c, rfl, _, _, h1, h2⟩
 ·cases hb
 ·injection hb with hb
  subst hb
  exact ⟨h2, h1⟩
theorem Hp.used (H : Hp C ρ h σ) (hl : Liv ρ h b) : σ.used b := by
 obtain ⟨i, x, h1, h2, h3⟩ := hl
 have := H.it i x h1
 cases x with
 | gen E x => exact C.gsh_used _ _ _ _ _ this h3
 | mmap K V es =>
  obtain ⟨b', h4, _, h5⟩ := this
  rw [h4] at h3
  injection h3 with h3
  subst h3
  exact h5
 | obj t cells =>
  obtain ⟨b', acs, h4, _, h5, _⟩ := this
  rw [h4] at h3
  injection h3 with h3
  subst h3
  exact h5
 | arr e E kp xs =>
  rcases this with ⟨b', K', pre, rest, h4, _, h5, _⟩ | ⟨h4, _⟩
  ·rw [h4] at h3
   injection h3 with h3
   subst h3
   exact h5
  ·rw [h4] at h3; cases h3
 | row e sz =>
  obtain ⟨n, cells, ho⟩ := this
  exact (ZnH ho h3).1
 | dead => cases h2
theorem Rel.refl (U : Nat -> Prop) (ρ : Nat -> AV) (h : List (HI T)) (σ : St) : Rel U ρ h σ ρ h σ := ⟨Nat.le_refl _, fun _ _ => rfl, .refl _ _, fun _ hb => .inl hb⟩
theorem Zeg {α : Type} {l : List α} {j : Nat} {x y : α} (hx : (l ++ [x])[j]? = some y) : (j = l.length /\ y = x) \/ (j < l.length /\ l[j]? = some y) := by
 rw [List.getElem?_append] at hx
 split at hx
 ·exact .inr ⟨‹_›, hx⟩
 ·have : j - l.length = 0 := by
   rcases Nat.eq_zero_or_pos (j - l.length) with h0 | h0
   ·exact h0
   ·rw [List.getElem?_cons] at hx
    rw [if_neg (by omega)] at hx
    simp at hx
  rw [this] at hx
  simp at hx
  exact .inl ⟨by omega, hx.symm⟩
def rup (ρ : Nat -> AV) (i : Nat) (a : AV) : Nat -> AV := fun j => if j = i then a else ρ j
theorem ZcK (ρ : Nat -> AV) (i : Nat) (a : AV) : rup ρ i a i = a := by unfold rup; rw [if_pos rfl]
theorem ZiR {ρ : Nat -> AV} {i j : Nat} {a : AV} (h : j ≠ i) : rup ρ i a j = ρ j := by unfold rup; rw [if_neg h]
theorem Zcd {α : Type} {l : List α} {i : Nat} {x : α} (h : l[i]? = some x) : i < l.length := (List.getElem?_eq_some_iff.1 h).1
theorem Hp.newArr (kp : Bool) (H : Hp C ρ h σ) (hb : ¬ σ.used b) (hn : σ.blk b = none) (t : TypeId) {E K : Nat} {xs : List (T E)} {pre rest : List AV} (hc : ∀ N ρ, SVs C N ρ (xs.flatMap (C.enc E)) pre) (hK : (pre ++ rest).length = K * C.sz E) (hm : K <= maxLen) (hfl : C.full E = true -> ∃ zs : List (T E), ∀ N' ρ', SVs C N' ρ' (zs.flatMap (C.enc E)) rest) :
 Hp C (rup ρ h.length (ab b K)) (h ++ [.arr t E kp xs]) (σ.put b (.own t (pre ++ rest))) /\ Rel U ρ h σ (rup ρ h.length (ab b K)) (h ++ [.arr t E kp xs]) (σ.put b (.own t (pre ++ rest))) := by
 have hext : ∀ i, i < h.length -> rup ρ h.length (ab b K) i = ρ i := fun i hi => ZiR (by omega)
 have hlen : h.length <= (h ++ [HI.arr t E kp xs]).length := by simp
 have hnew : ∀ i x c, h[i]? = some x -> x.alive = true -> (ρ i).owns c -> c ≠ b := fun i x c h1 h2 h3 e => by
  subst e
  exact hb (H.used ⟨i, x, h1, h2, h3⟩)
 have hsh : ∀ i x, h[i]? = some x -> SH C (h ++ [HI.arr t E kp xs]).length (rup ρ h.length (ab b K)) (σ.put b (.own t (pre ++ rest))) i x := fun i x hx => by
  have hi := Zcd hx
  have := H.it i x hx
  cases x with
  | gen E x =>
   show C.gsh E x _ (rup ρ h.length (ab b K) i)
   rw [hext i hi]
   exact C.gsh_but _ _ _ _ _ (fun _ => False) this (Ext.put _ hn).but (fun _ _ hf => hf)
  | mmap K V es =>
   obtain ⟨b', h1, h2, h3⟩ := this
   have hne : b' ≠ b := hnew i _ b' hx rfl (by rw [h1]; rfl)
   exact ⟨b', (hext i hi).trans h1, by rw [ZaX _ _ hne]; exact h2, .inl h3⟩
  | obj t' cs' =>
   obtain ⟨b', acs', h1, h2, h3, h4⟩ := this
   have hne : b' ≠ b := hnew i _ b' hx rfl (by rw [h1]; rfl)
   exact ⟨b', acs', (hext i hi).trans h1, by rw [ZaX _ _ hne]; exact h2, .inl h3, h4.ext hlen hext⟩
  | arr e E kp xs =>
   rcases this with ⟨b', K', pre, rest, h1, h2, h3, h4⟩ | ⟨h1, h2⟩
   ·have hne : b' ≠ b := hnew i _ b' hx rfl (by rw [h1]; rfl)
    exact .inl ⟨b', K', pre, rest, (hext i hi).trans h1, by rw [ZaX _ _ hne]; exact h2, .inl h3, h4⟩
   ·exact .inr ⟨(hext i hi).trans h1, h2⟩
  | row e sz =>
   obtain ⟨n, cs', ho⟩ := this
   exact ⟨n, cs', by rw [hext i hi]; exact ho.ext (Ext.put _ hn)⟩
  | dead => trivial
 refine ⟨⟨fun i x hx => ?_, fun i j x y c hx hy ax ay bx by_ => ?_⟩, ⟨hlen, hext, (Ext.put _ hn).but, fun c hc => ?_⟩⟩
 ·rcases Zeg hx with ⟨rfl, rfl⟩ | ⟨hi, hx⟩
  ·exact .inl ⟨b, K, pre, rest, ZcK _ _ _, Zbo _ _ _, .inr rfl, hc, hK, hm, hfl⟩
  ·exact hsh i x hx
 ·rcases Zeg hx with ⟨rfl, rfl⟩ | ⟨hi, hx⟩ <;> rcases Zeg hy with ⟨rfl, rfl⟩ | ⟨hj, hy⟩
  ·rfl
  ·rw [ZcK] at bx; injection bx with bx; subst bx
   rw [hext j hj] at by_
   exact absurd rfl (hnew j y _ hy ay by_)
  ·rw [ZcK] at by_; injection by_ with by_; subst by_
   rw [hext i hi] at bx
   exact absurd rfl (hnew i x _ hx ax bx)
  ·rw [hext i hi] at bx; rw [hext j hj] at by_
   exact H.dist i j x y c hx hy ax ay bx by_
 ·obtain ⟨i, x, hx, ax, bx⟩ := hc
  rcases Zeg hx with ⟨rfl, rfl⟩ | ⟨hi, hx⟩
  ·rw [ZcK] at bx; injection bx with bx; subst bx
   exact .inr ⟨hn, hb⟩
  ·rw [hext i hi] at bx
   exact .inl ⟨i, x, hx, ax, bx⟩
end
end Go.Proofs.YtiienjjhlibopaaGreatDoor
namespace Go.Proofs.YtiienjjhlibopaaGreatDoor
open Go.RowKit
set_option maxRecDepth 100000
set_option linter.unusedVariables false
variable {T : Nat -> Type}
def XV.force {α : Type} (v : XV T) (k : XV T -> α) : α := match v with
 | .int a b => k (.int a b)
 | .bool b => k (.bool b)
 | .str s => k (.str s)
 | .sl E xs o => k (.sl E xs o)
 | .slx E xs ys => k (.slx E xs ys)
 | .nil => k .nil
 | .ptr i o => k (.ptr i o)
 | .nilptr => k .nilptr
 | .nmap => k .nmap
 | .el E x o => k (.el E x o)
 | .agg l => k (.agg l)
 | .tup l => k (.tup l)
 | .fn f => k (.fn f)
 | .as E i lo n co => k (.as E i lo n co)
 | .ap E i j o => k (.ap E i j o)
 | .clo f ps => k (.clo f ps)
 | .mp E kk tb => k (.mp E kk tb)
 | .mo i => k (.mo i)
 | .gv i c l => k (.gv i c l)
 | .vl l => k (.vl l)
 | .ce l => k (.ce l)
 | .undef => k .undef
 | .junk => k .junk
def Zl3 {α : Type} : List (XV T) -> (List (XV T) -> α) -> α
 | [], k => k []
 | v :: l, k => v.force fun v => Zl3 l fun l => k (v :: l)
@[simp] theorem Zr0 {α : Type} (v : XV T) (k : XV T -> α) : v.force k = k v := by cases v <;> rfl
@[simp] theorem Zrf {α : Type} (l : List (XV T)) (k : List (XV T) -> α) : Zl3 l k = k l := by
 induction l generalizing k with
 | nil => rfl
 | cons v l ih => simp [Zl3, ih]
section
variable {C : ZbD T} {N : Nat} {ρ : Nat -> AV} {a : AV} {as_ : List AV}
theorem Zeh {k : IntKind} {n : Int} : SV C N ρ (.int k n) a ↔ a = .raw (.int k n) := ⟨fun h => by cases h; rfl, fun h => by subst h; exact .int _ _ .none⟩
theorem Zl4 {b : Bool} : SV C N ρ (.bool b) a ↔ a = .raw (.bool b) := ⟨fun h => by cases h; rfl, fun h => by subst h; exact .bool _ .none⟩
theorem Zrg : SV C N ρ .nil a ↔ a = .lst none 0 0 [] := ⟨fun h => by cases h; rfl, fun h => by subst h; exact .nil .none⟩
theorem ZpE {E i lo n : Nat} {co : Option Nat} : SV C N ρ (.as E i lo n co) a ↔ (∃ ad c, a = .raw (.slice (some ad) n c) /\ Zrc (C.sz E) N ρ i lo n co ad c) \/ (a = .lst none 0 0 [] /\ n = 0 /\ i < N /\ ρ i = .lst none 0 0 [] /\ ∀ c', co = some c' -> c' = 0) := by
 constructor
 ·intro h
  cases h with
  | as _ _ _ _ _ ad c h1 _ => exact .inl ⟨ad, c, rfl, h1⟩
  | asn _ _ _ _ h1 h2 h3 _ => exact .inr ⟨rfl, rfl, h1, h2, h3⟩
 ·rintro (⟨ad, c, rfl, h⟩ | ⟨rfl, rfl, h1, h2, h3⟩)
  ·exact .as E i lo n co ad c h .none
  ·exact .asn E i lo co h1 h2 h3 .none
theorem Zl5 {l : List (XV T)} : SV C N ρ (.agg l) a ↔ ∃ ls, a = .agg ls /\ SVs C N ρ l ls := ⟨fun h => by cases h; exact ⟨_, rfl, ‹_›⟩, fun ⟨ls, e, h⟩ => by subst e; exact .agg l ls h .none⟩
theorem Zhz {E : Nat} {xs : List (T E)} : SV C N ρ (.sl E xs none) a ↔ ∃ A c cs rest, a = .lst A xs.length c (cs ++ rest) /\ xs.length <= c /\ c <= maxLen /\ xs.length <= 140737488355328 /\ (A = none -> xs.length = 0 /\ c = 0) /\ SVs C N ρ (xs.flatMap (C.enc E)) cs :=
 ⟨fun h => by cases h; exact ⟨_, _, _, _, rfl, ‹_›, ‹_›, ‹_›, ‹_›, ‹_›⟩, fun ⟨A, c, cs, rest, e, h1, h2, h3, h4, h5⟩ => by subst e; exact .sl E xs A c cs rest h1 h2 h3 h4 h5 .none⟩
theorem Zsi {x : XV T} : SVs C N ρ [x] as_ ↔ ∃ a, as_ = [a] /\ SV C N ρ x a := ⟨fun h => by obtain ⟨a, bs, rfl, h1, h2⟩ := h.to; rw [ZdF] at h2; subst h2; exact ⟨a, rfl, h1⟩, fun ⟨a, e, h⟩ => by subst e; exact h⟩
theorem SVs.ones {vs : List (XV T)} (h : SVs C N ρ vs as_) (ho : ∀ x ∈ vs, x.one = true) : ∀ a ∈ as_, a.one = true := by
 induction vs generalizing as_ with
 | nil => rw [ZdF.1 h]; simp
 | cons v vs ih =>
  obtain ⟨a, bs, rfl, h1, h2⟩ := h.to
  intro x hx
  rcases List.mem_cons.1 hx with rfl | hx
  ·exact SVs.one h1 (ho v (List.mem_cons_self))
  ·exact ih h2 (fun y hy => ho y (List.mem_cons_of_mem _ hy)) x hx
theorem Zlh {v : XV T} (h : v.closed = true) : v.one = true := by cases v <;> simp_all [XV.closed, XV.one]
end
def Tr (C : ZbD T) (P : Program) (U : Nat -> Prop) (f : FuncId) (args : List (XV T)) (h : List (HI T)) (r : XV T) (h' : List (HI T)) : Prop :=
 ∀ ρ σ vs, SVs C h.length ρ args vs -> Hp C ρ h σ -> Zan P f vs σ fun rv τ => ∃ ρ', SV C h'.length ρ' r rv /\ Hp C ρ' h' τ /\ Rel U ρ h σ ρ' h' τ
section
variable {C : ZbD T} {P : Program} {o : Oper} {vs : List (XV T)} {h : List (HI T)} {r : XV T}
end
end Go.Proofs.YtiienjjhlibopaaGreatDoor
namespace Go.Proofs.YtiienjjhlibopaaGreatDoor
open Go.RowKit
set_option maxRecDepth 100000
set_option linter.unusedVariables false
variable {T : Nat -> Type} {A : Type}
section
variable {P : Program} {op : BinOp} {t : TypeId} {ka kb : IntKind} {a b : Int} {k : XV T -> Option A} {z : A}
theorem ZnI (a b : List UInt8) : (a == b) = decide (a = b) := by by_cases h : a = b <;> simp [h]
theorem Zl6 (l : List UInt8) : (ByteArray.mk l.toArray).toList = l := by rw [ByteArray.toList_eq]
end
end Go.Proofs.YtiienjjhlibopaaGreatDoor
namespace Go.Proofs.YtiienjjhlibopaaGreatDoor
open Go.RowKit
set_option linter.unusedSimpArgs false
set_option maxRecDepth 100000
set_option linter.unusedVariables false
variable {T : Nat -> Type} {A : Type}
def Zf9 {α : Type} : List (HI T) -> (List (HI T) -> α) -> α
 | [], k => k []
 | .obj t cs :: l, k => Zf9 l fun l => k (.obj t cs :: l)
 | .row e sz :: l, k => Zf9 l fun l => k (.row e sz :: l)
 | .arr e E kp xs :: l, k => Zf9 l fun l => k (.arr e E kp xs :: l)
 | .mmap K V es :: l, k => Zf9 l fun l => k (.mmap K V es :: l)
 | .gen E x :: l, k => Zf9 l fun l => k (.gen E x :: l)
 | .dead :: l, k => Zf9 l fun l => k (.dead :: l)
@[simp] theorem Zrh {α : Type} (l : List (HI T)) (k : List (HI T) -> α) : Zf9 l k = k l := by
 induction l generalizing k with
 | nil => rfl
 | cons v l ih => cases v <;> simp [Zf9, ih]
def lkp {α : Type} : List (Int × α) -> Int -> Option α
 | [], _ => none
 | p :: l, n => bif decide (n = p.1) then some p.2 else lkp l n
structure Orc (T : Nat -> Type) (A : Type) where
 call : FuncId -> List (XV T) -> List (HI T) -> (XV T -> List (HI T) -> Option A) -> Option A
 on : Op -> List (XV T) -> Bool
 op : Op -> List (XV T) -> List (HI T) -> (XV T -> List (HI T) -> Option A) -> Option A
abbrev Tou (T : Nat -> Type) := FuncId -> List (XV T) -> List (HI T) -> List Nat
section
variable {C : ZbD T} {N : Nat} {ρ : Nat -> AV} {P : Program} {h : List (HI T)} {d : Option Nat} {ty t : TypeId} {pos : String} {af : Array Edge} {g : Option (Nat × Bool)} {z : A}
theorem ZjG {E : Nat} (xs : List (T E)) : (xs.flatMap (C.enc E)).length = xs.length * C.sz E := by
 induction xs with
 | nil => simp
 | cons x xs ih => rw [List.flatMap_cons, List.length_append, C.len, ih, List.length_cons, Nat.succ_mul]; omega
theorem ZnJ {E : Nat} (xs : List (T E)) (n : Nat) : (xs.flatMap (C.enc E)).take (n * C.sz E) = (xs.take n).flatMap (C.enc E) := by
 induction n generalizing xs with
 | zero => simp
 | succ n ih => cases xs with
  | nil => simp
  | cons x xs =>
   rw [List.flatMap_cons, List.take_succ_cons, List.flatMap_cons, <- ih, Nat.succ_mul, List.take_append, List.take_of_length_le (by rw [C.len]; omega), C.len]
   congr 2
   omega
end
end Go.Proofs.YtiienjjhlibopaaGreatDoor
namespace Go.Proofs.YtiienjjhlibopaaGreatDoor
open Go.RowKit
set_option linter.unusedSimpArgs false
set_option maxRecDepth 100000
set_option linter.unusedVariables false
variable {T : Nat -> Type} {A : Type}
section
variable {U : Nat -> Prop} {C : ZbD T} {N : Nat} {ρ : Nat -> AV} {P : Program} {h : List (HI T)} {d : Option Nat} {ty t : TypeId} {pos : String} {af : Array Edge} {g : Option (Nat × Bool)} {z : A} {orc : Orc T A} {k : XV T -> List (HI T) -> Option A} {vs : List (XV T)}
end
end Go.Proofs.YtiienjjhlibopaaGreatDoor
namespace Go.Proofs.YtiienjjhlibopaaGreatDoor
open Go.RowKit
set_option linter.unusedSimpArgs false
set_option maxRecDepth 100000
set_option linter.unusedVariables false
section
variable {P : Program} {w : World} {σ : St} {Z : Nat -> Prop}
theorem ZaG.write (hH : ZaG w σ Z) {b : Nat} {e : TypeId} {cs cs' : List AV} (hb : σ.blk b = some (.own e cs)) (hv : ∀ c ∈ cs', Zar w (σ.free Z) c) :
 ZaG (w.setRow b (cs'.map AV.val).toArray) (σ.set b (.own e cs')) Z /\ Grow w σ (w.setRow b (cs'.map AV.val).toArray) (σ.set b (.own e cs')) := by
 obtain ⟨hu, hh, hvs⟩ := hH.own _ _ _ hb
 have hg : Grow w σ (w.setRow b (cs'.map AV.val).toArray) (σ.set b (.own e cs')) := by
  refine ⟨rfl, rfl, rfl, by simp [World.setRow], fun _ _ h => h, fun b' hb' hn' => ?_, fun b' t' k s hb' ht' => ?_, fun _ h => h⟩
  ·have hne : b' ≠ b := by rintro rfl; rw [hb] at hn'; cases hn'
   exact ⟨setRow_other _ _ _ _ hne, by show (if b' = b then _ else σ.blk b') = _; rw [if_neg hne]; exact hn'⟩
  ·have hne : b' ≠ b := by rintro rfl; rw [hb] at ht'; cases ht'
   refine ⟨fun j v _ hv => ?_, .inr ⟨t', k, s, ?_, Nat.le_refl _⟩⟩
   ·rw [World.cell?_of_block (w := w) (setRow_other _ _ _ _ hne)]; exact hv
   ·show (if b' = b then _ else σ.blk b') = _
    rw [if_neg hne]; exact ht'
 refine ⟨⟨fun b' hu' => ?_, fun b' hz => ?_, fun b' t' cs2 hb' => ?_, fun b' t' k s hb' => ?_, fun b' es hb' => ?_⟩, hg⟩
 ·have := hH.used _ hu'; simpa [World.setRow] using this
 ·obtain ⟨z1, z2⟩ := hH.z _ hz
  have hne : b' ≠ b := by rintro rfl; rw [hb] at z2; cases z2
  refine ⟨by simpa [World.setRow] using z1, ?_⟩
  show (if b' = b then _ else σ.blk b') = _
  rw [if_neg hne]; exact z2
 ·change (if b' = b then some (Bk.own e cs') else σ.blk b') = _ at hb'
  split at hb'
  ·rename_i hbb
   injection hb' with hb'
   injection hb' with e1 e2
   subst e1 e2 hbb
   exact ⟨hu, setRow_heap _ _ _ _ _ _ hh, fun c hc => hg.valid (hv c hc)⟩
  ·rename_i hne
   obtain ⟨g1, g2, g3⟩ := hH.own _ _ _ hb'
   exact ⟨g1, (setRow_other _ _ _ _ hne).trans g2, fun c hc => hg.valid (g3 c hc)⟩
 ·change (if b' = b then some (Bk.own e cs') else σ.blk b') = _ at hb'
  split at hb'
  ·injection hb' with hb'; cases hb'
  ·rename_i hne
   obtain ⟨g1, cs2, g2, g3⟩ := hH.tail _ _ _ _ hb'
   exact ⟨g1, cs2, (setRow_other _ _ _ _ hne).trans g2, g3⟩
 ·change (if b' = b then some (Bk.own e cs') else σ.blk b') = _ at hb'
  split at hb'
  ·injection hb' with hb'; cases hb'
  ·rename_i hne
   obtain ⟨g1, a', c', g2, g3⟩ := hH.map _ _ hb'
   exact ⟨g1, a', c', (setRow_other _ _ _ _ hne).trans g2, g3⟩
theorem ZiS {b : Nat} {k : Bk} (hb : σ.blk b = some k) : σ.set b k = σ := St.ext' (fun c => by
 show (if c = b then some k else σ.blk c) = _
 split
 ·rename_i e; rw [e, hb]
 ·rfl) (fun _ => Iff.rfl)
theorem ZgR (cs : List AV) (o : Nat) : ZaR cs o [] = cs := by simp [ZaR]
theorem ZaG.storeAt (hH : ZaG w σ Z) {b off : Nat} {e : TypeId} {cs news : List AV} (hb : σ.blk b = some (.own e cs)) (hfit : off + news.length <= cs.length) (h1 : ∀ a ∈ news, a.one = true) (hv : ∀ a ∈ news, Zar w (σ.free Z) a) :
 (storeCells ⟨b, off, none⟩ (news.map AV.val)).run P w = .ok () (w.setRow b ((ZaR cs off news).map AV.val).toArray) /\
 ZaG (w.setRow b ((ZaR cs off news).map AV.val).toArray) (σ.set b (.own e (ZaR cs off news))) Z /\ Grow w σ (w.setRow b ((ZaR cs off news).map AV.val).toArray) (σ.set b (.own e (ZaR cs off news))) := by
 obtain ⟨hu, hh, hvs⟩ := hH.own _ _ _ hb
 have hst := run_storeCells_at P b off e (news.map AV.val) 0 (cs.map AV.val).toArray w hh (by simp; omega) (fun v hv => by
  simp only [List.mem_map] at hv
  obtain ⟨c, hc, rfl⟩ := hv
  exact AV.one_val (h1 c hc))
 have harr : ((cs.map AV.val).toArray.toList.take (off + 0) ++ news.map AV.val ++ (cs.map AV.val).toArray.toList.drop (off + 0 + (news.map AV.val).length)).toArray = ((ZaR cs off news).map AV.val).toArray := by
  simp [ZaR]
 rw [harr] at hst
 refine ⟨hst, hH.write hb fun c hc => ?_⟩
 unfold ZaR at hc
 simp only [List.mem_append] at hc
 rcases hc with (hc | hc) | hc
 ·exact hvs c (List.mem_of_mem_take hc)
 ·exact hv c hc
 ·exact hvs c (List.mem_of_mem_drop hc)
structure Src (σ : St) (sz : Nat) (y : AV) (m : Nat) (news : List AV) : Prop where
 len : news.length = m * sz
 one : ∀ a ∈ news, a.one = true
 at_ : ∃ A c, y.val = .slice A m c /\ (A = none -> m = 0)
 rd : ∀ w Z, ZaG w σ Z -> Zar w (σ.free Z) y -> (∀ a ∈ news, Zar w (σ.free Z) a) /\ ∀ ad c, y.val = .slice (some ad) m c -> ∀ j u, (news.map AV.val)[j]? = some u -> w.cell? (ad.add j) = some u
theorem Zl7 {e sz : Nat} (hs : ZaU P e = some sz) : ∃ i, P.info? e = some i /\ i.size = sz := by
 unfold ZaU at hs
 cases hi : P.info? e with
 | none => rw [hi] at hs; cases hs
 | some i => rw [hi] at hs; exact ⟨i, rfl, by simpa using hs⟩
theorem Zei {size n len cap : Nat} (h : n = 0) (A : Option Addr) : (Builtin.firstCells size n (.slice A len cap)).run P w = .ok #[] w := by
 subst h
 cases A <;> simp [Builtin.firstCells, loadCells, loadCellsFrom]
theorem ZiT {b lo n c m sz : Nat} {e t ty : TypeId} {cs news : List AV} {y : AV} {ad : Addr} (hH : ZaG w σ Z) (hV : Zar w (σ.free Z) y) (ht : ZaW P t = some e) (hs : ZaU P e = some sz) (hsz : 0 < sz) (hb : σ.blk b = some (.own e cs))
 (hcap : (lo + c) * sz <= cs.length) (had : 0 < c -> ad = ⟨b, lo * sz, none⟩) (src : Src σ sz y m news) (hroom : n + m <= c) :
 ∃ w', (Builtin.append_ #[t, t] ty #[.slice (some ad) n c, y.val]).run P w = .ok (.slice (some ad) (n + m) c) w' /\ ZaG w' (σ.set b (.own e (ZaR cs ((lo + n) * sz) news))) Z /\ Grow w σ w' (σ.set b (.own e (ZaR cs ((lo + n) * sz) news))) := by
 have hty := ZbO ht
 obtain ⟨i, hi, hsi⟩ := Zl7 hs
 subst hsi
 obtain ⟨A, c', hy, hA⟩ := src.at_
 obtain ⟨hnv, hrd⟩ := src.rd w Z hH hV
 by_cases hm : m = 0
 ·subst hm
  have hn : news = [] := List.eq_nil_of_length_eq_zero (by simpa using src.len)
  subst hn
  rw [ZgR, ZiS hb]
  refine ⟨w, ?_, hH, Grow.refl _ _⟩
  rw [hy]
  have hf := Zei (P := P) (w := w) (size := i.size) (n := 0) (len := 0) (cap := c') rfl A
  simp [Builtin.append_, run_underlying hty, sizeOf, typeInfo, hi, Builtin.lenOf, hf, (show n <= c by omega), storeCells]
 ·cases A with
  | none => exact absurd (hA rfl) hm
  | some a =>
   have had := had (by omega)
   subst had
   have hlen := src.len
   have hmul : (lo + n + m) * i.size <= (lo + c) * i.size := Nat.mul_le_mul_right _ (by omega)
   rw [Nat.add_mul] at hmul
   obtain ⟨g1, g2, g3⟩ := hH.storeAt (P := P) (off := (lo + n) * i.size) hb (by omega) src.one hnv
   refine ⟨_, ?_, g2, g3⟩
   rw [hy]
   have hf := run_firstCells_some (P := P) w i.size m a m c' (news.map AV.val) (by simpa using hlen) (hrd a c' hy)
   rw [Nat.add_mul] at g1
   have hst : (storeCells ((⟨b, lo * i.size, none⟩ : Addr).add (n * i.size)) (news.map AV.val)).run P w = .ok () (w.setRow b ((ZaR cs ((lo + n) * i.size) news).map AV.val).toArray) := by
    rw [Zci, Nat.add_mul]; exact g1
   simp only [Builtin.append_, run_underlying hty, sizeOf, typeInfo, hi, Builtin.lenOf, hroom, hf, hst, Sem.run_bind, Sem.run_pure, Result.andThen_ok]
   simp [run_underlying hty, hi, hroom, hf, hst]
theorem ZaG.made (hH : ZaG w σ Z) (t : TypeId) (cs : List AV) (hv : ∀ c ∈ cs, Zar w (σ.free Z) c) :
 ¬ σ.used w.heap.size /\ σ.blk w.heap.size = none /\ ZaG (w.drew.alloc (.cells (cs.map AV.val).toArray t)) (σ.put w.heap.size (.own t cs)) Z /\ Grow w σ (w.drew.alloc (.cells (cs.map AV.val).toArray t)) (σ.put w.heap.size (.own t cs)) := by
 have hH2 := hH.drew_
 have hgd := Grow.drew_ w σ
 obtain ⟨f1, f2⟩ := hH.fresh
 exact ⟨f1, f2, hH2.alloc_own t cs (fun c hc => hgd.valid (hv c hc)), hgd.trans (Grow.alloc hH2 _ _)⟩
theorem Zfp (zv : Value) (n : Nat) (hz : 0 < zv.cells.size) : ((List.replicate n ((List.range zv.cells.size).map fun i => AV.ofV (zv.cells[i % zv.cells.size]!))).flatten).map AV.val = (Builtin.zeroCells zv.cells n).toList := by
 apply List.ext_getElem?
 intro j
 induction n generalizing j with
 | zero => simp [Builtin.zeroCells]
 | succ n ih =>
  rw [List.replicate_succ, List.flatten_cons, List.map_append]
  by_cases hj : j < zv.cells.size
  ·rw [List.getElem?_append_left (by simpa using hj)]
   have hlt : j < (n + 1) * zv.cells.size := by rw [Nat.succ_mul]; omega
   simp [Builtin.zeroCells, hj, hlt]
  ·rw [List.getElem?_append_right (by simp; omega)]
   rw [ih]
   simp only [List.length_map, List.length_range, Builtin.zeroCells, Array.toList_map, Array.toList_range, List.getElem?_map]
   by_cases hj2 : j < (n + 1) * zv.cells.size
   ·have h2 := hj2
    rw [Nat.succ_mul] at h2
    rw [List.getElem?_range (by omega), List.getElem?_range hj2]
    simp only [Option.map_some, Option.some.injEq]
    congr 1
    exact (Nat.mod_eq_sub_mod (by omega)).symm
   ·have h2 := hj2
    rw [Nat.succ_mul] at h2
    rw [List.getElem?_eq_none (by simp; omega), List.getElem?_eq_none (by simp; omega)]
theorem ZiU {n c m sz bytes : Nat} {e t ty : TypeId} {z : Value} {olds news : List AV} {x y : AV} (hH : ZaG w σ Z) (hVx : Zar w (σ.free Z) x) (hV : Zar w (σ.free Z) y) (ht : ZaW P t = some e) (hs : ZaU P e = some sz) (hz : Zba P e = some z) (hby : Zdv P e = some bytes) (hzs : z.cells.size = sz) (hsz : 0 < sz)
 (srcx : Src σ sz x n olds) {A : Option Addr} (hx : x.val = .slice A n c) (hA0 : A = none -> c = 0) (src : Src σ sz y m news) (hg : c < n + m) (hnc : n <= c) (h63 : n + m <= maxLen) (hb : (n + m) * bytes <= 140737488355328) :
 ∃ cap w' rest, rest = ((List.replicate (cap - (n + m)) ((List.range z.cells.size).map fun i => AV.ofV (z.cells[i % z.cells.size]!))).flatten) /\ (Builtin.append_ #[t, t] ty #[x.val, y.val]).run P w = .ok (.slice (some ⟨w.heap.size, 0, none⟩) (n + m) cap) w' /\ n + m <= cap /\ cap <= maxLen /\ (olds ++ news ++ rest).length = cap * sz /\
  ¬ σ.used w.heap.size /\ σ.blk w.heap.size = none /\ ZaG w' (σ.put w.heap.size (.own e (olds ++ news ++ rest))) Z /\ Grow w σ w' (σ.put w.heap.size (.own e (olds ++ news ++ rest))) := by
 have hty := ZbO ht
 obtain ⟨i, hi, hsi⟩ := Zl7 hs
 have hzi : i.zero = some z := by unfold Zba at hz; rw [hi] at hz; simpa using hz
 have hbi : i.bytes = bytes := by unfold Zdv at hby; rw [hi] at hby; simpa using hby
 subst hsi hbi
 obtain ⟨A', c', hy, hA⟩ := src.at_
 obtain ⟨hnv, hrd⟩ := src.rd w Z hH hV
 obtain ⟨hov, hro⟩ := srcx.rd w Z hH hVx
 have hm : m ≠ 0 := by omega
 have h63' : n + m <= 9223372036854775807 := by simp only [maxLen] at h63; omega
 cases A' with
 | none => exact absurd (hA rfl) hm
 | some a =>
 have hlen := src.len
 have hlo := srcx.len
 have key : ∀ old, old < n + m -> ∃ cap w' rest, rest = ((List.replicate (cap - (n + m)) ((List.range z.cells.size).map fun i => AV.ofV (z.cells[i % z.cells.size]!))).flatten) /\ w' = (w.drew.alloc (.cells ((olds.map AV.val).toArray ++ (news.map AV.val).toArray ++ Builtin.zeroCells z.cells (grownCap w (n + m) old e - (n + m))) e)) /\ cap = grownCap w (n + m) old e /\ n + m <= cap /\ cap <= maxLen /\ (olds ++ news ++ rest).length = cap * i.size /\
  ¬ σ.used w.heap.size /\ σ.blk w.heap.size = none /\ ZaG w' (σ.put w.heap.size (.own e (olds ++ news ++ rest))) Z /\ Grow w σ w' (σ.put w.heap.size (.own e (olds ++ news ++ rest))) := by
  intro old ho
  have hge := grownCap_ge w (n + m) old e
  have hcm := grownCap_le_maxLen w (n + m) old e h63
  generalize grownCap w (n + m) old e = cap at *
  have harr : (olds.map AV.val).toArray ++ (news.map AV.val).toArray ++ Builtin.zeroCells z.cells (cap - (n + m)) = ((olds ++ news ++ ((List.replicate (cap - (n + m)) ((List.range z.cells.size).map fun i => AV.ofV (z.cells[i % z.cells.size]!))).flatten)).map AV.val).toArray := by
   apply Array.ext'
   have hzv := Zfp z (cap - (n + m)) (by omega)
   simp only [Array.toList_append, List.map_append, hzv]
  rw [harr]
  obtain ⟨f1, f2, f3, f4⟩ := hH.made e (olds ++ news ++ ((List.replicate (cap - (n + m)) ((List.range z.cells.size).map fun i => AV.ofV (z.cells[i % z.cells.size]!))).flatten)) (fun q hq => by
   rcases List.mem_append.1 hq with hq | hq
   ·rcases List.mem_append.1 hq with hq | hq
    ·exact hov q hq
    ·exact hnv q hq
   ·obtain ⟨l, hl, hal⟩ := List.mem_flatten.1 hq
    have hl := (List.mem_replicate.1 hl).2
    subst hl
    obtain ⟨j, _, rfl⟩ := List.mem_map.1 hal
    exact Zdc _)
  refine ⟨cap, _, _, rfl, rfl, rfl, hge, hcm, ?_, f1, f2, f3, f4⟩
  have hzl : ((List.replicate (cap - (n + m)) ((List.range z.cells.size).map fun i => AV.ofV (z.cells[i % z.cells.size]!))).flatten).length = (cap - (n + m)) * z.cells.size := by
   have hq := congrArg List.length (Zfp z (cap - (n + m)) (by omega))
   rw [List.length_map] at hq
   rw [hq]
   simp [size_zeroCells]
  rw [List.length_append, List.length_append, hzl, hzs, hlen, hlo]
  rw [<- Nat.add_mul, <- Nat.add_mul]
  congr 1
  omega
 cases A with
 | none =>
  have hc0 := hA0 rfl
  subst hc0
  have hn0 : n = 0 := by omega
  subst hn0
  have ho0 : olds = [] := List.eq_nil_of_length_eq_zero (by simpa using hlo)
  subst ho0
  obtain ⟨cap, w', rest, e0, e1, e2, r⟩ := key 0 (by omega)
  refine ⟨cap, w', rest, e0, ?_, r⟩
  have hr := run_append_nil (P := P) w t ty e i z hty hi hzi a m c' (news.map AV.val) (by simpa using hlen) (hrd a c' hy) (by omega) (by omega) (by have hb := hb; simp only [Nat.zero_add] at hb; omega)
  rw [hx, hy, hr, e1, e2]
  simp
 | some ao =>
  obtain ⟨cap, w', rest, e0, e1, e2, r⟩ := key c hg
  refine ⟨cap, w', rest, e0, ?_, r⟩
  have hr := run_append_grow (P := P) w t ty e i z hty hi hzi ao n c (olds.map AV.val) (by simpa using hlo) (hro ao c hx) a m c' (news.map AV.val) (by simpa using hlen) (hrd a c' hy) hg (by omega) (growslice_fits (by omega) hb)
  rw [hx, hy, hr, e1, e2]
theorem clear_ {b lo n c sz : Nat} {e t ty : TypeId} {z : Value} {cs news : List AV} {ad : Addr} (hH : ZaG w σ Z) (ht : ZaW P t = some e) (hz : Zba P e = some z) (hzs : z.cells.size = sz) (hsz : 0 < sz) (hb : σ.blk b = some (.own e cs))
 (hcap : (lo + n) * sz <= cs.length) (had : 0 < n -> ad = ⟨b, lo * sz, none⟩) (hn : news.map AV.val = (Builtin.zeroCells z.cells n).toList) (h1 : ∀ a ∈ news, a.one = true) (hv : ∀ a ∈ news, Zar w (σ.free Z) a) :
 ∃ w', (Builtin.clear_ #[t] ty #[.slice (some ad) n c]).run P w = .ok (.tuple #[]) w' /\ ZaG w' (σ.set b (.own e (ZaR cs (lo * sz) news))) Z /\ Grow w σ w' (σ.set b (.own e (ZaR cs (lo * sz) news))) := by
 have hty := ZbO ht
 have hlen : news.length = n * sz := by
  have := congrArg List.length hn
  rw [List.length_map] at this
  rw [this]
  simp [size_zeroCells, hzs]
 by_cases h0 : n = 0
 ·subst h0
  have hnn : news = [] := List.eq_nil_of_length_eq_zero (by simpa using hlen)
  subst hnn
  rw [ZgR, ZiS hb]
  refine ⟨w, ?_, hH, Grow.refl _ _⟩
  simp [Builtin.clear_, run_underlying hty]
 ·have had := had (by omega)
  subst had
  rw [Nat.add_mul] at hcap
  obtain ⟨g1, g2, g3⟩ := hH.storeAt (P := P) (off := lo * sz) (news := news) hb (by omega) h1 hv
  refine ⟨_, ?_, g2, g3⟩
  obtain ⟨m, rfl⟩ : ∃ m, n = m + 1 := ⟨n - 1, by omega⟩
  rw [hn] at g1
  have hzv := Zcc (P := P) (w := w) hz
  simp [Builtin.clear_, run_underlying hty, hzv, g1]
end
variable {T : Nat -> Type} {A : Type}
section
variable {U : Nat -> Prop} {C : ZbD T} {ρ ρ' : Nat -> AV} {h h1 : List (HI T)} {σ τ : St}
theorem Hp.newNil (H : Hp C ρ h σ) (e : TypeId) (E : Nat) (kp : Bool) : Hp C (rup ρ h.length (.lst none 0 0 [])) (h ++ [.arr e E kp []]) σ /\ Rel U ρ h σ (rup ρ h.length (.lst none 0 0 [])) (h ++ [.arr e E kp []]) σ := by
 have hext : ∀ j, j < h.length -> rup ρ h.length (.lst none 0 0 []) j = ρ j := fun j hj => ZiR (by omega)
 have hlen : h.length <= (h ++ [HI.arr e E kp []]).length := by simp
 refine ⟨⟨fun j x hx => ?_, fun j k x y c hx hy ax ay bx by_ => ?_⟩, ⟨hlen, hext, .refl _ _, fun c ⟨j, x, hx, ax, bx⟩ => ?_⟩⟩
 ·rcases Zeg hx with ⟨rfl, rfl⟩ | ⟨hj, hx⟩
  ·exact .inr ⟨ZcK _ _ _, rfl⟩
  ·have := H.it j x hx
   cases x with
   | obj t' cs' =>
    obtain ⟨b', acs', q1, q2, q3, q4⟩ := this
    exact ⟨b', acs', (hext j hj).trans q1, q2, q3, q4.ext hlen hext⟩
   | arr e2 E2 kp2 xs2 =>
    unfold SH at this ⊢
    rw [hext j hj]
    exact this
   | row e2 sz2 =>
    unfold SH at this ⊢
    rw [hext j hj]
    exact this
   | mmap K2 V2 es2 =>
    unfold SH at this ⊢
    rw [hext j hj]
    exact this
   | gen E2 x2 =>
    unfold SH at this ⊢
    rw [hext j hj]
    exact this
   | dead => trivial
 ·rcases Zeg hx with ⟨rfl, rfl⟩ | ⟨hj, hx⟩ <;> rcases Zeg hy with ⟨rfl, rfl⟩ | ⟨hk, hy⟩
  ·rfl
  ·rw [ZcK] at bx; cases bx
  ·rw [ZcK] at by_; cases by_
  ·rw [hext j hj] at bx
   rw [hext k hk] at by_
   exact H.dist j k x y c hx hy ax ay bx by_
 ·rcases Zeg hx with ⟨rfl, rfl⟩ | ⟨hj, hx⟩
  ·rw [ZcK] at bx; cases bx
  ·rw [hext j hj] at bx
   exact .inl ⟨j, x, hx, ax, bx⟩
end
section
variable {U : Nat -> Prop} {C : ZbD T} {N : Nat} {ρ : Nat -> AV} {P : Program} {h : List (HI T)} {d : Option Nat} {ty t : TypeId} {pos : String} {af : Array Edge} {g : Option (Nat × Bool)} {z : A} {k : XV T -> List (HI T) -> Option A} {vs : List (XV T)}
theorem Hp.arrAt {σ : St} {E i b : Nat} {kp : Bool} {e : TypeId} {xs : List (T E)} (H : Hp C ρ h σ) (hi : h[i]? = some (.arr e E kp xs)) {K : Nat} (hρ : ρ i = ab b K) : ∃ pre rest, σ.blk b = some (.own e (pre ++ rest)) /\ σ.used b /\ (∀ N' ρ', SVs C N' ρ' (xs.flatMap (C.enc E)) pre) /\ (pre ++ rest).length = K * C.sz E /\ K <= maxLen /\ (C.full E = true -> ∃ zs : List (T E), ∀ N' ρ', SVs C N' ρ' (zs.flatMap (C.enc E)) rest) := by
 rcases H.it i _ hi with ⟨b', K', pre, rest, hb1, hb2, hb3, hb4⟩ | ⟨hb1, _⟩
 ·rw [hρ] at hb1
  obtain ⟨e1, e2⟩ := Zre hb1
  subst e1 e2
  exact ⟨pre, rest, hb2, hb3, hb4⟩
 ·rw [hρ] at hb1; cases hb1
theorem ZnK {σ : St} {b sz off m : Nat} {e : TypeId} {cs : List AV} {y : AV} {ad : Addr} {c : Nat} (hy : y.val = .slice (some ad) m c) (hb : σ.blk b = some (.own e cs)) (had : 0 < m -> ad = ⟨b, off, none⟩) (hsz : 0 < sz) (hl : off + m * sz <= cs.length) (h1 : ∀ a ∈ (cs.drop off).take (m * sz), a.one = true) :
 Src σ sz y m ((cs.drop off).take (m * sz)) := by
 refine ⟨by rw [List.length_take, List.length_drop]; omega, h1, ⟨_, _, hy, fun e => by cases e⟩, fun w Z hH hV => ⟨fun a ha => (hH.own _ _ _ hb).2.2 a (List.mem_of_mem_drop (List.mem_of_mem_take ha)), fun ad' c' hy' j u hu => ?_⟩⟩
 rw [hy] at hy'
 injection hy' with q1 _ _
 injection q1 with q1
 subst q1
 rw [List.getElem?_map, List.getElem?_take] at hu
 split at hu
 ·rename_i hj
  have hm : 0 < m := by
   rcases Nat.eq_zero_or_pos m with h0 | h0
   ·subst h0; omega
   ·exact h0
  rw [had hm]
  cases hd : (cs.drop off)[j]? with
  | none => rw [hd] at hu; cases hu
  | some q =>
   rw [hd] at hu
   injection hu with hu
   subst hu
   rw [List.getElem?_drop] at hd
   exact Zfi hH hb off j hd
 ·cases hu
theorem ZpF {σ : St} {sz : Nat} : Src σ sz (.lst none 0 0 []) 0 [] := ⟨by simp, by simp, ⟨none, 0, by simp, fun _ => rfl⟩, fun w Z hH hV => ⟨by simp, fun ad c hy j u hu => by simp at hu⟩⟩
end
end Go.Proofs.YtiienjjhlibopaaGreatDoor
namespace Go.Proofs.YtiienjjhlibopaaGreatDoor
open Go.RowKit
set_option linter.unusedSimpArgs false
set_option maxRecDepth 100000
set_option linter.unusedVariables false
variable {T : Nat -> Type} {A : Type}
section
variable {U : Nat -> Prop} {C : ZbD T} {N : Nat} {ρ ρ' : Nat -> AV} {P : Program} {h h1 : List (HI T)} {d : Option Nat} {ty t t' : TypeId} {pos : String} {af : Array Edge} {g : Option (Nat × Bool)} {z : A} {k : XV T -> List (HI T) -> Option A} {vs : List (XV T)} {σ τ : St}
theorem Zkl {ox oy : Operand} {a b : AV} {K : AV -> St -> Prop}
 (hrun : ∀ w Z, ZaG w σ Z -> Zar w (σ.free Z) a -> Zar w (σ.free Z) b -> ∃ r σ' w', (Builtin.append_ #[t, t'] ty #[a.val, b.val]).run P w = .ok r.val w' /\ K r σ' /\ ZaG w' σ' Z /\ Zar w' (σ'.free Z) r /\ Grow w σ w' σ') :
 Zc6 P ⟨d, .call ⟨.builtin .append, #[ox, oy], #[t, t']⟩, ty, pos, af, g⟩ [a, b] σ K := by
 refine .inr ⟨rfl, fun ρ hρ w Z hH hV => ?_⟩
 have hρ' := hρ
 simp [Op.operands, Call.operands] at hρ'
 obtain ⟨r, σ', w', h1, h2, h3, h4, h5⟩ := hrun w Z hH (hV a (by simp)) (hV b (by simp))
 refine ⟨r, σ', w', .inl ?_, h2, h3, h4, h5⟩
 simp [execOp, resolve, invoke, builtin, hρ', h1]
theorem Zbe {w : World} {B : Nat -> Nat -> Prop} (v : Value) : Zar w B (.raw v) := by unfold Zar; trivial
theorem ZhH {w : World} {B : Nat -> Nat -> Prop} : Zar w B (.lst none 0 0 []) := by
 unfold Zar
 exact ⟨Nat.le_refl _, fun _ => ⟨rfl, rfl, rfl⟩, fun ad had => by cases had⟩
end
end Go.Proofs.YtiienjjhlibopaaGreatDoor
namespace Go.Proofs.YtiienjjhlibopaaGreatDoor
open Go.RowKit
set_option linter.unusedSimpArgs false
set_option maxRecDepth 100000
set_option linter.unusedVariables false
variable {T : Nat -> Type} {A : Type}
section
variable {U : Nat -> Prop} {C : ZbD T} {N : Nat} {ρ ρ' : Nat -> AV} {P : Program} {h h1 : List (HI T)} {d : Option Nat} {ty t t' : TypeId} {pos : String} {af : Array Edge} {g : Option (Nat × Bool)} {z : A} {k : XV T -> List (HI T) -> Option A} {vs : List (XV T)} {σ τ : St}
theorem Zga {α : Type} (n : Nat) (l : List α) : ((List.replicate n l).flatten).length = n * l.length := by
 induction n with
 | zero => simp
 | succ n ih => rw [List.replicate_succ, List.flatten_cons, List.length_append, ih, Nat.succ_mul]; omega
end
end Go.Proofs.YtiienjjhlibopaaGreatDoor
namespace Go.Proofs.YtiienjjhlibopaaGreatDoor
open Go.RowKit
set_option linter.unusedSimpArgs false
set_option maxRecDepth 100000
set_option linter.unusedVariables false
variable {T : Nat -> Type} {A : Type}
section
variable {U : Nat -> Prop} {C : ZbD T} {N : Nat} {ρ ρ' : Nat -> AV} {P : Program} {h h1 : List (HI T)} {d : Option Nat} {ty t t' : TypeId} {pos : String} {af : Array Edge} {g : Option (Nat × Bool)} {z : A} {k : XV T -> List (HI T) -> Option A} {vs : List (XV T)} {σ τ : St}
theorem ZgS {t kt et : TypeId} {kd : IntKind} {zv : Value} {b c : Nat} {es : Array MapEntry} {n : Int} {w : World} {comma : Bool} {r : Option (Nat × Value)} (ht : P.underlying t = some (.map kt et)) (hkt : P.underlying kt = some (.int kd)) (hz : Zba P et = some zv)
 (hb : w.heap[b]? = some (.map es c)) (hf : Instr.findNow (.int kd) (.int kd n) es.toList 0 = some r) :
 (Instr.lookup t (.map (some b)) (.int kd n) comma).run P w = .ok (if comma then .tuple #[match r with | some (_, v) => v | none => zv, .bool r.isSome] else match r with | some (_, v) => v | none => zv) w := by
 have ho : (getObj b).run P w = .ok (.map es c) w := by simp [getObj, Sem.run, hb]
 have hck : (Instr.checkKey es.isEmpty 10000 kt (.int kd n)).run P w = .ok () w := by
  rw [show (10000 : Nat) = 9999 + 1 from rfl]
  unfold Instr.checkKey
  rw [Sem.run_bind, run_underlying hkt]
  rfl
 have hfk : (Instr.findKey kt (.int kd n) es.toList).run P w = .ok r w := by
  unfold Instr.findKey
  rw [Sem.run_bind, run_underlying hkt]
  dsimp only [Result.andThen]
  rw [hf]
  rfl
 unfold Instr.lookup
 rw [Sem.run_bind, run_underlying ht]
 dsimp only [Result.andThen]
 rw [Sem.run_bind, ho]
 dsimp only [Result.andThen]
 rw [Sem.run_bind, Sem.run_pure]
 dsimp only [Result.andThen]
 rw [Sem.run_bind, hck]
 dsimp only [Result.andThen]
 rw [Sem.run_bind, hfk]
 dsimp only [Result.andThen]
 cases r with
 | none =>
  dsimp only
  rw [Sem.run_bind, Zcc hz]
  cases comma <;> rfl
 | some x => cases comma <;> rfl
end
end Go.Proofs.YtiienjjhlibopaaGreatDoor
namespace Go.Proofs.YtiienjjhlibopaaGreatDoor
open Go.RowKit
set_option linter.unusedSimpArgs false
set_option maxRecDepth 100000
set_option linter.unusedVariables false
section
variable {P : Program} {w : World} {σ : St} {Z : Nat -> Prop}
def Zc7 (w : World) (b : Nat) (es : Array MapEntry) (c : Nat) : World := { w with heap := w.heap.setIfInBounds b (.map es c) }
theorem ZjH {b c c' : Nat} {es es' : Array MapEntry} (hb : w.heap[b]? = some (.map es c)) : (Zc7 w b es' c').heap[b]? = some (.map es' c') := by
 have hlt : b < w.heap.size := (Array.getElem?_eq_some_iff.1 hb).1
 simp [Zc7, hlt]
theorem ZcQ {b b' c' : Nat} {es' : Array MapEntry} (hne : b' ≠ b) : (Zc7 w b es' c').heap[b']? = w.heap[b']? := by
 simp [Zc7, Ne.symm hne]
theorem ZiV {a : Array MapEntry} {c : Nat} {x : MapEntry} (h1 : ∀ n ∈ a.toList.map fun e : MapEntry => e.born, n < c) (h2 : (a.toList.map fun e : MapEntry => e.born).Nodup) (hx : x.born = c := by rfl) : (∀ n ∈ (a.push x).toList.map fun e : MapEntry => e.born, n < c + 1) /\ ((a.push x).toList.map fun e : MapEntry => e.born).Nodup := by
 rw [Array.toList_push, List.map_append, List.map_cons, List.map_nil, hx]
 refine ⟨fun n hn => ?_, ?_⟩
 ·rcases List.mem_append.1 hn with hn | hn
  ·have := h1 n hn; omega
  ·rw [List.mem_singleton.1 hn]; omega
 ·rw [List.nodup_append]
  refine ⟨h2, by simp, fun n hn m hm e => ?_⟩
  rw [List.mem_singleton.1 hm] at e
  have := h1 n hn
  omega
theorem ZjI (a : Array MapEntry) (j : Nat) (f : MapEntry -> MapEntry) (hf : ∀ e, (f e).born = e.born) : ((a.modify j f).toList.map fun e : MapEntry => e.born) = a.toList.map fun e : MapEntry => e.born := by
 rw [Array.toList_modify]
 generalize a.toList = l
 induction l generalizing j with
 | nil => cases j <;> rfl
 | cons x l ih => cases j with
  | zero =>
   show (f x).born :: _ = _
   rw [hf]
   rfl
  | succ j =>
   show x.born :: ((l.modify j f).map fun e : MapEntry => e.born) = _
   rw [ih]
   rfl
theorem ZaG.alloc_map (h : ZaG w σ Z) : ZaG (w.alloc (.map #[] 0)) (σ.put w.heap.size (.map [])) Z := by
 have hg := Grow.alloc h (.map #[] 0) (.map [])
 refine ⟨fun b hu => ?_, fun b hz => ?_, fun b t' cs' hb => ?_, fun b t' k s hb => ?_, fun b es hb => ?_⟩
 ·simp only [World.size_alloc]
  rcases hu with hu | rfl
  ·have := h.used _ hu; omega
  ·omega
 ·obtain ⟨h1, h2⟩ := h.z _ hz
  refine ⟨by simp only [World.size_alloc]; omega, ?_⟩
  have hne : b ≠ w.heap.size := by omega
  show (if b = w.heap.size then _ else σ.blk b) = none
  rw [if_neg hne]; exact h2
 ·change (if b = w.heap.size then some (Bk.map []) else σ.blk b) = _ at hb
  split at hb
  ·injection hb with hb; cases hb
  ·obtain ⟨h1, h2, h3⟩ := h.own _ _ _ hb
   exact ⟨.inl h1, (Below.heap_alloc _ _ _ (h.used _ h1)).trans h2, fun c hc => hg.valid (h3 c hc)⟩
 ·change (if b = w.heap.size then some (Bk.map []) else σ.blk b) = _ at hb
  split at hb
  ·injection hb with hb; cases hb
  ·obtain ⟨h1, cs', h2, h3⟩ := h.tail _ _ _ _ hb
   exact ⟨.inl h1, cs', (Below.heap_alloc _ _ _ (h.used _ h1)).trans h2, h3⟩
 ·change (if b = w.heap.size then some (Bk.map []) else σ.blk b) = _ at hb
  split at hb
  ·rename_i hbb
   injection hb with hb
   injection hb with hb
   subst hb hbb
   exact ⟨.inr rfl, .map #[] 0, (), heap_alloc_new _ _, .inl ⟨rfl, rfl, by simp, by simp⟩⟩
  ·obtain ⟨h1, a, c, h2, h3⟩ := h.map _ _ hb
   exact ⟨.inl h1, a, c, (Below.heap_alloc _ _ _ (h.used _ h1)).trans h2, h3⟩
theorem ZaG.write_map (hH : ZaG w σ Z) {b c c' : Nat} {es : List (Value × Value)} {a a' : Array MapEntry} (hb : σ.blk b = some (.map es)) (hh : w.heap[b]? = some (.map a c)) (hfr : (∀ n ∈ a'.toList.map fun e : MapEntry => e.born, n < c') /\ (a'.toList.map fun e : MapEntry => e.born).Nodup) (ht : ZlN (a'.toList.map fun e : MapEntry => (e.key, e.val)) = 0) :
 ZaG (Zc7 w b a' c') (σ.set b (.map (a'.toList.map fun e : MapEntry => (e.key, e.val)))) Z /\ Grow w σ (Zc7 w b a' c') (σ.set b (.map (a'.toList.map fun e : MapEntry => (e.key, e.val)))) := by
 obtain ⟨hu, _⟩ := hH.map _ _ hb
 have hg : Grow w σ (Zc7 w b a' c') (σ.set b (.map (a'.toList.map fun e : MapEntry => (e.key, e.val)))) := by
  refine ⟨rfl, rfl, rfl, by simp [Zc7], fun _ _ h => h, fun b' hb' hn' => ?_, fun b' t' k s hb' ht' => ?_, fun _ h => h⟩
  ·have hne : b' ≠ b := by rintro rfl; rw [hb] at hn'; cases hn'
   exact ⟨ZcQ hne, by show (if b' = b then _ else σ.blk b') = _; rw [if_neg hne]; exact hn'⟩
  ·have hne : b' ≠ b := by rintro rfl; rw [hb] at ht'; cases ht'
   refine ⟨fun j v _ hv => ?_, .inr ⟨t', k, s, ?_, Nat.le_refl _⟩⟩
   ·rw [World.cell?_of_block (w := w) (ZcQ hne)]; exact hv
   ·show (if b' = b then _ else σ.blk b') = _
    rw [if_neg hne]; exact ht'
 refine ⟨⟨fun b' hu' => ?_, fun b' hz => ?_, fun b' t' cs2 hb' => ?_, fun b' t' k s hb' => ?_, fun b' es' hb' => ?_⟩, hg⟩
 ·have := hH.used _ hu'; simpa [Zc7] using this
 ·obtain ⟨z1, z2⟩ := hH.z _ hz
  have hne : b' ≠ b := by rintro rfl; rw [hb] at z2; cases z2
  refine ⟨by simpa [Zc7] using z1, ?_⟩
  show (if b' = b then _ else σ.blk b') = _
  rw [if_neg hne]; exact z2
 ·change (if b' = b then _ else σ.blk b') = _ at hb'
  split at hb'
  ·injection hb' with hb'; cases hb'
  ·rename_i hne
   obtain ⟨g1, g2, g3⟩ := hH.own _ _ _ hb'
   exact ⟨g1, (ZcQ hne).trans g2, fun c hc => hg.valid (g3 c hc)⟩
 ·change (if b' = b then _ else σ.blk b') = _ at hb'
  split at hb'
  ·injection hb' with hb'; cases hb'
  ·rename_i hne
   obtain ⟨g1, cs2, g2, g3⟩ := hH.tail _ _ _ _ hb'
   exact ⟨g1, cs2, (ZcQ hne).trans g2, g3⟩
 ·change (if b' = b then _ else σ.blk b') = _ at hb'
  split at hb'
  ·rename_i hbb
   injection hb' with hb'
   injection hb' with hb'
   subst hb' hbb
   exact ⟨hu, .map a' c', (), ZjH hh, .inl ⟨ht, rfl, hfr⟩⟩
  ·rename_i hne
   obtain ⟨g1, a2, c2, g2, g3⟩ := hH.map _ _ hb'
   exact ⟨g1, a2, c2, (ZcQ hne).trans g2, g3⟩
end
variable {T : Nat -> Type} {A : Type}
section
variable {U : Nat -> Prop} {C : ZbD T} {N : Nat} {ρ ρ' : Nat -> AV} {P : Program} {h h1 : List (HI T)} {d : Option Nat} {ty t t' : TypeId} {pos : String} {af : Array Edge} {g : Option (Nat × Bool)} {z : A} {k : XV T -> List (HI T) -> Option A} {vs : List (XV T)} {σ τ : St} {b : Nat}
def Zs8 (P : Program) (t : TypeId) : MK -> Prop
 | .str => P.underlying t = some .string
 | .int k => P.underlying t = some (.int k)
 | .two k j => ∃ fs f g, P.underlying t = some (.struct fs) /\ fs.toList = [f, g] /\ P.underlying f.type = some (.int k) /\ P.underlying g.type = some (.int j) /\ f.name ≠ "_" /\ g.name ≠ "_" /\ f.offset = 0 /\ g.offset = 1 /\ Zo1 P 8 t = some [.i k, .i j]
theorem ZiW (a b : List UInt8) : ((ByteArray.mk a.toArray) == (ByteArray.mk b.toArray)) = decide (a = b) := by
 show (a.toArray == b.toArray) = _
 by_cases h : a = b
 ·subst h; simp
 ·rw [decide_eq_false h]
  rw [beq_eq_false_iff_ne]
  intro e
  exact h (by simpa using congrArg Array.toList e)
theorem Zgb {t : TypeId} {k : IntKind} {xs : Array Value} {o : Nat} {v : Value} {w : World} (hu : P.underlying t = some (.int k)) (hx : xs[o]? = some v) : (part t xs o).run P w = .ok v w := by
 simp [part, isAgg, run_underlying hu, hx]
theorem ZnL {K : MK} {kt : TypeId} {w : World} {y : K.ty} (hk : Zs8 P kt K) (e : Bool) : (Instr.checkKey e 10000 kt (K.val y)).run P w = .ok () w := by
 rw [show (10000 : Nat) = 9999 + 1 from rfl]
 cases K with
 | str => unfold Instr.checkKey; rw [Sem.run_bind, run_underlying hk]; rfl
 | int k0 => unfold Instr.checkKey; rw [Sem.run_bind, run_underlying hk]; rfl
 | two k j =>
  obtain ⟨fs, f, g, hu, hl, hf, hg, n1, n2, o1, o2, _⟩ := hk
  obtain ⟨fa⟩ := fs
  dsimp only at hl
  subst hl
  have c1 : (Instr.checkKey e 9999 f.type (.int k y.1)).run P w = .ok () w := by
   rw [show (9999 : Nat) = 9998 + 1 from rfl]; unfold Instr.checkKey; rw [Sem.run_bind, run_underlying hf]; rfl
  have c2 : (Instr.checkKey e 9999 g.type (.int j y.2)).run P w = .ok () w := by
   rw [show (9999 : Nat) = 9998 + 1 from rfl]; unfold Instr.checkKey; rw [Sem.run_bind, run_underlying hg]; rfl
  have p1 : (part f.type #[.int k y.1, .int j y.2] f.offset).run P w = .ok (.int k y.1) w := Zgb hf (by rw [o1]; rfl)
  have p2 : (part g.type #[.int k y.1, .int j y.2] g.offset).run P w = .ok (.int j y.2) w := Zgb hg (by rw [o2]; rfl)
  unfold Instr.checkKey
  rw [Sem.run_bind, run_underlying hu]
  simp [MK.val, n1, n2, p1, p2, c1, c2, Result.andThen]
theorem ZnM {K : MK} {w : World} {x : K.ty} : (Instr.keyThatStays (K.val x) (K.val x)).run P w = .ok (K.val x) w := by
 have : Instr.sameBits 10000 (K.val x) (K.val x) = true := by
  cases K with
  | str =>
   show ((ByteArray.mk (List.toArray x)) == (ByteArray.mk (List.toArray x))) = true
   rw [ZiW]; simp
  | int k0 => simp [MK.val, Instr.sameBits]
  | two k j => simp [MK.val, Instr.sameBits]
 unfold Instr.keyThatStays
 rw [if_pos this]
 rfl
theorem Zo4 {w : World} {a : Array MapEntry} {c : Nat} (hb : w.heap[b]? = some (.map a c)) : (getObj b).run P w = .ok (.map a c) w := by
 simp [getObj, Sem.run, hb]
theorem Zo5 {w : World} {a a' : Array MapEntry} {c c' : Nat} (hb : w.heap[b]? = some (.map a c)) : (setObj b (.map a' c')).run P w = .ok () (Zc7 w b a' c') := by
 simp [setObj, Sem.run, hb, Zc7]
end
end Go.Proofs.YtiienjjhlibopaaGreatDoor
namespace Go.Proofs.YtiienjjhlibopaaGreatDoor
open Go.RowKit
set_option linter.unusedSimpArgs false
set_option maxRecDepth 100000
set_option linter.unusedVariables false
variable {T : Nat -> Type} {A : Type}
section
variable {U : Nat -> Prop} {C : ZbD T} {N : Nat} {ρ : Nat -> AV} {P : Program} {h : List (HI T)} {d : Option Nat} {ty t : TypeId} {pos : String} {af : Array Edge} {g : Option (Nat × Bool)} {z : A} {orc : Orc T A} {k : XV T -> List (HI T) -> Option A} {vs : List (XV T)}
end
end Go.Proofs.YtiienjjhlibopaaGreatDoor
namespace Go.Proofs.YtiienjjhlibopaaGreatDoor
open Go.RowKit
set_option maxRecDepth 100000
set_option linter.unusedVariables false
variable {T : Nat -> Type} {A : Type}
abbrev XE (T : Nat -> Type) := List (Nat × XV T)
section
variable (C : ZbD T) (P : Program) (tou : Tou T) (orc : Orc T A)
end
section
variable {C : ZbD T} {P : Program} {tou : Tou T} {orc : Orc T A} {ops : Array Oper} {env env' : XE T} {h h' : List (HI T)} {ρ ρ' : Nat -> AV} {e : Env} {σ τ : St} {z : A} {U : Nat -> Prop}
theorem Zl8 {N : Nat} {ρ : Nat -> AV} : ∀ bs : List UInt8, SVs C N ρ (bs.map fun b => XV.int .u8 (b.toNat : Int)) (bs.map fun u => AV.raw (.int .u8 (u.toNat : Int)))
 | [] => .none
 | b :: bs => .cons (Zeh.2 rfl) (Zl8 bs)
end
end Go.Proofs.YtiienjjhlibopaaGreatDoor
namespace Go.Proofs.YtiienjjhlibopaaGreatDoor
open Go.RowKit
set_option maxRecDepth 100000
set_option linter.unusedVariables false
variable {T : Nat -> Type} {A : Type}
section
variable {C : ZbD T} {P : Program} {tou : Tou T} {orc : Orc T A} {ops : Array Oper} {env env' : XE T} {h h' : List (HI T)} {ρ ρ' : Nat -> AV} {e : Env} {σ τ : St} {z : A} {U : Nat -> Prop}
theorem ZnN {o : Oper} {K K' : Env -> St -> Prop} (hk : ∀ e σ, K e σ -> K' e σ) (h : aOp P ops o e σ K) : aOp P ops o e σ K' := by
 unfold aOp at h ⊢
 split
 ·rename_i hw
  rw [if_pos hw] at h
  exact ZdM (fun r τ => hk _ _) h
 ·rename_i hw
  rw [if_neg hw] at h
  exact hk _ _ h
theorem ZcC {K K' : Env -> St -> Prop} (hk : ∀ e σ, K e σ -> K' e σ) : ∀ {l : List Oper} {e : Env} {σ : St}, Zbz P ops l e σ K -> Zbz P ops l e σ K'
 | [], e, σ, h => hk _ _ h
 | o :: l, e, σ, h => h.imp (ZnN (fun e σ h => ZcC hk h)) fun h => h.imp (fun ⟨hw, t, n, parts, te, sz, z, cells, h1, h2, h3, h4, h5, h6, h7, h8⟩ => ⟨hw, t, n, parts, te, sz, z, cells, h1, h2, h3, h4, h5, h6, h7, fun b g1 g2 => ZcC hk (h8 b g1 g2)⟩) fun h => h.imp (fun ⟨hw, t, t', x, te, bs, h1, h2, h3, h4, h5, h6, h7⟩ => ⟨hw, t, t', x, te, bs, h1, h2, h3, h4, h5, h6, fun b c g1 g2 g3 g4 => ZcC hk (h7 b c g1 g2 g3 g4)⟩) (fun ⟨hw, h1⟩ => ⟨hw, h1.mono fun r σ' h => ZcC hk h⟩)
theorem Zb9 {O : Nat -> Prop} : ∀ {c : Code} {Q Q' : Zdn} {e : Env} {σ : St}, (∀ ex e σ, Q ex e σ -> Q' ex e σ) -> ZaA P O c Q e σ -> ZaA P O c Q' e σ
 | .skip, Q, Q', e, σ, hQ, h => hQ _ _ _ h
 | .region id ops false, Q, Q', e, σ, hQ, h => fun hK => by
  have hd : ∀ {e σ}, ZnC P ops ops.toList e σ (fun ch => Q (.panic ch)) -> ZnC P ops ops.toList e σ (fun ch => Q' (.panic ch)) := fun ⟨l1, o, l2, h1, h2⟩ => ⟨l1, o, l2, h1, ZcC (fun e σ ⟨g1, g2⟩ => ⟨g1, g2.imp (fun ⟨c, f, g, a1, a2, k1, k2, k3, k4⟩ => ⟨c, f, g, a1, a2, k1, k2, k3, fun w Z q1 q2 => ⟨(k4 w Z q1 q2).1, (k4 w Z q1 q2).2.mono fun e w' ⟨ch, τ, j1, j2, j3⟩ => ⟨ch, τ, j1, hQ _ _ _ j2, j3⟩⟩⟩) fun ⟨x, t, v, k1, k2, k3⟩ => ⟨x, t, v, k1, k2, hQ _ _ _ k3⟩⟩) h2⟩
  rcases h hK with h | ⟨G, h1, h2⟩
  ·exact .inl (h.imp (ZcC (hQ .normal)) hd)
  ·exact .inr ⟨G, h1, fun σ' hT => (h2 σ' hT).imp (ZcC (hQ .normal)) hd⟩
 | .region id ops true, Q, Q', e, σ, hQ, h => fun hK => by
  have hm : ∀ {e σ}, ZhD P ops e σ (Q .normal) -> ZhD P ops e σ (Q' .normal) := fun ⟨a, b, c, d, f, g, h1, h2⟩ => ⟨a, b, c, d, f, g, h1, ZfO _ (hQ .normal) h2⟩
  rcases h hK with h | ⟨G, h1, h2⟩
  ·exact .inl (hm h)
  ·exact .inr ⟨G, h1, fun σ' hT => hm (h2 σ' hT)⟩
 | .seq a b, Q, Q', e, σ, hQ, h => Zb9 (c := a) (fun ex e σ h => by
  cases ex with
  | normal => exact Zb9 (c := b) hQ h
  | _ => exact hQ _ _ _ h) h
 | .cond c a b, Q, Q', e, σ, hQ, h => by
  obtain ⟨t, h1, h2, h3⟩ := h
  exact ⟨t, h1, fun ht => Zb9 (c := a) hQ (h2 ht), fun ht => Zb9 (c := b) hQ (h3 ht)⟩
 | .block id c, Q, Q', e, σ, hQ, h => Zb9 (c := c) (fun ex e σ h => by
  cases ex with
  | exit id' => unfold Zfl at h ⊢; dsimp only at h ⊢; split <;> rename_i hi <;> (first | rw [if_pos hi] at h | rw [if_neg hi] at h) <;> exact hQ _ _ _ h
  | _ => exact hQ _ _ _ h) h
 | .loop c, Q, Q', e, σ, hQ, h => by
  obtain ⟨I, n, h1, h2⟩ := h
  exact ⟨I, n, h1, fun n e σ hI => Zb9 (c := c) (fun ex e σ h => by
   cases ex with
   | normal => exact h
   | _ => exact hQ _ _ _ h) (h2 n e σ hI)⟩
 | .exit id, Q, Q', e, σ, hQ, h => hQ _ _ _ h
 | .scope c, Q, Q', e, σ, hQ, h => Zb9 (c := c) (fun ex e σ h => by
  cases ex with
  | goto l => exact h
  | _ => exact hQ _ _ _ h) h
 | .ret, Q, Q', e, σ, hQ, h => hQ _ _ _ h
 | .rangeFunc .., Q, Q', e, σ, hQ, h => h.elim
 | .label .., Q, Q', e, σ, hQ, h => h.elim
 | .goto .., Q, Q', e, σ, hQ, h => h.elim
 | .refuse .., Q, Q', e, σ, hQ, h => h.elim
end
end Go.Proofs.YtiienjjhlibopaaGreatDoor
namespace Go.Proofs.YtiienjjhlibopaaGreatDoor
open Go.RowKit
set_option linter.unusedSimpArgs false
set_option maxRecDepth 100000
set_option linter.unusedVariables false
inductive Cs where
 | int (k : IntKind) | bool | str | sl (E : Nat) | slx (E : Nat) | own (E i : Nat) | ptr (i o : Nat) | nilptr | nil | fn (f : Nat) | as (E i : Nat) | asu (E i : Nat) | asz (E i : Nat) | clo (f : Nat) (ps : List Nat) | mp (E : Nat) (k : IntKind) | mo (i : Nat) | gv (i c n : Nat) | junk
inductive Vs where
 | one (c : Cs) | agg (l : List Cs) | cod (E : Nat) | vl (l : List Cs) | ce (l : List Cs)
inductive Rs where
 | val (v : Vs) | tup (l : List Vs)
inductive Hs where
 | obj (t : TypeId) (l : List Cs) | cobj (t : TypeId) (E : Nat) | row (e sz : Nat) | arr (e : TypeId) (E : Nat) (kp : Bool) | mmap (K V : MK) | lobj (t : TypeId) (l : List Cs) | lmap (K V : MK) | gen (E : Nat) (kp : Bool) | dead
@[reducible] def ND : Nat -> Type
 | 0 => Unit
 | n + 1 => Nat × ND n
section
variable (T : Nat -> Type)
@[reducible] def Cs.D : Cs -> Type
 | .int _ => Int
 | .bool => Bool
 | .str => List UInt8
 | .sl E => List (T E)
 | .slx E => List (T E) × List (T E)
 | .own E _ => List (T E)
 | .as _ _ => Nat × Nat × Nat
 | .asu _ _ => Nat × Nat
 | .asz _ _ => Nat
 | .mp E _ => List (Int × List (T E))
 | .gv _ _ n => ND n
 | _ => Unit
@[reducible] def CsD : List Cs -> Type
 | [] => Unit
 | c :: l => c.D T × CsD l
@[reducible] def Vs.D : Vs -> Type
 | .one c => c.D T
 | .agg l => CsD T l
 | .cod E => T E
 | .vl l => CsD T l
 | .ce l => CsD T l
@[reducible] def VsD : List Vs -> Type
 | [] => Unit
 | v :: l => v.D T × VsD l
@[reducible] def Rs.D : Rs -> Type
 | .val v => v.D T
 | .tup l => VsD T l
@[reducible] def Hs.D : Hs -> Type
 | .obj _ l => CsD T l
 | .cobj _ E => T E
 | .arr _ E _ => List (T E)
 | .mmap K V => List (K.ty × V.ty)
 | .lobj _ l => CsD T l
 | .lmap K V => List (K.ty × V.ty)
 | .gen E _ => T E
 | _ => Unit
@[reducible] def HsD : List Hs -> Type
 | [] => Unit
 | x :: l => x.D T × HsD l
end
variable {T : Nat -> Type} {A : Type}
abbrev Pi := List (Nat × Option Nat)
section
variable {C : ZbD T} {ρ : Nat -> AV} {π π' π'' : Pi} {N M : Nat} {z : A} {h : List (HI T)} {σ : St}
end
end Go.Proofs.YtiienjjhlibopaaGreatDoor
namespace Go.Proofs.YtiienjjhlibopaaGreatDoor
open Go.RowKit
set_option maxRecDepth 100000
set_option linter.unusedVariables false
variable {T : Nat -> Type} {A : Type}
section
variable {C : ZbD T} {ρ ρ' ρt : Nat -> AV} {π π' π'' : Pi} {n N : Nat} {z : A} {h ht : List (HI T)} {σ τ : St} {f : Nat -> Option Nat}
end
end Go.Proofs.YtiienjjhlibopaaGreatDoor
namespace Go.Proofs.YtiienjjhlibopaaGreatDoor
open Go.RowKit
set_option linter.unusedSimpArgs false
set_option maxRecDepth 100000
set_option linter.unusedVariables false
variable {T : Nat -> Type} {A : Type}
section
variable {C : ZbD T} {ρ ρ' ρt : Nat -> AV} {π π' π'' : Pi} {n N N' : Nat} {z : A} {h ht : List (HI T)} {σ τ : St} {f : Nat -> Option Nat} {P : Program}
end
end Go.Proofs.YtiienjjhlibopaaGreatDoor
namespace Go.Proofs.YtiienjjhlibopaaGreatDoor
open Go.RowKit
set_option linter.unusedSimpArgs false
set_option maxRecDepth 100000
set_option linter.unusedVariables false
variable {T : Nat -> Type} {A : Type}
section
variable {C : ZbD T} {ρ ρ' ρt ρ0 : Nat -> AV} {π π' π'' π0 : Pi} {n N N' : Nat} {z : A} {h ht h0 : List (HI T)} {σ τ σ0 : St} {P : Program} {U : Nat -> Prop}
end
section
variable {C : ZbD T} {π : Pi} {h : List (HI T)}
end
theorem ZaK {α β : Type} {o : Option α} {f : α -> Option β} {z : β} (h : o.bind f = some z) : ∃ a, o = some a /\ f a = some z := by
 cases o with
 | none => cases h
 | some a => exact ⟨a, rfl, h⟩
section
variable {C : ZbD T} {P : Program} {ρ : Nat -> AV} {env : XE T} {h : List (HI T)} {e : Env} {σ : St} {z : A}
end
end Go.Proofs.YtiienjjhlibopaaGreatDoor
namespace Go.Proofs.YtiienjjhlibopaaGreatDoor
open Go.RowKit
set_option linter.unusedSimpArgs false
set_option maxRecDepth 100000
set_option linter.unusedVariables false
variable {T : Nat -> Type} {A : Type}
section
variable {α β : Type}
open Classical in
end
structure Ou where
 ex : Exit
 slots : List Nat
 vs : List Vs
 hs : List Hs
@[reducible] def Ou.D (T : Nat -> Type) (o : Ou) : Type := VsD T o.vs × HsD T o.hs
@[reducible] def OsD (T : Nat -> Type) : List Ou -> Type
 | [] => Empty
 | [o] => o.D T
 | o :: o' :: l => o.D T ⊕ OsD T (o' :: l)
section
variable {C : ZbD T} {P : Program} {ρ ρ' ρ0 : Nat -> AV} {env env' : XE T} {h h0 h' : List (HI T)} {e : Env} {σ τ σ0 : St} {z : A} {n : Nat} {π0 : Pi}
end
end Go.Proofs.YtiienjjhlibopaaGreatDoor
namespace Go.Proofs.YtiienjjhlibopaaGreatDoor
open Go.RowKit
set_option maxRecDepth 100000
set_option linter.unusedVariables false
variable {T : Nat -> Type} {A : Type}
section
variable {C : ZbD T} {P : Program}
end
end Go.Proofs.YtiienjjhlibopaaGreatDoor
namespace Go.Proofs.YtiienjjhlibopaaGreatDoor
open Go.RowKit
set_option maxRecDepth 100000
set_option linter.unusedVariables false
variable {T : Nat -> Type}
section
variable {C : ZbD T} {P : Program}
end
end Go.Proofs.YtiienjjhlibopaaGreatDoor
namespace Go.Proofs.YtiienjjhlibopaaGreatDoor
open Go.RowKit
set_option linter.unusedSimpArgs false
set_option maxRecDepth 100000
set_option linter.unusedVariables false
variable {T : Nat -> Type}
section
variable {C : ZbD T} {P : Program}
end
end Go.Proofs.YtiienjjhlibopaaGreatDoor
namespace Go.Proofs.YtiienjjhlibopaaGreatDoor
open Go.RowKit
set_option linter.unusedSimpArgs false
set_option maxRecDepth 100000
set_option linter.unusedVariables false
variable {T : Nat -> Type}
section
variable {C : ZbD T} {P : Program} {N N' : Nat} {ρ ρ' : Nat -> AV} {h : List (HI T)} {σ τ : St} {U U0 : Nat -> Prop}
open Classical in
section
variable {n m : Nat}
end
end
end Go.Proofs.YtiienjjhlibopaaGreatDoor
namespace Go.Proofs.YtiienjjhlibopaaGreatDoor
open Go.RowKit
set_option linter.unusedSimpArgs false
set_option maxRecDepth 100000
set_option linter.unusedVariables false
set_option linter.unusedSectionVars false
variable {T : Nat -> Type}
section
variable {C : ZbD T} {P : Program} {N N' : Nat} {ρ ρ' : Nat -> AV} {h : List (HI T)} {σ τ : St} {U U0 : Nat -> Prop}
noncomputable def ZhA (σ τ : St) (g : Nat) : St := ⟨fun b => match σ.blk b with
 | some k => some k
 | none => if b = g then τ.blk b else none, τ.used, by
 obtain ⟨n, hn⟩ := σ.fin
 obtain ⟨m, hm⟩ := τ.fin
 refine ⟨n + m, fun b hb => ⟨(hm b (by omega)).1, ?_⟩⟩
 rw [(hn b (by omega)).2]
 dsimp only
 split
 ·exact (hm b (by omega)).2
 ·rfl⟩
theorem ZgT {σ τ : St} {g b : Nat} {k : Bk} (h : σ.blk b = some k) : (ZhA σ τ g).blk b = some k := by unfold ZhA; dsimp only; rw [h]
theorem ZgU {σ τ : St} {g : Nat} (h : σ.blk g = none) : (ZhA σ τ g).blk g = τ.blk g := by unfold ZhA; dsimp only; rw [h]; simp
theorem Zfq {σ τ : St} {g b : Nat} (h : σ.blk b = none) (hb : b ≠ g) : (ZhA σ τ g).blk b = none := by unfold ZhA; dsimp only; rw [h]; simp [hb]
end
end Go.Proofs.YtiienjjhlibopaaGreatDoor
namespace Go.Proofs.YtiienjjhlibopaaGreatDoor
open Go.RowKit
set_option linter.unusedSimpArgs false
set_option maxRecDepth 100000
set_option linter.unusedVariables false
set_option linter.unusedSectionVars false
variable {T : Nat -> Type}
section
variable {C : ZbD T} {P : Program} {N N' : Nat} {ρ ρ' : Nat -> AV} {h : List (HI T)} {σ τ : St} {U U0 G : Nat -> Prop}
open Classical in
noncomputable def Zdq (G : Nat -> Prop) (σ : St) : St := ⟨fun b => if G b then none else σ.blk b, σ.used, by
 obtain ⟨n, hn⟩ := σ.fin
 refine ⟨n, fun b hb => ⟨(hn b hb).1, ?_⟩⟩
 rw [(hn b hb).2]; simp⟩
theorem ZcL {b : Nat} (hb : G b) : (Zdq G σ).blk b = none := by unfold Zdq; dsimp only; rw [if_pos hb]
theorem Zbb {b : Nat} (hb : ¬ G b) : (Zdq G σ).blk b = σ.blk b := by unfold Zdq; dsimp only; rw [if_neg hb]
theorem ZfR {Z : Nat -> Prop} {b o : Nat} (hf : σ.free Z b o) : (Zdq G σ).free Z b o := by
 obtain ⟨h1, h2, h3⟩ := hf
 refine ⟨h1, h2, ?_⟩
 by_cases hb : G b
 ·rw [ZcL hb]; trivial
 ·rw [Zbb hb]; exact h3
theorem Zkm {w : World} {Z : Nat -> Prop} (hH : ZaG w σ Z) : ZaG w (Zdq G σ) Z := by
 refine ⟨hH.used, fun b hz => ⟨(hH.z b hz).1, ?_⟩, fun b t cs hb => ?_, fun b t k s hb => ?_, fun b es hb => ?_⟩
 ·by_cases hb : G b
  ·exact ZcL hb
  ·rw [Zbb hb]; exact (hH.z b hz).2
 ·by_cases hg : G b
  ·rw [ZcL hg] at hb; cases hb
  ·rw [Zbb hg] at hb
   obtain ⟨g1, g2, g3⟩ := hH.own _ _ _ hb
   exact ⟨g1, g2, fun c hc => (g3 c hc).sub fun b o => ZfR⟩
 ·by_cases hg : G b
  ·rw [ZcL hg] at hb; cases hb
  ·rw [Zbb hg] at hb
   exact hH.tail _ _ _ _ hb
 ·by_cases hg : G b
  ·rw [ZcL hg] at hb; cases hb
  ·rw [Zbb hg] at hb
   exact hH.map _ _ hb
theorem Zli (hown : ∀ b, G b -> ∃ e cs, σ.blk b = some (.own e cs) /\ σ.used b) {w w' : World} {Z : Nat -> Prop} (hH : ZaG w σ Z) {g : Nat} (hH' : ZaG w' τ Z) (hG : Grow w (Zdq G σ) w' τ) (hbut : ∀ b k, ¬ G b -> σ.blk b = some k -> τ.blk b = some k) (hused : ∀ b, σ.used b -> τ.used b)
 (hgu : ¬ σ.used g) (hgn : σ.blk g = none) (hflat : ∀ t cs, τ.blk g = some (.own t cs) -> ∀ c ∈ cs, ∀ w B, Zar w B c) : ZaG w' (ZhA σ τ g) Z /\ Grow w σ w' (ZhA σ τ g) /\ Ext σ (ZhA σ τ g) := by
 have hnarr : ∀ b t k s, σ.blk b = some (.tail t k s) -> ¬ G b := fun b t k s hb hg => by
  obtain ⟨e, cs, q, _⟩ := hown b hg
  rw [hb] at q; cases q
 have hge : τ.used g -> ¬ g < w.heap.size := fun hu hl => hgu (hG.used g hl hu)
 have hG2 : Grow w σ w' (ZhA σ τ g) := by
  refine ⟨hG.os, hG.tape, hG.output, hG.size, hG.used, fun b hb hn => ?_, fun b t k s hb ht => ⟨(hG.tail b t k s hb (by rw [Zbb (hnarr _ _ _ _ ht)]; exact ht)).1, .inr ⟨t, k, s, ZgT ht, Nat.le_refl _⟩⟩, hused⟩
  have hl : (Zdq G σ).blk b = none := by
   by_cases hg : G b
   ·exact ZcL hg
   ·rw [Zbb hg]; exact hn
  obtain ⟨q1, q2⟩ := hG.rest b hb hl
  refine ⟨q1, ?_⟩
  by_cases hbg : b = g
  ·subst hbg; rw [ZgU hn]; exact q2
  ·exact Zfq hn hbg
 refine ⟨⟨hH'.used, fun b hz => ⟨(hH'.z b hz).1, ?_⟩, fun b t cs hb => ?_, fun b t k s hb => ?_, fun b es hb => ?_⟩, hG2, ⟨fun b k hk => ZgT hk, hused⟩⟩
 ·have hn := (hH.z b hz).2
  by_cases hbg : b = g
  ·subst hbg; rw [ZgU hn]; exact (hH'.z b hz).2
  ·exact Zfq hn hbg
 ·cases hs : σ.blk b with
  | some k =>
   rw [ZgT hs] at hb
   injection hb with hb
   subst hb
   obtain ⟨g1, g2, g3⟩ := hH.own _ _ _ hs
   refine ⟨hused _ g1, ?_, fun c hc => hG2.valid (g3 c hc)⟩
   by_cases hg : G b
   ·exact (hG.rest b (hH.used _ g1) (ZcL hg)).1.trans g2
   ·exact (hH'.own _ _ _ (hbut b _ hg hs)).2.1
  | none =>
   by_cases hbg : b = g
   ·subst hbg
    rw [ZgU hs] at hb
    obtain ⟨g1, g2, _⟩ := hH'.own _ _ _ hb
    exact ⟨g1, g2, fun c hc => hflat _ _ hb c hc _ _⟩
   ·rw [Zfq hs hbg] at hb; cases hb
 ·cases hs : σ.blk b with
  | some k' =>
   rw [ZgT hs] at hb
   injection hb with hb
   subst hb
   obtain ⟨g1, g2⟩ := hH'.tail _ _ _ _ (hbut b _ (hnarr _ _ _ _ hs) hs)
   exact ⟨hused _ (hH.tail _ _ _ _ hs).1, g2⟩
  | none =>
   by_cases hbg : b = g
   ·subst hbg
    rw [ZgU hs] at hb
    exact hH'.tail _ _ _ _ hb
   ·rw [Zfq hs hbg] at hb; cases hb
 ·cases hs : σ.blk b with
  | some k' =>
   rw [ZgT hs] at hb
   injection hb with hb
   subst hb
   have hna : ¬ G b := fun hg => by
    obtain ⟨e, cs, q, _⟩ := hown b hg
    rw [hs] at q; cases q
   obtain ⟨g1, g2⟩ := hH'.map _ _ (hbut b _ hna hs)
   exact ⟨hused _ (hH.map _ _ hs).1, g2⟩
  | none =>
   by_cases hbg : b = g
   ·subst hbg
    rw [ZgU hs] at hb
    exact hH'.map _ _ hb
   ·rw [Zfq hs hbg] at hb; cases hb
end
end Go.Proofs.YtiienjjhlibopaaGreatDoor
