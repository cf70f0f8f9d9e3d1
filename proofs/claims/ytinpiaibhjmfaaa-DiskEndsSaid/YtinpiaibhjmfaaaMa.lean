/- XX1, XX2, XX3, XX4, XX5, XX6 in one. -/
import Derived.Test.YtinpiaibhjmfaaaBb
import Derived.Laws.Concat
import Derived.Laws.Cover1
namespace Go.Proofs.Ytinpiaibhjmfaaa
open Go.RowKit
set_option maxRecDepth 100000
set_option linter.unusedVariables false
inductive XV (T : Nat -> Type) : Type where
 | int (k : IntKind) (n : Int)
 | bool (b : Bool)
 | str (s : List UInt8)
 | sl (E : Nat) (xs : List (T E)) (own : Option Nat)
 | slx (E : Nat) (xs ys : List (T E))
 | nil
 | ptr (i o : Nat)
 | nilptr
 | el (E : Nat) (x : T E) (o : Nat)
 | agg (l : List (XV T))
 | tup (l : List (XV T))
 | fn (f : Nat)
 | as (E i lo n : Nat) (co : Option Nat)
 | ap (E i k o : Nat)
 | clo (f : Nat) (ps : List Nat)
 | mp (E : Nat) (k : IntKind) (tb : List (Int × List (T E)))
 | mo (i : Nat)
 | gv (i c : Nat) (l : List Nat)
 | nmap
 | vl (l : List (XV T))
 | ce (l : List (XV T))
 | undef
 | junk
variable {T : Nat -> Type}
instance : Inhabited (XV T) := ⟨.junk⟩
def XV.closed : XV T -> Bool
 | .int _ _ | .bool _ | .str _ | .nil | .nilptr | .nmap | .fn _ => true
 | .sl _ _ none => true
 | .slx _ _ _ => true
 | _ => false
def XV.one : XV T -> Bool
 | .int _ _ | .bool _ | .str _ | .nil | .nilptr | .fn _ | .sl _ _ _ | .slx _ _ _ | .ptr _ _ | .as _ _ _ _ _ | .clo _ _ | .mo _ | .gv _ _ _ | .nmap => true
 | _ => false
def AV.blkO : AV -> Option Nat
 | .raw (.pointer (some ad)) => some ad.block
 | .lst (some ad) _ _ _ => some ad.block
 | .raw (.map (some b)) => some b
 | _ => none
def AV.owns : AV -> Nat -> Prop
 | .tup l, b => ∃ x ∈ l, x.blkO = some b
 | a, b => a.blkO = some b
inductive Wk : XV T -> XV T -> Prop where
 | same (v : XV T) : Wk v v
 | drop (E : Nat) (xs : List (T E)) (r : Nat) : Wk (.sl E xs (some r)) (.sl E xs none)
 | nil (E : Nat) : Wk .nil (.sl E [] none)
 | spare (E : Nat) (xs ys : List (T E)) : Wk (.slx E xs ys) (.sl E xs none)
 | nilx (E : Nat) : Wk .nil (.slx E [] [])
inductive Wks : List (XV T) -> List (XV T) -> Prop where
 | nil : Wks [] []
 | cons {v u vs us} : Wk v u -> Wks vs us -> Wks (v :: vs) (u :: us)
structure Zbg (T : Nat -> Type) where
 enc : (E : Nat) -> T E -> List (XV T)
 dec : (E : Nat) -> List (XV T) -> Option (T E)
 sz : Nat -> Nat
 code : Nat -> Option Nat
 arrm : Nat -> Bool := fun _ => false
 full : Nat -> Bool := fun _ => false
 scr : Nat -> Bool := fun _ => false
 byt : (E : Nat) -> List (T E) -> Option (List UInt8) := fun _ _ => none
 unb : (E : Nat) -> List UInt8 -> Option (List (T E)) := fun _ _ => none
 len : ∀ E x, (enc E x).length = sz E
 pos : ∀ E, 0 < sz E
 shut : ∀ E x, ∀ v ∈ enc E x, v.closed = true
 back : ∀ E l x, dec E l = some x -> Wks l (enc E x)
 byt_ok : ∀ E xs bs, byt E xs = some bs -> xs.flatMap (enc E) = bs.map (fun b => XV.int .u8 (b.toNat : Int)) := by intro E xs bs h; cases h
 byt_sz : ∀ E xs bs, byt E xs = some bs -> sz E = 1 := by intro E xs bs h; cases h
 unb_ok : ∀ E bs xs, unb E bs = some xs -> xs.flatMap (enc E) = bs.map (fun b => XV.int .u8 (b.toNat : Int)) := by intro E bs xs h; cases h
 unb_len : ∀ E bs xs, unb E bs = some xs -> xs.length = bs.length := by intro E bs xs h; cases h
 gsv : Nat -> List Nat -> AV -> AV -> Prop := fun _ _ _ _ => False
 gsv_one : ∀ c l r a, gsv c l r a -> (∃ v, a = .raw v /\ v.oneCell' = true) \/ ∃ A n c' cs, a = .lst A n c' cs := by intro c l r a h; exact h.elim
 gsv_ptr : ∀ c l r b o, gsv c l r (.raw (.pointer (some ⟨b, o, Option.none⟩))) -> r.owns b := by intro c l r b o h; exact h.elim
 gsh : (E : Nat) -> T E -> St -> AV -> Prop := fun _ _ _ _ => False
 gsh_used : ∀ E x σ a b, gsh E x σ a -> a.owns b -> σ.used b := by intro E x σ a b h; exact h.elim
 gsh_blk : ∀ E x σ a b, gsh E x σ a -> a.owns b -> ∃ k, σ.blk b = some k := by intro E x σ a b h; exact h.elim
 gsh_but : ∀ E x σ τ a S, gsh E x σ a -> But S σ τ -> (∀ b, a.owns b -> ¬ S b) -> gsh E x τ a := by intro E x σ τ a S h; exact h.elim
def Zg5 (N : Nat) (ρ : Nat -> AV) : List Nat -> List Nat -> Prop
 | [], [] => True
 | i :: ps, b :: bs => (i < N /\ ρ i = Go.Proofs.Ytinpiaibhjmfaaa.ptr b 0) /\ Zg5 N ρ ps bs
 | _, _ => False
def Zq6 (f : Nat) (bs : List Nat) : Value := .func (.func f) #[] (bs.map fun b => Value.pointer (some ⟨b, 0, none⟩)).toArray
def Zc2 (b : Nat) : AV := .raw (.map (some b))
def ab (b K : Nat) : AV := .lst (some ⟨b, 0, none⟩) K K []
structure Zpi (sz N : Nat) (ρ : Nat -> AV) (i lo n : Nat) (co : Option Nat) (ad : Addr) (c : Nat) : Prop where
 lt : i < N
 le : n <= c
 max : c <= maxLen
 len : n <= 140737488355328
 at_ : ∃ b, ρ i = ab b (lo + c) /\ (0 < c -> ad = ⟨b, lo * sz, none⟩)
 cap : ∀ c', co = some c' -> c = c'
inductive SVs (C : Zbg T) (N : Nat) (ρ : Nat -> AV) : List (XV T) -> List AV -> Prop where
 | none : SVs C N ρ [] []
 | int (k : IntKind) (n : Int) {vs as_} : SVs C N ρ vs as_ -> SVs C N ρ (.int k n :: vs) (.raw (.int k n) :: as_)
 | bool (b : Bool) {vs as_} : SVs C N ρ vs as_ -> SVs C N ρ (.bool b :: vs) (.raw (.bool b) :: as_)
 | str (s : List UInt8) {vs as_} : SVs C N ρ vs as_ -> SVs C N ρ (.str s :: vs) (.raw (.string ⟨s.toArray⟩) :: as_)
 | sl (E : Nat) (xs : List (T E)) (A : Option Addr) (c : Nat) (cs rest : List AV) {vs as_} : xs.length <= c -> c <= maxLen -> xs.length <= 140737488355328 -> (A = Option.none -> xs.length = 0 /\ c = 0) ->
  SVs C N ρ (xs.flatMap (C.enc E)) cs -> SVs C N ρ vs as_ -> SVs C N ρ (.sl E xs Option.none :: vs) (.lst A xs.length c (cs ++ rest) :: as_)
 | slx (E : Nat) (xs ys : List (T E)) (A : Option Addr) (c : Nat) (cs rest : List AV) {vs as_} : xs.length + ys.length <= c -> c <= maxLen -> xs.length + ys.length <= 140737488355328 -> (A = Option.none -> xs.length + ys.length = 0 /\ c = 0) ->
  SVs C N ρ ((xs ++ ys).flatMap (C.enc E)) cs -> SVs C N ρ vs as_ -> SVs C N ρ (.slx E xs ys :: vs) (.lst A xs.length c (cs ++ rest) :: as_)
 | own (E : Nat) (xs : List (T E)) (r : Nat) {vs as_} : r < N -> SVs C N ρ (.sl E xs Option.none :: vs) (ρ r :: as_) -> SVs C N ρ (.sl E xs (some r) :: vs) (ρ r :: as_)
 | nil {vs as_} : SVs C N ρ vs as_ -> SVs C N ρ (.nil :: vs) (.lst Option.none 0 0 [] :: as_)
 | ptr (i o b : Nat) {vs as_} : i < N -> ρ i = Go.Proofs.Ytinpiaibhjmfaaa.ptr b 0 -> SVs C N ρ vs as_ -> SVs C N ρ (.ptr i o :: vs) (Go.Proofs.Ytinpiaibhjmfaaa.ptr b o :: as_)
 | nilptr {vs as_} : SVs C N ρ vs as_ -> SVs C N ρ (.nilptr :: vs) (.raw (.pointer Option.none) :: as_)
 | nmap {vs as_} : SVs C N ρ vs as_ -> SVs C N ρ (.nmap :: vs) (.raw (.map Option.none) :: as_)
 | el (E : Nat) (x : T E) (o : Nat) (ad : Addr) (cs rest : List AV) {vs as_} : SVs C N ρ ((C.enc E x).drop o) cs -> SVs C N ρ vs as_ -> SVs C N ρ (.el E x o :: vs) (.eptr ad (cs ++ rest) :: as_)
 | agg (l : List (XV T)) (ls : List AV) {vs as_} : SVs C N ρ l ls -> SVs C N ρ vs as_ -> SVs C N ρ (.agg l :: vs) (.agg ls :: as_)
 | tup (l : List (XV T)) (ls : List AV) {vs as_} : SVs C N ρ l ls -> SVs C N ρ vs as_ -> SVs C N ρ (.tup l :: vs) (.tup ls :: as_)
 | fn (f : Nat) {vs as_} : SVs C N ρ vs as_ -> SVs C N ρ (.fn f :: vs) (.raw (.func (.func f) #[] #[]) :: as_)
 | as (E i lo n : Nat) (co : Option Nat) (ad : Addr) (c : Nat) {vs as_} : Zpi (C.sz E) N ρ i lo n co ad c -> SVs C N ρ vs as_ -> SVs C N ρ (.as E i lo n co :: vs) (.raw (.slice (some ad) n c) :: as_)
 | asn (E i lo : Nat) (co : Option Nat) {vs as_} : i < N -> ρ i = .lst Option.none 0 0 [] -> (∀ c', co = some c' -> c' = 0) -> SVs C N ρ vs as_ -> SVs C N ρ (.as E i lo 0 co :: vs) (.lst Option.none 0 0 [] :: as_)
 | ap (E i k o b K : Nat) {vs as_} : i < N -> (ρ i = ab b K /\ k < K) -> SVs C N ρ vs as_ -> SVs C N ρ (.ap E i k o :: vs) (Go.Proofs.Ytinpiaibhjmfaaa.ptr b (k * C.sz E + o) :: as_)
 | clo (f : Nat) (ps bs : List Nat) {vs as_} : Zg5 N ρ ps bs -> SVs C N ρ vs as_ -> SVs C N ρ (.clo f ps :: vs) (.raw (Zq6 f bs) :: as_)
 | mp (E : Nat) (k : IntKind) (tb : List (Int × List (T E))) (b : Nat) (ls : List AV) {vs as_} : SVs C N ρ (tb.map fun p => XV.sl E p.2 Option.none) ls -> SVs C N ρ vs as_ -> SVs C N ρ (.mp E k tb :: vs) (.mp b (tb.map fun p => Value.int k p.1) ls :: as_)
 | mo (i b : Nat) {vs as_} : i < N -> ρ i = Zc2 b -> SVs C N ρ vs as_ -> SVs C N ρ (.mo i :: vs) (Zc2 b :: as_)
 | gv (i c : Nat) (l : List Nat) (a : AV) {vs as_} : i < N -> C.gsv c l (ρ i) a -> SVs C N ρ vs as_ -> SVs C N ρ (.gv i c l :: vs) (a :: as_)
 | vl (l : List (XV T)) (A : Option Addr) (c : Nat) (ls rest : List AV) {vs as_} : l.length <= c -> c <= maxLen -> l.length <= 140737488355328 -> (A = Option.none -> l.length = 0 /\ c = 0) -> SVs C N ρ l ls -> SVs C N ρ vs as_ -> SVs C N ρ (.vl l :: vs) (.lst A l.length c (ls ++ rest) :: as_)
 | ce (l : List (XV T)) (ad : Addr) (ls rest : List AV) {vs as_} : SVs C N ρ l ls -> SVs C N ρ vs as_ -> SVs C N ρ (.ce l :: vs) (.eptr ad (ls ++ rest) :: as_)
 | undef {vs as_} : SVs C N ρ vs as_ -> SVs C N ρ (.undef :: vs) (.raw Go.undef :: as_)
 | junk (a : AV) {vs as_} : SVs C N ρ vs as_ -> SVs C N ρ (.junk :: vs) (a :: as_)
abbrev SV (C : Zbg T) (N : Nat) (ρ : Nat -> AV) (v : XV T) (a : AV) : Prop := SVs C N ρ [v] [a]
section
variable {C : Zbg T} {N N' : Nat} {ρ ρ' : Nat -> AV} {v : XV T} {vs l : List (XV T)} {a : AV} {as_ ls : List AV}
theorem SVs.tail (h : SVs C N ρ (v :: vs) (a :: as_)) : SVs C N ρ vs as_ := by
 generalize hx : v :: vs = x at h
 generalize hy : a :: as_ = y at h
 induction h generalizing v vs a as_ with
 | none => cases hx
 | own E xs r hr h ih => injection hx with _ e2; injection hy with _ e4; subst e2 e4; exact ih rfl rfl
 | _ => injection hx with _ e2; injection hy with _ e4; subst e2 e4; assumption
theorem SVs.head (h : SVs C N ρ (v :: vs) (a :: as_)) : SV C N ρ v a := by
 generalize hx : v :: vs = x at h
 generalize hy : a :: as_ = y at h
 induction h generalizing v vs a as_ with
 | none => cases hx
 | own E xs r hr h ih => injection hx with e1 e2; injection hy with e3 e4; subst e1 e2 e3 e4; exact .own E xs r hr (ih rfl rfl)
 | sl E xs A c cs rest h1 h2 h3 h4 h5 h6 _ _ => injection hx with e1 e2; injection hy with e3 e4; subst e1 e2 e3 e4; exact .sl E xs A c cs rest h1 h2 h3 h4 h5 .none
 | slx E xs ys A c cs rest h1 h2 h3 h4 h5 h6 _ _ => injection hx with e1 e2; injection hy with e3 e4; subst e1 e2 e3 e4; exact .slx E xs ys A c cs rest h1 h2 h3 h4 h5 .none
 | el E x o ad cs rest h1 h2 _ _ => injection hx with e1 e2; injection hy with e3 e4; subst e1 e2 e3 e4; exact .el E x o ad cs rest h1 .none
 | agg l ls h1 h2 _ _ => injection hx with e1 e2; injection hy with e3 e4; subst e1 e2 e3 e4; exact .agg l ls h1 .none
 | tup l ls h1 h2 _ _ => injection hx with e1 e2; injection hy with e3 e4; subst e1 e2 e3 e4; exact .tup l ls h1 .none
 | ptr i o b h1 h2 h3 _ => injection hx with e1 e2; injection hy with e3 e4; subst e1 e2 e3 e4; exact .ptr i o b h1 h2 .none
 | mo i b h1 h2 h3 _ => injection hx with e1 e2; injection hy with e3 e4; subst e1 e2 e3 e4; exact .mo i b h1 h2 .none
 | gv i c l v h1 h2 h3 _ => injection hx with e1 e2; injection hy with e3 e4; subst e1 e2 e3 e4; exact .gv i c l _ h1 h2 .none
 | int k n h _ => injection hx with e1 e2; injection hy with e3 e4; subst e1 e2 e3 e4; exact .int k n .none
 | bool b h _ => injection hx with e1 e2; injection hy with e3 e4; subst e1 e2 e3 e4; exact .bool b .none
 | str s h _ => injection hx with e1 e2; injection hy with e3 e4; subst e1 e2 e3 e4; exact .str s .none
 | nil h _ => injection hx with e1 e2; injection hy with e3 e4; subst e1 e2 e3 e4; exact .nil .none
 | nilptr h _ => injection hx with e1 e2; injection hy with e3 e4; subst e1 e2 e3 e4; exact .nilptr .none
 | nmap h _ => injection hx with e1 e2; injection hy with e3 e4; subst e1 e2 e3 e4; exact .nmap .none
 | as E i lo n co ad c h1 _ _ => injection hx with e1 e2; injection hy with e3 e4; subst e1 e2 e3 e4; exact .as E i lo n co ad c h1 .none
 | asn E i lo co h1 h2 h3 _ _ => injection hx with e1 e2; injection hy with e3 e4; subst e1 e2 e3 e4; exact .asn E i lo co h1 h2 h3 .none
 | ap E i k o b K h1 h2 _ _ => injection hx with e1 e2; injection hy with e3 e4; subst e1 e2 e3 e4; exact .ap E i k o b K h1 h2 .none
 | clo f ps bs h1 _ _ => injection hx with e1 e2; injection hy with e3 e4; subst e1 e2 e3 e4; exact .clo f ps bs h1 .none
 | fn f h _ => injection hx with e1 e2; injection hy with e3 e4; subst e1 e2 e3 e4; exact .fn f .none
 | mp E kk tb b ls h1 h2 _ _ => injection hx with e1 e2; injection hy with e3 e4; subst e1 e2 e3 e4; exact .mp E kk tb b ls h1 .none
 | vl l A c ls rest h1 h2 h3 h4 h5 h6 _ _ => injection hx with e1 e2; injection hy with e3 e4; subst e1 e2 e3 e4; exact .vl l A c ls rest h1 h2 h3 h4 h5 .none
 | ce l ad ls rest h1 h2 _ _ => injection hx with e1 e2; injection hy with e3 e4; subst e1 e2 e3 e4; exact .ce l ad ls rest h1 .none
 | undef h _ => injection hx with e1 e2; injection hy with e3 e4; subst e1 e2 e3 e4; exact .undef .none
 | junk a h _ => injection hx with e1 e2; injection hy with e3 e4; subst e1 e2 e3 e4; exact .junk _ .none
theorem SVs.cons (h : SV C N ρ v a) (k : SVs C N ρ vs as_) : SVs C N ρ (v :: vs) (a :: as_) := by
 change SVs C N ρ [v] [a] at h
 generalize hx : [v] = x at h
 generalize hy : [a] = y at h
 induction h generalizing v a with
 | none => cases hx
 | own E xs r hr h ih => injection hx with e1 e2; injection hy with e3 e4; subst e1 e2 e3 e4; exact .own E xs r hr (ih rfl rfl)
 | sl E xs A c cs rest h1 h2 h3 h4 h5 h6 _ _ => injection hx with e1 e2; injection hy with e3 e4; subst e1 e2 e3 e4; exact .sl E xs A c cs rest h1 h2 h3 h4 h5 k
 | slx E xs ys A c cs rest h1 h2 h3 h4 h5 h6 _ _ => injection hx with e1 e2; injection hy with e3 e4; subst e1 e2 e3 e4; exact .slx E xs ys A c cs rest h1 h2 h3 h4 h5 k
 | el E x o ad cs rest h1 h2 _ _ => injection hx with e1 e2; injection hy with e3 e4; subst e1 e2 e3 e4; exact .el E x o ad cs rest h1 k
 | agg l ls h1 h2 _ _ => injection hx with e1 e2; injection hy with e3 e4; subst e1 e2 e3 e4; exact .agg l ls h1 k
 | tup l ls h1 h2 _ _ => injection hx with e1 e2; injection hy with e3 e4; subst e1 e2 e3 e4; exact .tup l ls h1 k
 | ptr i o b h1 h2 h3 _ => injection hx with e1 e2; injection hy with e3 e4; subst e1 e2 e3 e4; exact .ptr i o b h1 h2 k
 | mo i b h1 h2 h3 _ => injection hx with e1 e2; injection hy with e3 e4; subst e1 e2 e3 e4; exact .mo i b h1 h2 k
 | gv i c l v h1 h2 h3 _ => injection hx with e1 e2; injection hy with e3 e4; subst e1 e2 e3 e4; exact .gv i c l _ h1 h2 k
 | int k' n h _ => injection hx with e1 e2; injection hy with e3 e4; subst e1 e2 e3 e4; exact .int k' n k
 | bool b h _ => injection hx with e1 e2; injection hy with e3 e4; subst e1 e2 e3 e4; exact .bool b k
 | str s h _ => injection hx with e1 e2; injection hy with e3 e4; subst e1 e2 e3 e4; exact .str s k
 | nil h _ => injection hx with e1 e2; injection hy with e3 e4; subst e1 e2 e3 e4; exact .nil k
 | nilptr h _ => injection hx with e1 e2; injection hy with e3 e4; subst e1 e2 e3 e4; exact .nilptr k
 | nmap h _ => injection hx with e1 e2; injection hy with e3 e4; subst e1 e2 e3 e4; exact .nmap k
 | as E i lo n co ad c h1 _ _ => injection hx with e1 e2; injection hy with e3 e4; subst e1 e2 e3 e4; exact .as E i lo n co ad c h1 k
 | asn E i lo co h1 h2 h3 _ _ => injection hx with e1 e2; injection hy with e3 e4; subst e1 e2 e3 e4; exact .asn E i lo co h1 h2 h3 k
 | ap E i k' o b K h1 h2 _ _ => injection hx with e1 e2; injection hy with e3 e4; subst e1 e2 e3 e4; exact .ap E i k' o b K h1 h2 k
 | clo f ps bs h1 _ _ => injection hx with e1 e2; injection hy with e3 e4; subst e1 e2 e3 e4; exact .clo f ps bs h1 k
 | fn f h _ => injection hx with e1 e2; injection hy with e3 e4; subst e1 e2 e3 e4; exact .fn f k
 | mp E kk tb b ls h1 h2 _ _ => injection hx with e1 e2; injection hy with e3 e4; subst e1 e2 e3 e4; exact .mp E kk tb b ls h1 k
 | vl l A c ls rest h1 h2 h3 h4 h5 h6 _ _ => injection hx with e1 e2; injection hy with e3 e4; subst e1 e2 e3 e4; exact .vl l A c ls rest h1 h2 h3 h4 h5 k
 | ce l ad ls rest h1 h2 _ _ => injection hx with e1 e2; injection hy with e3 e4; subst e1 e2 e3 e4; exact .ce l ad ls rest h1 k
 | undef h _ => injection hx with e1 e2; injection hy with e3 e4; subst e1 e2 e3 e4; exact .undef k
 | junk a h _ => injection hx with e1 e2; injection hy with e3 e4; subst e1 e2 e3 e4; exact .junk _ k
theorem SVs.len (h : SVs C N ρ vs as_) : as_.length = vs.length := by
 induction h with
 | none => rfl
 | own E xs r hr h ih => simpa using ih
 | _ => simp_all
theorem Zdh : SVs C N ρ [] as_ ↔ as_ = [] := ⟨fun h => by cases h; rfl, fun h => by subst h; exact .none⟩
theorem SVs.to (h : SVs C N ρ (v :: vs) as_) : ∃ a bs, as_ = a :: bs /\ SV C N ρ v a /\ SVs C N ρ vs bs := by
 cases as_ with
 | nil => have := h.len; simp at this
 | cons a bs => exact ⟨a, bs, rfl, h.head, h.tail⟩
theorem SVs.get (h : SVs C N ρ vs as_) {i : Nat} {x : XV T} (hx : vs[i]? = some x) : ∃ a, as_[i]? = some a /\ SV C N ρ x a := by
 induction vs generalizing as_ i with
 | nil => simp at hx
 | cons v vs ih =>
  obtain ⟨a, bs, rfl, h1, h2⟩ := h.to
  cases i with
  | zero => simp at hx; subst hx; exact ⟨a, rfl, h1⟩
  | succ i => simp at hx; obtain ⟨a', h3, h4⟩ := ih h2 hx; exact ⟨a', by simpa using h3, h4⟩
theorem SVs.app (h : SVs C N ρ vs as_) (k : SVs C N ρ l ls) : SVs C N ρ (vs ++ l) (as_ ++ ls) := by
 induction vs generalizing as_ with
 | nil => rw [Zdh.1 h]; exact k
 | cons v vs ih => obtain ⟨a, bs, rfl, h1, h2⟩ := h.to; exact .cons h1 (ih h2)
theorem SVs.drop (h : SVs C N ρ vs as_) (n : Nat) : SVs C N ρ (vs.drop n) (as_.drop n) := by
 induction vs generalizing as_ n with
 | nil => rw [Zdh.1 h]; simpa using SVs.none
 | cons v vs ih =>
  obtain ⟨a, bs, rfl, h1, h2⟩ := h.to
  cases n with
  | zero => exact .cons h1 h2
  | succ n => exact ih h2 n
theorem SVs.take (h : SVs C N ρ vs as_) (n : Nat) : SVs C N ρ (vs.take n) (as_.take n) := by
 induction vs generalizing as_ n with
 | nil => rw [Zdh.1 h]; simpa using SVs.none
 | cons v vs ih =>
  obtain ⟨a, bs, rfl, h1, h2⟩ := h.to
  cases n with
  | zero => exact .none
  | succ n => exact .cons h1 (ih h2 n)
theorem SVs.split (h : SVs C N ρ (vs ++ l) as_) : ∃ xs ys, as_ = xs ++ ys /\ SVs C N ρ vs xs /\ SVs C N ρ l ys := by
 refine ⟨as_.take vs.length, as_.drop vs.length, (List.take_append_drop _ _).symm, ?_, ?_⟩
 ·have := h.take vs.length; simpa using this
 ·have := h.drop vs.length; simpa using this
theorem SVs.shut (h : SVs C N ρ vs as_) (hc : ∀ v ∈ vs, v.closed = true) : SVs C N' ρ' vs as_ := by
 induction h with
 | none => exact .none
 | int k n h ih => exact .int k n (ih fun v hv => hc v (List.mem_cons_of_mem _ hv))
 | bool b h ih => exact .bool b (ih fun v hv => hc v (List.mem_cons_of_mem _ hv))
 | str s h ih => exact .str s (ih fun v hv => hc v (List.mem_cons_of_mem _ hv))
 | sl E xs A c cs rest h1 h2 h3 h4 h5 h6 ih1 ih2 =>
  refine .sl E xs A c cs rest h1 h2 h3 h4 (ih1 fun v hv => ?_) (ih2 fun v hv => hc v (List.mem_cons_of_mem _ hv))
  obtain ⟨x, _, hx⟩ := List.mem_flatMap.1 hv
  exact C.shut E x v hx
 | slx E xs ys A c cs rest h1 h2 h3 h4 h5 h6 ih1 ih2 =>
  refine .slx E xs ys A c cs rest h1 h2 h3 h4 (ih1 fun v hv => ?_) (ih2 fun v hv => hc v (List.mem_cons_of_mem _ hv))
  obtain ⟨x, _, hx⟩ := List.mem_flatMap.1 hv
  exact C.shut E x v hx
 | own E xs r hr h ih => exact absurd (hc _ (List.mem_cons_self)) (by simp [XV.closed])
 | nil h ih => exact .nil (ih fun v hv => hc v (List.mem_cons_of_mem _ hv))
 | nilptr h ih => exact .nilptr (ih fun v hv => hc v (List.mem_cons_of_mem _ hv))
 | nmap h ih => exact .nmap (ih fun v hv => hc v (List.mem_cons_of_mem _ hv))
 | fn f h ih => exact .fn f (ih fun v hv => hc v (List.mem_cons_of_mem _ hv))
 | ptr i o b h1 h2 h3 ih => exact absurd (hc _ (List.mem_cons_self)) (by simp [XV.closed])
 | mo i b h1 h2 h3 ih => exact absurd (hc _ (List.mem_cons_self)) (by simp [XV.closed])
 | gv i c l v h1 h2 h3 ih => exact absurd (hc _ (List.mem_cons_self)) (by simp [XV.closed])
 | el E x o ad cs rest h1 h2 ih1 ih2 => exact absurd (hc _ (List.mem_cons_self)) (by simp [XV.closed])
 | agg l ls h1 h2 ih1 ih2 => exact absurd (hc _ (List.mem_cons_self)) (by simp [XV.closed])
 | tup l ls h1 h2 ih1 ih2 => exact absurd (hc _ (List.mem_cons_self)) (by simp [XV.closed])
 | junk a h ih => exact absurd (hc _ (List.mem_cons_self)) (by simp [XV.closed])
 | undef h ih => exact absurd (hc _ (List.mem_cons_self)) (by simp [XV.closed])
 | as E i lo n co ad c h1 h2 ih => exact absurd (hc _ (List.mem_cons_self)) (by simp [XV.closed])
 | asn E i lo co h1 h2 h3 h4 ih => exact absurd (hc _ (List.mem_cons_self)) (by simp [XV.closed])
 | ap E i k o b K h1 h2 h3 ih => exact absurd (hc _ (List.mem_cons_self)) (by simp [XV.closed])
 | clo f ps bs h1 h2 ih => exact absurd (hc _ (List.mem_cons_self)) (by simp [XV.closed])
 | mp E kk tb b ls h1 h2 ih1 ih2 => exact absurd (hc _ (List.mem_cons_self)) (by simp [XV.closed])
 | vl l A c ls rest h1 h2 h3 h4 h5 h6 ih1 ih2 => exact absurd (hc _ (List.mem_cons_self)) (by simp [XV.closed])
 | ce l ad ls rest h1 h2 ih1 ih2 => exact absurd (hc _ (List.mem_cons_self)) (by simp [XV.closed])
theorem Zg5.ext (hN : N <= N') (hρ : ∀ i, i < N -> ρ' i = ρ i) : ∀ {ps bs : List Nat}, Zg5 N ρ ps bs -> Zg5 N' ρ' ps bs
 | [], [], _ => trivial
 | i :: ps, b :: bs, h => ⟨⟨Nat.lt_of_lt_of_le h.1.1 hN, (hρ i h.1.1).trans h.1.2⟩, Zg5.ext hN hρ h.2⟩
 | [], _ :: _, h => h.elim
 | _ :: _, [], h => h.elim
theorem Zpi.ext {sz i lo n c : Nat} {co : Option Nat} {ad : Addr} (h : Zpi sz N ρ i lo n co ad c) (hN : N <= N') (hρ : ∀ i, i < N -> ρ' i = ρ i) : Zpi sz N' ρ' i lo n co ad c := ⟨Nat.lt_of_lt_of_le h.lt hN, h.le, h.max, h.len, by obtain ⟨b, h1, h2⟩ := h.at_; exact ⟨b, (hρ i h.lt).trans h1, h2⟩, h.cap⟩
theorem SVs.ext (h : SVs C N ρ vs as_) (hN : N <= N') (hρ : ∀ i, i < N -> ρ' i = ρ i) : SVs C N' ρ' vs as_ := by
 induction h with
 | none => exact .none
 | int k n h ih => exact .int k n ih
 | bool b h ih => exact .bool b ih
 | str s h ih => exact .str s ih
 | sl E xs A c cs rest h1 h2 h3 h4 h5 h6 ih1 ih2 => exact .sl E xs A c cs rest h1 h2 h3 h4 ih1 ih2
 | slx E xs ys A c cs rest h1 h2 h3 h4 h5 h6 ih1 ih2 => exact .slx E xs ys A c cs rest h1 h2 h3 h4 ih1 ih2
 | own E xs r hr h ih => rw [<- hρ r hr] at ih ⊢; exact .own E xs r (Nat.lt_of_lt_of_le hr hN) ih
 | nil h ih => exact .nil ih
 | nilptr h ih => exact .nilptr ih
 | nmap h ih => exact .nmap ih
 | fn f h ih => exact .fn f ih
 | undef h ih => exact .undef ih
 | as E i lo n co ad c h1 h2 ih => exact .as E i lo n co ad c (h1.ext hN hρ) ih
 | asn E i lo co h1 h2 h3 h4 ih => exact .asn E i lo co (Nat.lt_of_lt_of_le h1 hN) ((hρ i h1).trans h2) h3 ih
 | ap E i k o b K h1 h2 h3 ih => exact .ap E i k o b K (Nat.lt_of_lt_of_le h1 hN) ⟨(hρ i h1).trans h2.1, h2.2⟩ ih
 | clo f ps bs h1 h2 ih => exact .clo f ps bs (h1.ext hN hρ) ih
 | mp E kk tb b ls h1 h2 ih1 ih2 => exact .mp E kk tb b ls ih1 ih2
 | vl l A c ls rest h1 h2 h3 h4 h5 h6 ih1 ih2 => exact .vl l A c ls rest h1 h2 h3 h4 ih1 ih2
 | ce l ad ls rest h1 h2 ih1 ih2 => exact .ce l ad ls rest ih1 ih2
 | ptr i o b h1 h2 h3 ih => exact .ptr i o b (Nat.lt_of_lt_of_le h1 hN) ((hρ i h1).trans h2) ih
 | mo i b h1 h2 h3 ih => exact .mo i b (Nat.lt_of_lt_of_le h1 hN) ((hρ i h1).trans h2) ih
 | gv i c l v h1 h2 h3 ih => exact .gv i c l _ (Nat.lt_of_lt_of_le h1 hN) (by rw [hρ i h1]; exact h2) ih
 | el E x o ad cs rest h1 h2 ih1 ih2 => exact .el E x o ad cs rest ih1 ih2
 | agg l ls h1 h2 ih1 ih2 => exact .agg l ls ih1 ih2
 | tup l ls h1 h2 ih1 ih2 => exact .tup l ls ih1 ih2
 | junk a h ih => exact .junk a ih
theorem SVs.one (h : SV C N ρ v a) (ho : v.one = true) : a.one = true := by
 change SVs C N ρ [v] [a] at h
 generalize hx : [v] = x at h
 generalize hy : [a] = y at h
 induction h generalizing v a with
 | none => cases hx
 | own E xs r hr h ih => injection hx with e1 e2; injection hy with e3 e4; subst e1 e2 e3 e4; exact ih rfl rfl rfl
 | el E x o ad cs rest h1 h2 _ _ => injection hx with e1 e2; injection hy with e3 e4; subst e1 e2 e3 e4; rfl
 | agg l ls h1 h2 _ _ => injection hx with e1 e2; subst e1; simp [XV.one] at ho
 | tup l ls h1 h2 _ _ => injection hx with e1 e2; subst e1; simp [XV.one] at ho
 | junk a h _ => injection hx with e1 e2; subst e1; simp [XV.one] at ho
 | undef h _ => injection hx with e1 e2; subst e1; simp [XV.one] at ho
 | mp E kk tb b ls h1 h2 _ _ => injection hx with e1 e2; subst e1; simp [XV.one] at ho
 | vl l A c ls rest h1 h2 h3 h4 h5 h6 _ _ => injection hx with e1 e2; subst e1; simp [XV.one] at ho
 | ce l ad ls rest h1 h2 _ _ => injection hx with e1 e2; subst e1; simp [XV.one] at ho
 | ap E i k o b h1 h2 _ _ => injection hx with e1 e2; subst e1; simp [XV.one] at ho
 | gv i c l v h1 h2 h3 _ =>
  injection hx with e1 e2; injection hy with e3 e4; subst e1 e2 e3 e4
  rcases C.gsv_one _ _ _ _ h2 with ⟨u, e, h⟩ | ⟨_, _, _, _, e⟩
  ·rw [e]; exact h
  ·rw [e]; rfl
 | _ => injection hx with e1 e2; injection hy with e3 e4; subst e1 e2 e3 e4; rfl
end
end Go.Proofs.Ytinpiaibhjmfaaa
namespace Go.Proofs.Ytinpiaibhjmfaaa
open Go.RowKit
set_option maxRecDepth 100000
set_option linter.unusedVariables false
variable {T : Nat -> Type}
inductive MK where
 | str
 | int (k : IntKind)
 | two (k j : IntKind)
 deriving DecidableEq
abbrev MK.ty : MK -> Type
 | .str => List UInt8
 | .int _ => Int
 | .two _ _ => Int × Int
def MK.val : (K : MK) -> K.ty -> Value
 | .str, s => .string ⟨s.toArray⟩
 | .int k, n => .int k n
 | .two k j, p => .agg #[.int k p.1, .int j p.2]
def MK.xv : (K : MK) -> K.ty -> XV T
 | .str, s => .str s
 | .int k, n => .int k n
 | .two k j, p => .agg [.int k p.1, .int j p.2]
def MK.of : (K : MK) -> XV T -> Option K.ty
 | .str, .str s => some s
 | .int k, .int k' n => if k = k' then some n else none
 | .two k j, .agg [.int k' a, .int j' b] => if k = k' /\ j = j' then some (a, b) else none
 | _, _ => none
def MK.zero : (K : MK) -> K.ty
 | .str => []
 | .int _ => (0 : Int)
 | .two _ _ => ((0 : Int), (0 : Int))
inductive HI (T : Nat -> Type) : Type where
 | obj (t : TypeId) (cells : List (XV T))
 | row (e sz : Nat)
 | arr (e : TypeId) (E : Nat) (kp : Bool) (xs : List (T E))
 | mmap (K V : MK) (es : List (K.ty × V.ty))
 | gen (E : Nat) (x : T E)
 | dead
def HI.alive : HI T -> Bool
 | .dead => false
 | _ => true
@[simp] theorem Zpj (b c : Nat) : (Zc2 b).owns c ↔ b = c := ⟨fun h => by injection h, fun h => by subst h; rfl⟩
@[simp] theorem Zp7 (b o c : Nat) : (ptr b o).owns c ↔ b = c := ⟨fun h => by injection h, fun h => by subst h; rfl⟩
@[simp] theorem Zoe (b o c : Nat) : (ab b o).owns c ↔ b = c := ⟨fun h => by injection h, fun h => by subst h; rfl⟩
theorem Zpk {b c K L : Nat} (h : ab b K = ab c L) : b = c /\ K = L := by
 unfold ab at h
 injection h with h1 h2
 injection h1 with h1
 injection h1 with h1
 exact ⟨h1, h2⟩
def SH (C : Zbg T) (N : Nat) (ρ : Nat -> AV) (σ : St) (i : Nat) : HI T -> Prop
 | .obj t cells => ∃ b acs, ρ i = ptr b 0 /\ σ.blk b = some (.own t acs) /\ σ.used b /\ SVs C N ρ cells acs
 | .row e sz => ∃ n cells, Own σ e sz (ρ i) n cells
 | .arr e E _ xs => (∃ b K pre rest, ρ i = ab b K /\ σ.blk b = some (.own e (pre ++ rest)) /\ σ.used b /\ (∀ N' ρ', SVs C N' ρ' (xs.flatMap (C.enc E)) pre) /\ (pre ++ rest).length = K * C.sz E /\ K <= maxLen /\ (C.full E = true -> ∃ zs : List (T E), ∀ N' ρ', SVs C N' ρ' (zs.flatMap (C.enc E)) rest)) \/ (ρ i = .lst none 0 0 [] /\ xs = [])
 | .mmap K V es => ∃ b, ρ i = Zc2 b /\ σ.blk b = some (.map (es.map fun p => (K.val p.1, V.val p.2))) /\ σ.used b
 | .gen E x => C.gsh E x σ (ρ i)
 | .dead => True
structure Hp (C : Zbg T) (ρ : Nat -> AV) (h : List (HI T)) (σ : St) : Prop where
 it : ∀ i x, h[i]? = some x -> SH C h.length ρ σ i x
 dist : ∀ i j x y b, h[i]? = some x -> h[j]? = some y -> x.alive = true -> y.alive = true -> (ρ i).owns b -> (ρ j).owns b -> i = j
def Liv (ρ : Nat -> AV) (h : List (HI T)) (b : Nat) : Prop := ∃ i x, h[i]? = some x /\ x.alive = true /\ (ρ i).owns b
def Zqo (U : Nat -> Prop) (ρ : Nat -> AV) (h : List (HI T)) (b : Nat) : Prop := ∃ i x, U i /\ h[i]? = some x /\ x.alive = true /\ (ρ i).owns b
structure Rel (U : Nat -> Prop) (ρ : Nat -> AV) (h : List (HI T)) (σ : St) (ρ' : Nat -> AV) (h' : List (HI T)) (τ : St) : Prop where
 len : h.length <= h'.length
 ext : ∀ i, i < h.length -> ρ' i = ρ i
 but : But (Zqo U ρ h) σ τ
 born : ∀ b, Liv ρ' h' b -> Liv ρ h b \/ (σ.blk b = none /\ ¬ σ.used b)
section
variable {U : Nat -> Prop} {C : Zbg T} {ρ ρ' ρ'' : Nat -> AV} {h h' h'' : List (HI T)} {σ τ υ : St} {b i : Nat}
theorem ZjN {e sz n : Nat} {v : AV} {cells : List AV} (ho : Own σ e sz v n cells) (hb : v.owns b) : σ.used b /\ σ.blk b = some (.tail e (n * sz) ((match v with | .lst _ _ c _ => c | _ => 0) * sz)) := by
 rcases ho.2 with ⟨rfl, _⟩ | ⟨g, c, rfl, _, _, h1, h2⟩
 ·cases hb
 ·injection hb with hb
  subst hb
  exact ⟨h2, h1⟩
theorem Hp.used (H : Hp C ρ h σ) (hl : Liv ρ h b) : σ.used b := by
 obtain ⟨i, x, h1, h2, h3⟩ := hl
 have := H.it i x h1
 cases x with
 | gen E x => exact C.gsh_used _ _ _ _ _ this h3
 | mmap K V es =>
  obtain ⟨b', h4, _, h5⟩ := this
  rw [h4] at h3
  injection h3 with h3
  subst h3
  exact h5
 | obj t cells =>
  obtain ⟨b', acs, h4, _, h5, _⟩ := this
  rw [h4] at h3
  injection h3 with h3
  subst h3
  exact h5
 | arr e E kp xs =>
  rcases this with ⟨b', K', pre, rest, h4, _, h5, _⟩ | ⟨h4, _⟩
  ·rw [h4] at h3
   injection h3 with h3
   subst h3
   exact h5
  ·rw [h4] at h3; cases h3
 | row e sz =>
  obtain ⟨n, cells, ho⟩ := this
  exact (ZjN ho h3).1
 | dead => cases h2
theorem Hp.blk (H : Hp C ρ h σ) (hl : Liv ρ h b) : ∃ k, σ.blk b = some k := by
 obtain ⟨i, x, h1, h2, h3⟩ := hl
 have := H.it i x h1
 cases x with
 | gen E x => exact C.gsh_blk _ _ _ _ _ this h3
 | mmap K V es =>
  obtain ⟨b', h4, h5, _⟩ := this
  rw [h4] at h3
  injection h3 with h3
  subst h3
  exact ⟨_, h5⟩
 | obj t cells =>
  obtain ⟨b', acs, h4, h5, _, _⟩ := this
  rw [h4] at h3
  injection h3 with h3
  subst h3
  exact ⟨_, h5⟩
 | arr e E kp xs =>
  rcases this with ⟨b', K', pre, rest, h4, h5, _, _⟩ | ⟨h4, _⟩
  ·rw [h4] at h3
   injection h3 with h3
   subst h3
   exact ⟨_, h5⟩
  ·rw [h4] at h3; cases h3
 | row e sz =>
  obtain ⟨n, cells, ho⟩ := this
  exact ⟨_, (ZjN ho h3).2⟩
 | dead => cases h2
theorem But.more {S S' : Nat -> Prop} (hX : But S σ τ) (hS : ∀ b, S b -> S' b) : But S' σ τ := ⟨fun c x hc hx => hX.keep c x (fun hs => hc (hS c hs)) hx, hX.used⟩
theorem Rel.refl (U : Nat -> Prop) (ρ : Nat -> AV) (h : List (HI T)) (σ : St) : Rel U ρ h σ ρ h σ := ⟨Nat.le_refl _, fun _ _ => rfl, .refl _ _, fun _ hb => .inl hb⟩
theorem Rel.mono {U U' : Nat -> Prop} (r : Rel U ρ h σ ρ' h' τ) (hU : ∀ i, U i -> U' i) : Rel U' ρ h σ ρ' h' τ := ⟨r.len, r.ext, r.but.more fun b ⟨i, x, h1, h2⟩ => ⟨i, x, hU i h1, h2⟩, r.born⟩
theorem Rel.trans {U V : Nat -> Prop} (H : Hp C ρ h σ) (r1 : Rel U ρ h σ ρ' h' τ) (r2 : Rel V ρ' h' τ ρ'' h'' υ) : Rel (fun _ => True) ρ h σ ρ'' h'' υ := by
 have hb1 : But (Zqo (fun _ => True) ρ h) σ τ := r1.but.more (fun b ⟨i, x, _, h2⟩ => ⟨i, x, trivial, h2⟩)
 refine ⟨Nat.le_trans r1.len r2.len, fun i hi => (r2.ext i (Nat.lt_of_lt_of_le hi r1.len)).trans (r1.ext i hi), hb1.ext2 (fun b hb => ?_) r2.but, fun b hb => ?_⟩
 ·obtain ⟨i, x, _, h2⟩ := hb
  rcases r1.born b ⟨i, x, h2⟩ with ⟨j, y, h3⟩ | h3
  ·exact .inl ⟨j, y, trivial, h3⟩
  ·exact .inr h3.1
 rcases r2.born b hb with h1 | ⟨h1, h2⟩
 ·exact r1.born b h1
 ·exact .inr ⟨r1.but.noneOfB (fun b ⟨i, x, _, h4⟩ => H.used ⟨i, x, h4⟩) h2 h1, fun hu => h2 (r1.but.used _ hu)⟩
theorem ZcF {α : Type} {l : List α} {i j : Nat} {x y : α} (hx : (l.set i x)[j]? = some y) : (j = i /\ y = x /\ i < l.length) \/ (j ≠ i /\ l[j]? = some y) := by
 rw [List.getElem?_set] at hx
 by_cases hj : i = j
 ·subst hj
  rw [if_pos rfl] at hx
  split at hx
  ·injection hx with hx; exact .inl ⟨rfl, hx.symm, ‹_›⟩
  ·cases hx
 ·rw [if_neg hj] at hx
  exact .inr ⟨fun e => hj e.symm, hx⟩
theorem ZbP {α : Type} {l : List α} {j : Nat} {x y : α} (hx : (l ++ [x])[j]? = some y) : (j = l.length /\ y = x) \/ (j < l.length /\ l[j]? = some y) := by
 rw [List.getElem?_append] at hx
 split at hx
 ·exact .inr ⟨‹_›, hx⟩
 ·have : j - l.length = 0 := by
   rcases Nat.eq_zero_or_pos (j - l.length) with h0 | h0
   ·exact h0
   ·rw [List.getElem?_cons] at hx
    rw [if_neg (by omega)] at hx
    simp at hx
  rw [this] at hx
  simp at hx
  exact .inl ⟨by omega, hx.symm⟩
def rup (ρ : Nat -> AV) (i : Nat) (a : AV) : Nat -> AV := fun j => if j = i then a else ρ j
theorem Za6 (ρ : Nat -> AV) (i : Nat) (a : AV) : rup ρ i a i = a := by unfold rup; rw [if_pos rfl]
theorem Zdz {ρ : Nat -> AV} {i j : Nat} {a : AV} (h : j ≠ i) : rup ρ i a j = ρ j := by unfold rup; rw [if_neg h]
theorem Zbr {α : Type} {l : List α} {i : Nat} {x : α} (h : l[i]? = some x) : i < l.length := (List.getElem?_eq_some_iff.1 h).1
theorem Hp.new (H : Hp C ρ h σ) (hb : ¬ σ.used b) (hn : σ.blk b = none) (t : TypeId) {cells : List (XV T)} {acs : List AV} (hc : SVs C h.length ρ cells acs) :
 Hp C (rup ρ h.length (ptr b 0)) (h ++ [.obj t cells]) (σ.put b (.own t acs)) /\ Rel U ρ h σ (rup ρ h.length (ptr b 0)) (h ++ [.obj t cells]) (σ.put b (.own t acs)) /\ SV C (h ++ [HI.obj t cells]).length (rup ρ h.length (ptr b 0)) (.ptr h.length 0) (ptr b 0) := by
 have hext : ∀ i, i < h.length -> rup ρ h.length (ptr b 0) i = ρ i := fun i hi => Zdz (by omega)
 have hlen : h.length <= (h ++ [HI.obj t cells]).length := by simp
 have hnew : ∀ i x c, h[i]? = some x -> x.alive = true -> (ρ i).owns c -> c ≠ b := fun i x c h1 h2 h3 e => by
  subst e
  exact hb (H.used ⟨i, x, h1, h2, h3⟩)
 have hsh : ∀ i x, h[i]? = some x -> SH C (h ++ [HI.obj t cells]).length (rup ρ h.length (ptr b 0)) (σ.put b (.own t acs)) i x := fun i x hx => by
  have hi := Zbr hx
  have := H.it i x hx
  cases x with
  | gen E x =>
   show C.gsh E x _ (rup ρ h.length (ptr b 0) i)
   rw [hext i hi]
   exact C.gsh_but _ _ _ _ _ (fun _ => False) this (Ext.put _ hn).but (fun _ _ hf => hf)
  | mmap K V es =>
   obtain ⟨b', h1, h2, h3⟩ := this
   have hne : b' ≠ b := hnew i _ b' hx rfl (by rw [h1]; rfl)
   exact ⟨b', (hext i hi).trans h1, by rw [ZaB _ _ hne]; exact h2, .inl h3⟩
  | obj t' cs' =>
   obtain ⟨b', acs', h1, h2, h3, h4⟩ := this
   have hne : b' ≠ b := hnew i _ b' hx rfl (by rw [h1]; rfl)
   exact ⟨b', acs', (hext i hi).trans h1, by rw [ZaB _ _ hne]; exact h2, .inl h3, h4.ext hlen hext⟩
  | arr e E kp xs =>
   rcases this with ⟨b', K', pre, rest, h1, h2, h3, h4⟩ | ⟨h1, h2⟩
   ·have hne : b' ≠ b := hnew i _ b' hx rfl (by rw [h1]; rfl)
    exact .inl ⟨b', K', pre, rest, (hext i hi).trans h1, by rw [ZaB _ _ hne]; exact h2, .inl h3, h4⟩
   ·exact .inr ⟨(hext i hi).trans h1, h2⟩
  | row e sz =>
   obtain ⟨n, cs', ho⟩ := this
   exact ⟨n, cs', by rw [hext i hi]; exact ho.ext (Ext.put _ hn)⟩
  | dead => trivial
 refine ⟨⟨fun i x hx => ?_, fun i j x y c hx hy ax ay bx by_ => ?_⟩, ⟨hlen, hext, (Ext.put _ hn).but, fun c hc => ?_⟩, .ptr _ _ b (by simp) (Za6 _ _ _) .none⟩
 ·rcases ZbP hx with ⟨rfl, rfl⟩ | ⟨hi, hx⟩
  ·exact ⟨b, acs, Za6 _ _ _, Za7 _ _ _, .inr rfl, hc.ext hlen hext⟩
  ·exact hsh i x hx
 ·rcases ZbP hx with ⟨rfl, rfl⟩ | ⟨hi, hx⟩ <;> rcases ZbP hy with ⟨rfl, rfl⟩ | ⟨hj, hy⟩
  ·rfl
  ·rw [Za6] at bx; injection bx with bx; subst bx
   rw [hext j hj] at by_
   exact absurd rfl (hnew j y _ hy ay by_)
  ·rw [Za6] at by_; injection by_ with by_; subst by_
   rw [hext i hi] at bx
   exact absurd rfl (hnew i x _ hx ax bx)
  ·rw [hext i hi] at bx; rw [hext j hj] at by_
   exact H.dist i j x y c hx hy ax ay bx by_
 ·obtain ⟨i, x, hx, ax, bx⟩ := hc
  rcases ZbP hx with ⟨rfl, rfl⟩ | ⟨hi, hx⟩
  ·rw [Za6] at bx; injection bx with bx; subst bx
   exact .inr ⟨hn, hb⟩
  ·rw [hext i hi] at bx
   exact .inl ⟨i, x, hx, ax, bx⟩
theorem Hp.newArr (kp : Bool) (H : Hp C ρ h σ) (hb : ¬ σ.used b) (hn : σ.blk b = none) (t : TypeId) {E K : Nat} {xs : List (T E)} {pre rest : List AV} (hc : ∀ N ρ, SVs C N ρ (xs.flatMap (C.enc E)) pre) (hK : (pre ++ rest).length = K * C.sz E) (hm : K <= maxLen) (hfl : C.full E = true -> ∃ zs : List (T E), ∀ N' ρ', SVs C N' ρ' (zs.flatMap (C.enc E)) rest) :
 Hp C (rup ρ h.length (ab b K)) (h ++ [.arr t E kp xs]) (σ.put b (.own t (pre ++ rest))) /\ Rel U ρ h σ (rup ρ h.length (ab b K)) (h ++ [.arr t E kp xs]) (σ.put b (.own t (pre ++ rest))) := by
 have hext : ∀ i, i < h.length -> rup ρ h.length (ab b K) i = ρ i := fun i hi => Zdz (by omega)
 have hlen : h.length <= (h ++ [HI.arr t E kp xs]).length := by simp
 have hnew : ∀ i x c, h[i]? = some x -> x.alive = true -> (ρ i).owns c -> c ≠ b := fun i x c h1 h2 h3 e => by
  subst e
  exact hb (H.used ⟨i, x, h1, h2, h3⟩)
 have hsh : ∀ i x, h[i]? = some x -> SH C (h ++ [HI.arr t E kp xs]).length (rup ρ h.length (ab b K)) (σ.put b (.own t (pre ++ rest))) i x := fun i x hx => by
  have hi := Zbr hx
  have := H.it i x hx
  cases x with
  | gen E x =>
   show C.gsh E x _ (rup ρ h.length (ab b K) i)
   rw [hext i hi]
   exact C.gsh_but _ _ _ _ _ (fun _ => False) this (Ext.put _ hn).but (fun _ _ hf => hf)
  | mmap K V es =>
   obtain ⟨b', h1, h2, h3⟩ := this
   have hne : b' ≠ b := hnew i _ b' hx rfl (by rw [h1]; rfl)
   exact ⟨b', (hext i hi).trans h1, by rw [ZaB _ _ hne]; exact h2, .inl h3⟩
  | obj t' cs' =>
   obtain ⟨b', acs', h1, h2, h3, h4⟩ := this
   have hne : b' ≠ b := hnew i _ b' hx rfl (by rw [h1]; rfl)
   exact ⟨b', acs', (hext i hi).trans h1, by rw [ZaB _ _ hne]; exact h2, .inl h3, h4.ext hlen hext⟩
  | arr e E kp xs =>
   rcases this with ⟨b', K', pre, rest, h1, h2, h3, h4⟩ | ⟨h1, h2⟩
   ·have hne : b' ≠ b := hnew i _ b' hx rfl (by rw [h1]; rfl)
    exact .inl ⟨b', K', pre, rest, (hext i hi).trans h1, by rw [ZaB _ _ hne]; exact h2, .inl h3, h4⟩
   ·exact .inr ⟨(hext i hi).trans h1, h2⟩
  | row e sz =>
   obtain ⟨n, cs', ho⟩ := this
   exact ⟨n, cs', by rw [hext i hi]; exact ho.ext (Ext.put _ hn)⟩
  | dead => trivial
 refine ⟨⟨fun i x hx => ?_, fun i j x y c hx hy ax ay bx by_ => ?_⟩, ⟨hlen, hext, (Ext.put _ hn).but, fun c hc => ?_⟩⟩
 ·rcases ZbP hx with ⟨rfl, rfl⟩ | ⟨hi, hx⟩
  ·exact .inl ⟨b, K, pre, rest, Za6 _ _ _, Za7 _ _ _, .inr rfl, hc, hK, hm, hfl⟩
  ·exact hsh i x hx
 ·rcases ZbP hx with ⟨rfl, rfl⟩ | ⟨hi, hx⟩ <;> rcases ZbP hy with ⟨rfl, rfl⟩ | ⟨hj, hy⟩
  ·rfl
  ·rw [Za6] at bx; injection bx with bx; subst bx
   rw [hext j hj] at by_
   exact absurd rfl (hnew j y _ hy ay by_)
  ·rw [Za6] at by_; injection by_ with by_; subst by_
   rw [hext i hi] at bx
   exact absurd rfl (hnew i x _ hx ax bx)
  ·rw [hext i hi] at bx; rw [hext j hj] at by_
   exact H.dist i j x y c hx hy ax ay bx by_
 ·obtain ⟨i, x, hx, ax, bx⟩ := hc
  rcases ZbP hx with ⟨rfl, rfl⟩ | ⟨hi, hx⟩
  ·rw [Za6] at bx; injection bx with bx; subst bx
   exact .inr ⟨hn, hb⟩
  ·rw [hext i hi] at bx
   exact .inl ⟨i, x, hx, ax, bx⟩
theorem Hp.newRow (H : Hp C ρ h σ) {v : AV} {e sz n : Nat} {cells : List AV} (hX : Ext σ τ) (ho : Own τ e sz v n cells) (hv : ∀ g, v.owns g -> σ.blk g = none /\ ¬ σ.used g) :
 Hp C (rup ρ h.length v) (h ++ [.row e sz]) τ /\ Rel U ρ h σ (rup ρ h.length v) (h ++ [.row e sz]) τ := by
 have hext : ∀ i, i < h.length -> rup ρ h.length v i = ρ i := fun i hi => Zdz (by omega)
 have hlen : h.length <= (h ++ [HI.row e sz]).length := by simp
 have hnew : ∀ i x c, h[i]? = some x -> x.alive = true -> (ρ i).owns c -> ¬ v.owns c := fun i x c h1 h2 h3 e =>
  (hv c e).2 (H.used ⟨i, x, h1, h2, h3⟩)
 refine ⟨⟨fun i x hx => ?_, fun i j x y c hx hy ax ay bx by_ => ?_⟩, ⟨hlen, hext, hX.but, fun c hc => ?_⟩⟩
 ·rcases ZbP hx with ⟨rfl, rfl⟩ | ⟨hi, hx⟩
  ·exact ⟨n, cells, by rw [Za6]; exact ho⟩
  ·have := H.it i x hx
   cases x with
   | gen E x =>
    show C.gsh E x _ (rup ρ h.length v i)
    rw [hext i hi]
    exact C.gsh_but _ _ _ _ _ (fun _ => False) this hX.but (fun _ _ hf => hf)
   | mmap K V es =>
    obtain ⟨b', h1, h2, h3⟩ := this
    exact ⟨b', (hext i hi).trans h1, hX.keep _ _ h2, hX.used _ h3⟩
   | obj t' cs' =>
    obtain ⟨b', acs', h1, h2, h3, h4⟩ := this
    exact ⟨b', acs', (hext i hi).trans h1, hX.keep _ _ h2, hX.used _ h3, h4.ext hlen hext⟩
   | arr e E kp xs =>
    rcases this with ⟨b', K', pre, rest, h1, h2, h3, h4⟩ | ⟨h1, h2⟩
    ·exact .inl ⟨b', K', pre, rest, (hext i hi).trans h1, hX.keep _ _ h2, hX.used _ h3, h4⟩
    ·exact .inr ⟨(hext i hi).trans h1, h2⟩
   | row e sz =>
    obtain ⟨n, cs', ho⟩ := this
    exact ⟨n, cs', by rw [hext i hi]; exact ho.ext hX⟩
   | dead => trivial
 ·rcases ZbP hx with ⟨rfl, rfl⟩ | ⟨hi, hx⟩ <;> rcases ZbP hy with ⟨rfl, rfl⟩ | ⟨hj, hy⟩
  ·rfl
  ·rw [Za6] at bx
   rw [hext j hj] at by_
   exact absurd bx (hnew j y _ hy ay by_)
  ·rw [Za6] at by_
   rw [hext i hi] at bx
   exact absurd by_ (hnew i x _ hx ax bx)
  ·rw [hext i hi] at bx; rw [hext j hj] at by_
   exact H.dist i j x y c hx hy ax ay bx by_
 ·obtain ⟨i, x, hx, ax, bx⟩ := hc
  rcases ZbP hx with ⟨rfl, rfl⟩ | ⟨hi, hx⟩
  ·rw [Za6] at bx
   exact .inr (hv _ bx)
  ·rw [hext i hi] at bx
   exact .inl ⟨i, x, hx, ax, bx⟩
theorem Own.but' {S : Nat -> Prop} {e sz n : Nat} {v : AV} {cells : List AV} (ho : Own σ e sz v n cells) (hX : But S σ τ) (hS : ∀ g, v.owns g -> ¬ S g) : Own τ e sz v n cells :=
 ho.but hX fun g hg => hS g (by
  rcases ho.2 with ⟨rfl, _⟩ | ⟨g', c, rfl, _⟩
  ·cases hg
  ·exact hg)
theorem Hp.grow (H : Hp C ρ h σ) {r : Nat} (hU : U r) {e0 sz0 : Nat} (hr : h[r]? = some (.row e0 sz0)) {v : AV} {e sz n : Nat} {cells : List AV} (hX : But (fun b => (ρ r).owns b) σ τ) (ho : Own τ e sz v n cells) (hv : ∀ g, v.owns g -> (ρ r).owns g \/ (σ.blk g = none /\ ¬ σ.used g)) :
 Hp C (rup ρ h.length v) (h.set r .dead ++ [.row e sz]) τ /\ Rel U ρ h σ (rup ρ h.length v) (h.set r .dead ++ [.row e sz]) τ := by
 have hrl := Zbr hr
 have hl : (h.set r HI.dead).length = h.length := by simp
 have hext : ∀ i, i < h.length -> rup ρ h.length v i = ρ i := fun i hi => Zdz (by omega)
 have hlen : h.length <= (h.set r HI.dead ++ [HI.row e sz]).length := by simp
 have hoth : ∀ i x c, h[i]? = some x -> x.alive = true -> i ≠ r -> (ρ i).owns c -> ¬ (ρ r).owns c := fun i x c h1 h2 h3 h4 h5 => h3 (H.dist i r x _ c h1 hr h2 rfl h4 h5)
 have hnew : ∀ i x c, h[i]? = some x -> x.alive = true -> i ≠ r -> (ρ i).owns c -> ¬ v.owns c := fun i x c h1 h2 h3 h4 h5 => by
  rcases hv c h5 with h6 | h6
  ·exact hoth i x c h1 h2 h3 h4 h6
  ·exact h6.2 (H.used ⟨i, x, h1, h2, h4⟩)
 refine ⟨⟨fun i x hx => ?_, fun i j x y c hx hy ax ay bx by_ => ?_⟩, ⟨hlen, hext, ?_, fun c hc => ?_⟩⟩
 ·rcases ZbP hx with ⟨rfl, rfl⟩ | ⟨hi, hx⟩
  ·exact ⟨n, cells, by rw [hl, Za6]; exact ho⟩
  ·rw [hl] at hi
   rcases ZcF hx with ⟨_, rfl, _⟩ | ⟨hne, hx⟩
   ·trivial
   have := H.it i x hx
   cases x with
   | gen E x =>
    show C.gsh E x _ (rup ρ h.length v i)
    rw [hext i hi]
    exact C.gsh_but _ _ _ _ _ _ this hX (fun b' hb' => hoth i _ b' hx rfl hne hb')
   | mmap K V es =>
    obtain ⟨b', h1, h2, h3⟩ := this
    exact ⟨b', (hext i hi).trans h1, hX.keep _ _ (hoth i _ b' hx rfl hne (by rw [h1]; rfl)) h2, hX.used _ h3⟩
   | obj t' cs' =>
    obtain ⟨b', acs', h1, h2, h3, h4⟩ := this
    exact ⟨b', acs', (hext i hi).trans h1, hX.keep _ _ (hoth i _ b' hx rfl hne (by rw [h1]; rfl)) h2, hX.used _ h3, h4.ext hlen hext⟩
   | arr e E kp xs =>
    rcases this with ⟨b', K', pre, rest, h1, h2, h3, h4⟩ | ⟨h1, h2⟩
    ·exact .inl ⟨b', K', pre, rest, (hext i hi).trans h1, hX.keep _ _ (hoth i _ b' hx rfl hne (by rw [h1]; rfl)) h2, hX.used _ h3, h4⟩
    ·exact .inr ⟨(hext i hi).trans h1, h2⟩
   | row e sz =>
    obtain ⟨n, cs', ho'⟩ := this
    exact ⟨n, cs', by rw [hext i hi]; exact ho'.but' hX fun g hg => hoth i _ g hx rfl hne hg⟩
   | dead => trivial
 ·rcases ZbP hx with ⟨rfl, rfl⟩ | ⟨hi, hx⟩ <;> rcases ZbP hy with ⟨rfl, rfl⟩ | ⟨hj, hy⟩
  ·rfl
  ·rcases ZcF hy with ⟨_, rfl, _⟩ | ⟨hne, hy⟩
   ·cases ay
   rw [hl] at hj bx
   rw [Za6] at bx
   rw [hext j hj] at by_
   exact absurd bx (hnew j y _ hy ay hne by_)
  ·rcases ZcF hx with ⟨_, rfl, _⟩ | ⟨hne, hx⟩
   ·cases ax
   rw [hl] at hi by_
   rw [Za6] at by_
   rw [hext i hi] at bx
   exact absurd by_ (hnew i x _ hx ax hne bx)
  ·rcases ZcF hy with ⟨_, rfl, _⟩ | ⟨_, hy⟩
   ·cases ay
   rcases ZcF hx with ⟨_, rfl, _⟩ | ⟨_, hx⟩
   ·cases ax
   rw [hl] at hi hj
   rw [hext i hi] at bx; rw [hext j hj] at by_
   exact H.dist i j x y c hx hy ax ay bx by_
 ·exact ⟨fun c k hc hk => hX.keep c k (fun h1 => hc ⟨r, _, hU, hr, rfl, h1⟩) hk, hX.used⟩
 ·obtain ⟨i, x, hx, ax, bx⟩ := hc
  rcases ZbP hx with ⟨rfl, rfl⟩ | ⟨hi, hx⟩
  ·rw [hl, Za6] at bx
   rcases hv c bx with h1 | h1
   ·exact .inl ⟨r, _, hr, rfl, h1⟩
   ·exact .inr h1
  ·rcases ZcF hx with ⟨_, rfl, _⟩ | ⟨_, hx⟩
   ·cases ax
   rw [hl] at hi
   rw [hext i hi] at bx
   exact .inl ⟨i, x, hx, ax, bx⟩
theorem Hp.write (H : Hp C ρ h σ) {i : Nat} (hU : U i) {t : TypeId} {cells cells' : List (XV T)} (hi : h[i]? = some (.obj t cells)) {acs' : List AV} (hb : ρ i = ptr b 0) (hc : SVs C h.length ρ cells' acs') :
 Hp C ρ (h.set i (.obj t cells')) (σ.set b (.own t acs')) /\ Rel U ρ h σ ρ (h.set i (.obj t cells')) (σ.set b (.own t acs')) := by
 obtain ⟨b0, acs0, e0, hb0, hu0, _⟩ := H.it i _ hi
 rw [hb] at e0
 have hbb : b0 = b := by injection e0 with e0; injection e0 with e0; injection e0 with e0; injection e0 with e0; exact e0.symm
 subst hbb
 have hoth : ∀ j x c, h[j]? = some x -> x.alive = true -> j ≠ i -> (ρ j).owns c -> c ≠ b0 := fun j x c h1 h2 h3 h4 e => by
  subst e
  exact h3 (H.dist j i x _ c h1 hi h2 rfl h4 (by rw [hb]; rfl))
 have hset : ∀ c, c ≠ b0 -> (σ.set b0 (.own t acs')).blk c = σ.blk c := fun c hc => by show (if c = b0 then _ else σ.blk c) = _; rw [if_neg hc]
 have hbut : But (fun c => c = b0) σ (σ.set b0 (.own t acs')) := ⟨fun c k hc hk => (hset c hc).trans hk, fun c hc => hc⟩
 have hliv : ∀ c, Liv ρ (h.set i (.obj t cells')) c -> Liv ρ h c := fun c ⟨j, x, hx, ax, bx⟩ => by
  rcases ZcF hx with ⟨rfl, rfl, _⟩ | ⟨_, hx⟩
  ·exact ⟨j, _, hi, rfl, bx⟩
  ·exact ⟨j, x, hx, ax, bx⟩
 refine ⟨⟨fun j x hx => ?_, fun j k x y c hx hy ax ay bx by_ => ?_⟩, ⟨by simp, fun _ _ => rfl, ⟨fun c k hc hk => hbut.keep c k (fun e => hc ⟨i, _, hU, hi, rfl, by rw [hb, e]; rfl⟩) hk, fun c hc => hc⟩, fun c hc => .inl (hliv c hc)⟩⟩
 ·rw [List.length_set]
  rcases ZcF hx with ⟨rfl, rfl, _⟩ | ⟨hne, hx⟩
  ·exact ⟨b0, acs', hb, by show (if b0 = b0 then _ else σ.blk b0) = _; rw [if_pos rfl], hu0, hc⟩
  ·have := H.it j x hx
   cases x with
   | gen E x => exact C.gsh_but _ _ _ _ _ _ this hbut (fun b' hb' => hoth j _ b' hx rfl hne hb')
   | mmap K V es =>
    obtain ⟨b', h1, h2, h3⟩ := this
    exact ⟨b', h1, (hset b' (hoth j _ b' hx rfl hne (by rw [h1]; rfl))).trans h2, h3⟩
   | obj t' cs' =>
    obtain ⟨b', acs2, h1, h2, h3, h4⟩ := this
    exact ⟨b', acs2, h1, (hset b' (hoth j _ b' hx rfl hne (by rw [h1]; rfl))).trans h2, h3, h4⟩
   | arr e E kp xs =>
    rcases this with ⟨b', K', pre, rest, h1, h2, h3, h4⟩ | ⟨h1, h2⟩
    ·exact .inl ⟨b', K', pre, rest, h1, (hset b' (hoth j _ b' hx rfl hne (by rw [h1]; rfl))).trans h2, h3, h4⟩
    ·exact .inr ⟨h1, h2⟩
   | row e sz =>
    obtain ⟨n, cs', ho'⟩ := this
    exact ⟨n, cs', ho'.but' hbut fun g hg => hoth j _ g hx rfl hne hg⟩
   | dead => trivial
 ·rcases ZcF hx with ⟨e1, e2, _⟩ | ⟨hne, hx2⟩ <;> rcases ZcF hy with ⟨e3, e4, _⟩ | ⟨hne2, hy2⟩
  ·rw [e1, e3]
  ·subst e1; exact H.dist j k _ y c hi hy2 rfl ay bx by_
  ·subst e3; exact H.dist j k x _ c hx2 hi ax rfl bx by_
  ·exact H.dist j k x y c hx2 hy2 ax ay bx by_
end
end Go.Proofs.Ytinpiaibhjmfaaa
namespace Go.Proofs.Ytinpiaibhjmfaaa
open Go.RowKit
set_option maxRecDepth 100000
set_option linter.unusedVariables false
variable {T : Nat -> Type}
def XV.ofV1 : Value -> XV T
 | .int k n => .int k n
 | .bool b => .bool b
 | .string s => .str s.data.toList
 | .slice none 0 0 => .nil
 | .pointer none => .nilptr
 | .map none => .nmap
 | _ => .junk
def XV.ofV : Value -> XV T
 | .agg cs => .agg (cs.toList.map XV.ofV1)
 | v => XV.ofV1 v
def XV.cells : XV T -> List (XV T)
 | .agg l => l
 | v => [v]
def Zof : List (Nat × XV T) -> Nat -> XV T
 | [], _ => .junk
 | (j, v) :: l, i => bif Nat.beq j i then v else Zof l i
def XV.force {α : Type} (v : XV T) (k : XV T -> α) : α := match v with
 | .int a b => k (.int a b)
 | .bool b => k (.bool b)
 | .str s => k (.str s)
 | .sl E xs o => k (.sl E xs o)
 | .slx E xs ys => k (.slx E xs ys)
 | .nil => k .nil
 | .ptr i o => k (.ptr i o)
 | .nilptr => k .nilptr
 | .nmap => k .nmap
 | .el E x o => k (.el E x o)
 | .agg l => k (.agg l)
 | .tup l => k (.tup l)
 | .fn f => k (.fn f)
 | .as E i lo n co => k (.as E i lo n co)
 | .ap E i j o => k (.ap E i j o)
 | .clo f ps => k (.clo f ps)
 | .mp E kk tb => k (.mp E kk tb)
 | .mo i => k (.mo i)
 | .gv i c l => k (.gv i c l)
 | .vl l => k (.vl l)
 | .ce l => k (.ce l)
 | .undef => k .undef
 | .junk => k .junk
def Zlg {α : Type} : List (XV T) -> (List (XV T) -> α) -> α
 | [], k => k []
 | v :: l, k => v.force fun v => Zlg l fun l => k (v :: l)
@[simp] theorem Zp8 {α : Type} (v : XV T) (k : XV T -> α) : v.force k = k v := by cases v <;> rfl
@[simp] theorem Zpl {α : Type} (l : List (XV T)) (k : List (XV T) -> α) : Zlg l k = k l := by
 induction l generalizing k with
 | nil => rfl
 | cons v l ih => simp [Zlg, ih]
section
variable {C : Zbg T} {N : Nat} {ρ : Nat -> AV} {a : AV} {as_ : List AV}
theorem ZaM {k : IntKind} {n : Int} : SV C N ρ (.int k n) a ↔ a = .raw (.int k n) := ⟨fun h => by cases h; rfl, fun h => by subst h; exact .int _ _ .none⟩
theorem Zlh {b : Bool} : SV C N ρ (.bool b) a ↔ a = .raw (.bool b) := ⟨fun h => by cases h; rfl, fun h => by subst h; exact .bool _ .none⟩
theorem Zbj {s : List UInt8} : SV C N ρ (.str s) a ↔ a = .raw (.string ⟨s.toArray⟩) := ⟨fun h => by cases h; rfl, fun h => by subst h; exact .str _ .none⟩
theorem Zpm : SV C N ρ .nil a ↔ a = .lst none 0 0 [] := ⟨fun h => by cases h; rfl, fun h => by subst h; exact .nil .none⟩
theorem ZmN {E i lo n : Nat} {co : Option Nat} : SV C N ρ (.as E i lo n co) a ↔ (∃ ad c, a = .raw (.slice (some ad) n c) /\ Zpi (C.sz E) N ρ i lo n co ad c) \/ (a = .lst none 0 0 [] /\ n = 0 /\ i < N /\ ρ i = .lst none 0 0 [] /\ ∀ c', co = some c' -> c' = 0) := by
 constructor
 ·intro h
  cases h with
  | as _ _ _ _ _ ad c h1 _ => exact .inl ⟨ad, c, rfl, h1⟩
  | asn _ _ _ _ h1 h2 h3 _ => exact .inr ⟨rfl, rfl, h1, h2, h3⟩
 ·rintro (⟨ad, c, rfl, h⟩ | ⟨rfl, rfl, h1, h2, h3⟩)
  ·exact .as E i lo n co ad c h .none
  ·exact .asn E i lo co h1 h2 h3 .none
theorem Zd2 {E : Nat} {xs : List (T E)} : SV C N ρ (.sl E xs none) a ↔ ∃ A c cs rest, a = .lst A xs.length c (cs ++ rest) /\ xs.length <= c /\ c <= maxLen /\ xs.length <= 140737488355328 /\ (A = none -> xs.length = 0 /\ c = 0) /\ SVs C N ρ (xs.flatMap (C.enc E)) cs :=
 ⟨fun h => by cases h; exact ⟨_, _, _, _, rfl, ‹_›, ‹_›, ‹_›, ‹_›, ‹_›⟩, fun ⟨A, c, cs, rest, e, h1, h2, h3, h4, h5⟩ => by subst e; exact .sl E xs A c cs rest h1 h2 h3 h4 h5 .none⟩
theorem Zpn {E r : Nat} {xs : List (T E)} : SV C N ρ (.sl E xs (some r)) a ↔ a = ρ r /\ r < N /\ SV C N ρ (.sl E xs none) a := ⟨fun h => by cases h; exact ⟨rfl, ‹_›, ‹_›⟩, fun ⟨e, h1, h2⟩ => by subst e; exact .own E xs r h1 h2⟩
theorem Zq7 {x : XV T} : SVs C N ρ [x] as_ ↔ ∃ a, as_ = [a] /\ SV C N ρ x a := ⟨fun h => by obtain ⟨a, bs, rfl, h1, h2⟩ := h.to; rw [Zdh] at h2; subst h2; exact ⟨a, rfl, h1⟩, fun ⟨a, e, h⟩ => by subst e; exact h⟩
theorem SVs.ones {vs : List (XV T)} (h : SVs C N ρ vs as_) (ho : ∀ x ∈ vs, x.one = true) : ∀ a ∈ as_, a.one = true := by
 induction vs generalizing as_ with
 | nil => rw [Zdh.1 h]; simp
 | cons v vs ih =>
  obtain ⟨a, bs, rfl, h1, h2⟩ := h.to
  intro x hx
  rcases List.mem_cons.1 hx with rfl | hx
  ·exact SVs.one h1 (ho v (List.mem_cons_self))
  ·exact ih h2 (fun y hy => ho y (List.mem_cons_of_mem _ hy)) x hx
theorem ZkB {v : XV T} (h : v.closed = true) : v.one = true := by cases v <;> simp_all [XV.closed, XV.one]
end
def Zp9 (C : Zbg T) (P : Program) (U : Nat -> Prop) (o : Oper) (vs : List (XV T)) (h : List (HI T)) (r : XV T) (h' : List (HI T)) : Prop :=
 ∀ ρ σ as_, SVs C h.length ρ vs as_ -> Hp C ρ h σ -> Zc8 P o as_ σ fun rv τ => ∃ ρ', SV C h'.length ρ' r rv /\ Hp C ρ' h' τ /\ Rel U ρ h σ ρ' h' τ
def Tr (C : Zbg T) (P : Program) (U : Nat -> Prop) (f : FuncId) (args : List (XV T)) (h : List (HI T)) (r : XV T) (h' : List (HI T)) : Prop :=
 ∀ ρ σ vs, SVs C h.length ρ args vs -> Hp C ρ h σ -> Zat P f vs σ fun rv τ => ∃ ρ', SV C h'.length ρ' r rv /\ Hp C ρ' h' τ /\ Rel U ρ h σ ρ' h' τ
section
variable {C : Zbg T} {P : Program} {o : Oper} {vs : List (XV T)} {h : List (HI T)} {r : XV T}
theorem Zp9.same {U : Nat -> Prop} (k : ∀ (ρ : Nat -> AV) (σ : St) (as_ : List AV) (K : AV -> St -> Prop), SVs C h.length ρ vs as_ -> Hp C ρ h σ -> (∀ rv, SV C h.length ρ r rv -> K rv σ) -> Zc8 P o as_ σ K) : Zp9 C P U o vs h r h :=
 fun ρ σ as_ hv H => k ρ σ as_ _ hv H fun rv hr => ⟨ρ, hr, H, .refl _ _ _ _⟩
end
end Go.Proofs.Ytinpiaibhjmfaaa
namespace Go.Proofs.Ytinpiaibhjmfaaa
open Go.RowKit
set_option maxRecDepth 100000
set_option linter.unusedVariables false
variable {T : Nat -> Type} {A : Type}
section
variable {P : Program} {op : BinOp} {t : TypeId} {ka kb : IntKind} {a b : Int} {k : XV T -> Option A} {z : A}
theorem Zfj : ∀ (x y : List UInt8), Op.bytesLess x y = decide (x < y)
 | [], [] => by simp [Op.bytesLess]
 | _ :: _, [] => by simp [Op.bytesLess]
 | [], _ :: _ => by simp [Op.bytesLess]
 | a :: x, b :: y => by
  rw [Op.bytesLess, Zfj x y]
  simp only [List.cons_lt_cons_iff]
  by_cases h1 : a < b <;> by_cases h2 : a = b <;> by_cases h3 : x < y <;> simp [h1, h2, h3]
theorem ZjO (a b : List UInt8) : (a == b) = decide (a = b) := by by_cases h : a = b <;> simp [h]
theorem Zgv (l : List UInt8) : (ByteArray.mk l.toArray).toList = l := by rw [ByteArray.toList_eq]
end
end Go.Proofs.Ytinpiaibhjmfaaa
namespace Go.Proofs.Ytinpiaibhjmfaaa
open Go.RowKit
set_option linter.unusedSimpArgs false
set_option maxRecDepth 100000
set_option linter.unusedVariables false
variable {T : Nat -> Type} {A : Type}
def ZfP {α : Type} : List (HI T) -> (List (HI T) -> α) -> α
 | [], k => k []
 | .obj t cs :: l, k => ZfP l fun l => k (.obj t cs :: l)
 | .row e sz :: l, k => ZfP l fun l => k (.row e sz :: l)
 | .arr e E kp xs :: l, k => ZfP l fun l => k (.arr e E kp xs :: l)
 | .mmap K V es :: l, k => ZfP l fun l => k (.mmap K V es :: l)
 | .gen E x :: l, k => ZfP l fun l => k (.gen E x :: l)
 | .dead :: l, k => ZfP l fun l => k (.dead :: l)
@[simp] theorem Zpo {α : Type} (l : List (HI T)) (k : List (HI T) -> α) : ZfP l k = k l := by
 induction l generalizing k with
 | nil => rfl
 | cons v l ih => cases v <;> simp [ZfP, ih]
structure Orc (T : Nat -> Type) (A : Type) where
 call : FuncId -> List (XV T) -> List (HI T) -> (XV T -> List (HI T) -> Option A) -> Option A
 on : Op -> List (XV T) -> Bool
 op : Op -> List (XV T) -> List (HI T) -> (XV T -> List (HI T) -> Option A) -> Option A
abbrev Tou (T : Nat -> Type) := FuncId -> List (XV T) -> List (HI T) -> List Nat
def gvs : List (XV T) -> List Nat
 | [] => []
 | .gv i _ _ :: l => i :: gvs l
 | _ :: l => gvs l
def ZnK (tou : Tou T) (o : Op) (vs : List (XV T)) (h : List (HI T)) : List Nat := match o, vs with
 | .store _ _ _, .ptr i _ :: _ => [i]
 | .store _ _ _, .ap _ i _ _ :: _ => [i]
 | .mapUpdate _ _ _ _, .mo i :: _ => [i]
 | .call c, vs => match c.callee, vs with
  | .value _, .fn f :: args => tou f args h
  | .value _, .clo f ps :: args => tou f (args ++ ps.map fun i => .ptr i 0) h
  | .builtin .append, .sl _ _ (some r) :: _ => [r]
  | .builtin .append, .as _ i _ _ _ :: _ => [i]
  | .builtin .copy, .as _ i _ _ _ :: _ => [i]
  | .builtin .clear, .as _ i _ _ _ :: _ => [i]
  | _, vs => gvs vs
 | _, vs => gvs vs
structure Orc.Ok (C : Zbg T) (P : Program) (tou : Tou T) (orc : Orc T A) : Prop where
 call : ∀ f args h k z, orc.call f args h k = some z -> ∃ r h', k r h' = some z /\ Tr C P (· ∈ tou f args h) f args h r h'
 op : ∀ o vs h k z, orc.on o vs = true -> orc.op o vs h k = some z -> ∃ r h', k r h' = some z /\ ∀ d ty pos af g, Zp9 C P (· ∈ ZnK tou o vs h) ⟨d, o, ty, pos, af, g⟩ vs h r h'
def XV.wk : XV T -> XV T
 | .slx E xs _ => .sl E xs none
 | v => v
section
variable {C : Zbg T} {N : Nat} {ρ : Nat -> AV} {P : Program} {h : List (HI T)} {d : Option Nat} {ty t : TypeId} {pos : String} {af : Array Edge} {g : Option (Nat × Bool)} {z : A}
theorem Zli {E : Nat} (xs : List (T E)) : (xs.flatMap (C.enc E)).length = xs.length * C.sz E := by
 induction xs with
 | nil => simp
 | cons x xs ih => rw [List.flatMap_cons, List.length_append, C.len, ih, List.length_cons, Nat.succ_mul]; omega
theorem ZjP {E : Nat} (xs : List (T E)) (n : Nat) : (xs.flatMap (C.enc E)).take (n * C.sz E) = (xs.take n).flatMap (C.enc E) := by
 induction n generalizing xs with
 | zero => simp
 | succ n ih => cases xs with
  | nil => simp
  | cons x xs =>
   rw [List.flatMap_cons, List.take_succ_cons, List.flatMap_cons, <- ih, Nat.succ_mul, List.take_append, List.take_of_length_le (by rw [C.len]; omega), C.len]
   congr 2
   omega
end
end Go.Proofs.Ytinpiaibhjmfaaa
namespace Go.Proofs.Ytinpiaibhjmfaaa
open Go.RowKit
set_option linter.unusedSimpArgs false
set_option maxRecDepth 100000
set_option linter.unusedVariables false
variable {T : Nat -> Type} {A : Type}
section
variable {U : Nat -> Prop} {C : Zbg T} {N : Nat} {ρ : Nat -> AV} {P : Program} {h : List (HI T)} {d : Option Nat} {ty t : TypeId} {pos : String} {af : Array Edge} {g : Option (Nat × Bool)} {z : A} {orc : Orc T A} {k : XV T -> List (HI T) -> Option A} {vs : List (XV T)}
end
end Go.Proofs.Ytinpiaibhjmfaaa
