/- Values with what they stand for: typed data, objects and rows by number; what a memory must be for them. -/
import Derived.Test.YtlmmpfbdgiokmaaGreatBb
namespace Go.Proofs.YtlmmpfbdgiokmaaGreat
open Go.RowKit
set_option maxRecDepth 100000
set_option linter.unusedVariables false

inductive XV (T : Nat → Type) : Type where
  | int (k : IntKind) (n : Int)
  | bool (b : Bool)
  | str (s : List UInt8)
  | sl (E : Nat) (xs : List (T E)) (own : Option Nat)
  | slx (E : Nat) (xs ys : List (T E))
  | nil
  | ptr (i o : Nat)
  | nilptr
  | el (E : Nat) (x : T E) (o : Nat)
  | agg (l : List (XV T))
  | tup (l : List (XV T))
  | fn (f : Nat)
  | as (E i lo n : Nat) (co : Option Nat)
  | ap (E i k o : Nat)
  | clo (f : Nat) (ps : List Nat)
  | mp (E : Nat) (k : IntKind) (tb : List (Int × List (T E)))
  | mo (i : Nat)
  | gv (i c : Nat) (l : List Nat)
  | nmap
  | vl (l : List (XV T))
  | ce (l : List (XV T))
  | undef
  | junk
variable {T : Nat → Type}
instance : Inhabited (XV T) := ⟨.junk⟩
/-- No object, no row of ours in it. -/
def XV.closed : XV T → Bool
  | .int _ _ | .bool _ | .str _ | .nil | .nilptr | .nmap | .fn _ => true
  | .sl _ _ none => true
  | .slx _ _ _ => true
  | _ => false
def XV.one : XV T → Bool
  | .int _ _ | .bool _ | .str _ | .nil | .nilptr | .fn _ | .sl _ _ _ | .slx _ _ _ | .ptr _ _ | .as _ _ _ _ _ | .clo _ _ | .mo _ | .gv _ _ _ | .nmap => true
  | _ => false
def AV.blkO : AV → Option Nat
  | .raw (.pointer (some ad)) => some ad.block
  | .lst (some ad) _ _ _ => some ad.block
  | .raw (.map (some b)) => some b
  | _ => none
/-- The blocks that an item of ours has: one; or many, named one by one. -/
def AV.owns : AV → Nat → Prop
  | .tup l, b => ∃ x ∈ l, x.blkO = some b
  | a, b => a.blkO = some b
/-- A value of a list's element, or less of it. -/
inductive Wk : XV T → XV T → Prop where
  | same (v : XV T) : Wk v v
  | drop (E : Nat) (xs : List (T E)) (r : Nat) : Wk (.sl E xs (some r)) (.sl E xs none)
  | nil (E : Nat) : Wk .nil (.sl E [] none)
  | spare (E : Nat) (xs ys : List (T E)) : Wk (.slx E xs ys) (.sl E xs none)
  | nilx (E : Nat) : Wk .nil (.slx E [] [])
inductive Wks : List (XV T) → List (XV T) → Prop where
  | nil : Wks [] []
  | cons {v u vs us} : Wk v u → Wks vs us → Wks (v :: vs) (u :: us)
/-- The cells of lists' elements. -/
structure Codec (T : Nat → Type) where
  enc : (E : Nat) → T E → List (XV T)
  dec : (E : Nat) → List (XV T) → Option (T E)
  sz : Nat → Nat
  code : Nat → Option Nat
  arrm : Nat → Bool := fun _ => false
  full : Nat → Bool := fun _ => false
  scr : Nat → Bool := fun _ => false
  byt : (E : Nat) → List (T E) → Option (List UInt8) := fun _ _ => none
  unb : (E : Nat) → List UInt8 → Option (List (T E)) := fun _ _ => none
  len : ∀ E x, (enc E x).length = sz E
  pos : ∀ E, 0 < sz E
  shut : ∀ E x, ∀ v ∈ enc E x, v.closed = true
  back : ∀ E l x, dec E l = some x → Wks l (enc E x)
  byt_ok : ∀ E xs bs, byt E xs = some bs → xs.flatMap (enc E) = bs.map (fun b => XV.int .u8 (b.toNat : Int)) := by intro E xs bs h; cases h
  byt_sz : ∀ E xs bs, byt E xs = some bs → sz E = 1 := by intro E xs bs h; cases h
  unb_ok : ∀ E bs xs, unb E bs = some xs → xs.flatMap (enc E) = bs.map (fun b => XV.int .u8 (b.toNat : Int)) := by intro E bs xs h; cases h
  unb_len : ∀ E bs xs, unb E bs = some xs → xs.length = bs.length := by intro E bs xs h; cases h
  gsv : Nat → List Nat → AV → AV → Prop := fun _ _ _ _ => False
  gsv_one : ∀ c l r a, gsv c l r a → (∃ v, a = .raw v ∧ v.oneCell' = true) ∨ ∃ A n c' cs, a = .lst A n c' cs := by intro c l r a h; exact h.elim
  gsv_ptr : ∀ c l r b o, gsv c l r (.raw (.pointer (some ⟨b, o, Option.none⟩))) → r.owns b := by intro c l r b o h; exact h.elim
  gsh : (E : Nat) → T E → St → AV → Prop := fun _ _ _ _ => False
  gsh_used : ∀ E x σ a b, gsh E x σ a → a.owns b → σ.used b := by intro E x σ a b h; exact h.elim
  gsh_blk : ∀ E x σ a b, gsh E x σ a → a.owns b → ∃ k, σ.blk b = some k := by intro E x σ a b h; exact h.elim
  gsh_but : ∀ E x σ τ a S, gsh E x σ a → But S σ τ → (∀ b, a.owns b → ¬ S b) → gsh E x τ a := by intro E x σ τ a S h; exact h.elim

/-- The blocks of objects by number. -/
def PtrsAt (N : Nat) (ρ : Nat → AV) : List Nat → List Nat → Prop
  | [], [] => True
  | i :: ps, b :: bs => (i < N ∧ ρ i = Go.Proofs.YtlmmpfbdgiokmaaGreat.ptr b 0) ∧ PtrsAt N ρ ps bs
  | _, _ => False
def cloV (f : Nat) (bs : List Nat) : Value := .func (.func f) #[] (bs.map fun b => Value.pointer (some ⟨b, 0, none⟩)).toArray
/-- A map of ours. -/
def mapv (b : Nat) : AV := .raw (.map (some b))
/-- All of an array of ours, as it was made. -/
def ab (b K : Nat) : AV := .lst (some ⟨b, 0, none⟩) K K []
/-- A part of an array of ours. -/
structure AsAt (sz N : Nat) (ρ : Nat → AV) (i lo n : Nat) (co : Option Nat) (ad : Addr) (c : Nat) : Prop where
  lt : i < N
  le : n ≤ c
  max : c ≤ maxLen
  len : n ≤ 140737488355328
  at_ : ∃ b, ρ i = ab b (lo + c) ∧ (0 < c → ad = ⟨b, lo * sz, none⟩)
  cap : ∀ c', co = some c' → c = c'
inductive SVs (C : Codec T) (N : Nat) (ρ : Nat → AV) : List (XV T) → List AV → Prop where
  | none : SVs C N ρ [] []
  | int (k : IntKind) (n : Int) {vs as_} : SVs C N ρ vs as_ → SVs C N ρ (.int k n :: vs) (.raw (.int k n) :: as_)
  | bool (b : Bool) {vs as_} : SVs C N ρ vs as_ → SVs C N ρ (.bool b :: vs) (.raw (.bool b) :: as_)
  | str (s : List UInt8) {vs as_} : SVs C N ρ vs as_ → SVs C N ρ (.str s :: vs) (.raw (.string ⟨s.toArray⟩) :: as_)
  | sl (E : Nat) (xs : List (T E)) (A : Option Addr) (c : Nat) (cs rest : List AV) {vs as_} : xs.length ≤ c → c ≤ maxLen → xs.length ≤ 140737488355328 → (A = Option.none → xs.length = 0 ∧ c = 0) →
      SVs C N ρ (xs.flatMap (C.enc E)) cs → SVs C N ρ vs as_ → SVs C N ρ (.sl E xs Option.none :: vs) (.lst A xs.length c (cs ++ rest) :: as_)
  | slx (E : Nat) (xs ys : List (T E)) (A : Option Addr) (c : Nat) (cs rest : List AV) {vs as_} : xs.length + ys.length ≤ c → c ≤ maxLen → xs.length + ys.length ≤ 140737488355328 → (A = Option.none → xs.length + ys.length = 0 ∧ c = 0) →
      SVs C N ρ ((xs ++ ys).flatMap (C.enc E)) cs → SVs C N ρ vs as_ → SVs C N ρ (.slx E xs ys :: vs) (.lst A xs.length c (cs ++ rest) :: as_)
  | own (E : Nat) (xs : List (T E)) (r : Nat) {vs as_} : r < N → SVs C N ρ (.sl E xs Option.none :: vs) (ρ r :: as_) → SVs C N ρ (.sl E xs (some r) :: vs) (ρ r :: as_)
  | nil {vs as_} : SVs C N ρ vs as_ → SVs C N ρ (.nil :: vs) (.lst Option.none 0 0 [] :: as_)
  | ptr (i o b : Nat) {vs as_} : i < N → ρ i = Go.Proofs.YtlmmpfbdgiokmaaGreat.ptr b 0 → SVs C N ρ vs as_ → SVs C N ρ (.ptr i o :: vs) (Go.Proofs.YtlmmpfbdgiokmaaGreat.ptr b o :: as_)
  | nilptr {vs as_} : SVs C N ρ vs as_ → SVs C N ρ (.nilptr :: vs) (.raw (.pointer Option.none) :: as_)
  | nmap {vs as_} : SVs C N ρ vs as_ → SVs C N ρ (.nmap :: vs) (.raw (.map Option.none) :: as_)
  | el (E : Nat) (x : T E) (o : Nat) (ad : Addr) (cs rest : List AV) {vs as_} : SVs C N ρ ((C.enc E x).drop o) cs → SVs C N ρ vs as_ → SVs C N ρ (.el E x o :: vs) (.eptr ad (cs ++ rest) :: as_)
  | agg (l : List (XV T)) (ls : List AV) {vs as_} : SVs C N ρ l ls → SVs C N ρ vs as_ → SVs C N ρ (.agg l :: vs) (.agg ls :: as_)
  | tup (l : List (XV T)) (ls : List AV) {vs as_} : SVs C N ρ l ls → SVs C N ρ vs as_ → SVs C N ρ (.tup l :: vs) (.tup ls :: as_)
  | fn (f : Nat) {vs as_} : SVs C N ρ vs as_ → SVs C N ρ (.fn f :: vs) (.raw (.func (.func f) #[] #[]) :: as_)
  | as (E i lo n : Nat) (co : Option Nat) (ad : Addr) (c : Nat) {vs as_} : AsAt (C.sz E) N ρ i lo n co ad c → SVs C N ρ vs as_ → SVs C N ρ (.as E i lo n co :: vs) (.raw (.slice (some ad) n c) :: as_)
  | asn (E i lo : Nat) (co : Option Nat) {vs as_} : i < N → ρ i = .lst Option.none 0 0 [] → (∀ c', co = some c' → c' = 0) → SVs C N ρ vs as_ → SVs C N ρ (.as E i lo 0 co :: vs) (.lst Option.none 0 0 [] :: as_)
  | ap (E i k o b K : Nat) {vs as_} : i < N → (ρ i = ab b K ∧ k < K) → SVs C N ρ vs as_ → SVs C N ρ (.ap E i k o :: vs) (Go.Proofs.YtlmmpfbdgiokmaaGreat.ptr b (k * C.sz E + o) :: as_)
  | clo (f : Nat) (ps bs : List Nat) {vs as_} : PtrsAt N ρ ps bs → SVs C N ρ vs as_ → SVs C N ρ (.clo f ps :: vs) (.raw (cloV f bs) :: as_)
  | mp (E : Nat) (k : IntKind) (tb : List (Int × List (T E))) (b : Nat) (ls : List AV) {vs as_} : SVs C N ρ (tb.map fun p => XV.sl E p.2 Option.none) ls → SVs C N ρ vs as_ → SVs C N ρ (.mp E k tb :: vs) (.mp b (tb.map fun p => Value.int k p.1) ls :: as_)
  | mo (i b : Nat) {vs as_} : i < N → ρ i = mapv b → SVs C N ρ vs as_ → SVs C N ρ (.mo i :: vs) (mapv b :: as_)
  | gv (i c : Nat) (l : List Nat) (a : AV) {vs as_} : i < N → C.gsv c l (ρ i) a → SVs C N ρ vs as_ → SVs C N ρ (.gv i c l :: vs) (a :: as_)
  | vl (l : List (XV T)) (A : Option Addr) (c : Nat) (ls rest : List AV) {vs as_} : l.length ≤ c → c ≤ maxLen → l.length ≤ 140737488355328 → (A = Option.none → l.length = 0 ∧ c = 0) → SVs C N ρ l ls → SVs C N ρ vs as_ → SVs C N ρ (.vl l :: vs) (.lst A l.length c (ls ++ rest) :: as_)
  | ce (l : List (XV T)) (ad : Addr) (ls rest : List AV) {vs as_} : SVs C N ρ l ls → SVs C N ρ vs as_ → SVs C N ρ (.ce l :: vs) (.eptr ad (ls ++ rest) :: as_)
  | undef {vs as_} : SVs C N ρ vs as_ → SVs C N ρ (.undef :: vs) (.raw Go.undef :: as_)
  | junk (a : AV) {vs as_} : SVs C N ρ vs as_ → SVs C N ρ (.junk :: vs) (a :: as_)
abbrev SV (C : Codec T) (N : Nat) (ρ : Nat → AV) (v : XV T) (a : AV) : Prop := SVs C N ρ [v] [a]

section
variable {C : Codec T} {N N' : Nat} {ρ ρ' : Nat → AV} {v : XV T} {vs l : List (XV T)} {a : AV} {as_ ls : List AV}
theorem SVs.tail (h : SVs C N ρ (v :: vs) (a :: as_)) : SVs C N ρ vs as_ := by
  generalize hx : v :: vs = x at h
  generalize hy : a :: as_ = y at h
  induction h generalizing v vs a as_ with
  | none => cases hx
  | own E xs r hr h ih => injection hx with _ e2; injection hy with _ e4; subst e2 e4; exact ih rfl rfl
  | _ => injection hx with _ e2; injection hy with _ e4; subst e2 e4; assumption
theorem SVs.head (h : SVs C N ρ (v :: vs) (a :: as_)) : SV C N ρ v a := by
  generalize hx : v :: vs = x at h
  generalize hy : a :: as_ = y at h
  induction h generalizing v vs a as_ with
  | none => cases hx
  | own E xs r hr h ih => injection hx with e1 e2; injection hy with e3 e4; subst e1 e2 e3 e4; exact .own E xs r hr (ih rfl rfl)
  | sl E xs A c cs rest h1 h2 h3 h4 h5 h6 _ _ => injection hx with e1 e2; injection hy with e3 e4; subst e1 e2 e3 e4; exact .sl E xs A c cs rest h1 h2 h3 h4 h5 .none
  | slx E xs ys A c cs rest h1 h2 h3 h4 h5 h6 _ _ => injection hx with e1 e2; injection hy with e3 e4; subst e1 e2 e3 e4; exact .slx E xs ys A c cs rest h1 h2 h3 h4 h5 .none
  | el E x o ad cs rest h1 h2 _ _ => injection hx with e1 e2; injection hy with e3 e4; subst e1 e2 e3 e4; exact .el E x o ad cs rest h1 .none
  | agg l ls h1 h2 _ _ => injection hx with e1 e2; injection hy with e3 e4; subst e1 e2 e3 e4; exact .agg l ls h1 .none
  | tup l ls h1 h2 _ _ => injection hx with e1 e2; injection hy with e3 e4; subst e1 e2 e3 e4; exact .tup l ls h1 .none
  | ptr i o b h1 h2 h3 _ => injection hx with e1 e2; injection hy with e3 e4; subst e1 e2 e3 e4; exact .ptr i o b h1 h2 .none
  | mo i b h1 h2 h3 _ => injection hx with e1 e2; injection hy with e3 e4; subst e1 e2 e3 e4; exact .mo i b h1 h2 .none
  | gv i c l v h1 h2 h3 _ => injection hx with e1 e2; injection hy with e3 e4; subst e1 e2 e3 e4; exact .gv i c l _ h1 h2 .none
  | int k n h _ => injection hx with e1 e2; injection hy with e3 e4; subst e1 e2 e3 e4; exact .int k n .none
  | bool b h _ => injection hx with e1 e2; injection hy with e3 e4; subst e1 e2 e3 e4; exact .bool b .none
  | str s h _ => injection hx with e1 e2; injection hy with e3 e4; subst e1 e2 e3 e4; exact .str s .none
  | nil h _ => injection hx with e1 e2; injection hy with e3 e4; subst e1 e2 e3 e4; exact .nil .none
  | nilptr h _ => injection hx with e1 e2; injection hy with e3 e4; subst e1 e2 e3 e4; exact .nilptr .none
  | nmap h _ => injection hx with e1 e2; injection hy with e3 e4; subst e1 e2 e3 e4; exact .nmap .none
  | as E i lo n co ad c h1 _ _ => injection hx with e1 e2; injection hy with e3 e4; subst e1 e2 e3 e4; exact .as E i lo n co ad c h1 .none
  | asn E i lo co h1 h2 h3 _ _ => injection hx with e1 e2; injection hy with e3 e4; subst e1 e2 e3 e4; exact .asn E i lo co h1 h2 h3 .none
  | ap E i k o b K h1 h2 _ _ => injection hx with e1 e2; injection hy with e3 e4; subst e1 e2 e3 e4; exact .ap E i k o b K h1 h2 .none
  | clo f ps bs h1 _ _ => injection hx with e1 e2; injection hy with e3 e4; subst e1 e2 e3 e4; exact .clo f ps bs h1 .none
  | fn f h _ => injection hx with e1 e2; injection hy with e3 e4; subst e1 e2 e3 e4; exact .fn f .none
  | mp E kk tb b ls h1 h2 _ _ => injection hx with e1 e2; injection hy with e3 e4; subst e1 e2 e3 e4; exact .mp E kk tb b ls h1 .none
  | vl l A c ls rest h1 h2 h3 h4 h5 h6 _ _ => injection hx with e1 e2; injection hy with e3 e4; subst e1 e2 e3 e4; exact .vl l A c ls rest h1 h2 h3 h4 h5 .none
  | ce l ad ls rest h1 h2 _ _ => injection hx with e1 e2; injection hy with e3 e4; subst e1 e2 e3 e4; exact .ce l ad ls rest h1 .none
  | undef h _ => injection hx with e1 e2; injection hy with e3 e4; subst e1 e2 e3 e4; exact .undef .none
  | junk a h _ => injection hx with e1 e2; injection hy with e3 e4; subst e1 e2 e3 e4; exact .junk _ .none
theorem SVs.cons (h : SV C N ρ v a) (k : SVs C N ρ vs as_) : SVs C N ρ (v :: vs) (a :: as_) := by
  change SVs C N ρ [v] [a] at h
  generalize hx : [v] = x at h
  generalize hy : [a] = y at h
  induction h generalizing v a with
  | none => cases hx
  | own E xs r hr h ih => injection hx with e1 e2; injection hy with e3 e4; subst e1 e2 e3 e4; exact .own E xs r hr (ih rfl rfl)
  | sl E xs A c cs rest h1 h2 h3 h4 h5 h6 _ _ => injection hx with e1 e2; injection hy with e3 e4; subst e1 e2 e3 e4; exact .sl E xs A c cs rest h1 h2 h3 h4 h5 k
  | slx E xs ys A c cs rest h1 h2 h3 h4 h5 h6 _ _ => injection hx with e1 e2; injection hy with e3 e4; subst e1 e2 e3 e4; exact .slx E xs ys A c cs rest h1 h2 h3 h4 h5 k
  | el E x o ad cs rest h1 h2 _ _ => injection hx with e1 e2; injection hy with e3 e4; subst e1 e2 e3 e4; exact .el E x o ad cs rest h1 k
  | agg l ls h1 h2 _ _ => injection hx with e1 e2; injection hy with e3 e4; subst e1 e2 e3 e4; exact .agg l ls h1 k
  | tup l ls h1 h2 _ _ => injection hx with e1 e2; injection hy with e3 e4; subst e1 e2 e3 e4; exact .tup l ls h1 k
  | ptr i o b h1 h2 h3 _ => injection hx with e1 e2; injection hy with e3 e4; subst e1 e2 e3 e4; exact .ptr i o b h1 h2 k
  | mo i b h1 h2 h3 _ => injection hx with e1 e2; injection hy with e3 e4; subst e1 e2 e3 e4; exact .mo i b h1 h2 k
  | gv i c l v h1 h2 h3 _ => injection hx with e1 e2; injection hy with e3 e4; subst e1 e2 e3 e4; exact .gv i c l _ h1 h2 k
  | int k' n h _ => injection hx with e1 e2; injection hy with e3 e4; subst e1 e2 e3 e4; exact .int k' n k
  | bool b h _ => injection hx with e1 e2; injection hy with e3 e4; subst e1 e2 e3 e4; exact .bool b k
  | str s h _ => injection hx with e1 e2; injection hy with e3 e4; subst e1 e2 e3 e4; exact .str s k
  | nil h _ => injection hx with e1 e2; injection hy with e3 e4; subst e1 e2 e3 e4; exact .nil k
  | nilptr h _ => injection hx with e1 e2; injection hy with e3 e4; subst e1 e2 e3 e4; exact .nilptr k
  | nmap h _ => injection hx with e1 e2; injection hy with e3 e4; subst e1 e2 e3 e4; exact .nmap k
  | as E i lo n co ad c h1 _ _ => injection hx with e1 e2; injection hy with e3 e4; subst e1 e2 e3 e4; exact .as E i lo n co ad c h1 k
  | asn E i lo co h1 h2 h3 _ _ => injection hx with e1 e2; injection hy with e3 e4; subst e1 e2 e3 e4; exact .asn E i lo co h1 h2 h3 k
  | ap E i k' o b K h1 h2 _ _ => injection hx with e1 e2; injection hy with e3 e4; subst e1 e2 e3 e4; exact .ap E i k' o b K h1 h2 k
  | clo f ps bs h1 _ _ => injection hx with e1 e2; injection hy with e3 e4; subst e1 e2 e3 e4; exact .clo f ps bs h1 k
  | fn f h _ => injection hx with e1 e2; injection hy with e3 e4; subst e1 e2 e3 e4; exact .fn f k
  | mp E kk tb b ls h1 h2 _ _ => injection hx with e1 e2; injection hy with e3 e4; subst e1 e2 e3 e4; exact .mp E kk tb b ls h1 k
  | vl l A c ls rest h1 h2 h3 h4 h5 h6 _ _ => injection hx with e1 e2; injection hy with e3 e4; subst e1 e2 e3 e4; exact .vl l A c ls rest h1 h2 h3 h4 h5 k
  | ce l ad ls rest h1 h2 _ _ => injection hx with e1 e2; injection hy with e3 e4; subst e1 e2 e3 e4; exact .ce l ad ls rest h1 k
  | undef h _ => injection hx with e1 e2; injection hy with e3 e4; subst e1 e2 e3 e4; exact .undef k
  | junk a h _ => injection hx with e1 e2; injection hy with e3 e4; subst e1 e2 e3 e4; exact .junk _ k
theorem SVs_cons : SVs C N ρ (v :: vs) (a :: as_) ↔ SV C N ρ v a ∧ SVs C N ρ vs as_ := ⟨fun h => ⟨h.head, h.tail⟩, fun h => .cons h.1 h.2⟩
theorem SVs.len (h : SVs C N ρ vs as_) : as_.length = vs.length := by
  induction h with
  | none => rfl
  | own E xs r hr h ih => simpa using ih
  | _ => simp_all
theorem SVs_nil : SVs C N ρ [] as_ ↔ as_ = [] := ⟨fun h => by cases h; rfl, fun h => by subst h; exact .none⟩
theorem SVs.to (h : SVs C N ρ (v :: vs) as_) : ∃ a bs, as_ = a :: bs ∧ SV C N ρ v a ∧ SVs C N ρ vs bs := by
  cases as_ with
  | nil => have := h.len; simp at this
  | cons a bs => exact ⟨a, bs, rfl, h.head, h.tail⟩
theorem SVs.get (h : SVs C N ρ vs as_) {i : Nat} {x : XV T} (hx : vs[i]? = some x) : ∃ a, as_[i]? = some a ∧ SV C N ρ x a := by
  induction vs generalizing as_ i with
  | nil => simp at hx
  | cons v vs ih =>
    obtain ⟨a, bs, rfl, h1, h2⟩ := h.to
    cases i with
    | zero => simp at hx; subst hx; exact ⟨a, rfl, h1⟩
    | succ i => simp at hx; obtain ⟨a', h3, h4⟩ := ih h2 hx; exact ⟨a', by simpa using h3, h4⟩
theorem SVs.app (h : SVs C N ρ vs as_) (k : SVs C N ρ l ls) : SVs C N ρ (vs ++ l) (as_ ++ ls) := by
  induction vs generalizing as_ with
  | nil => rw [SVs_nil.1 h]; exact k
  | cons v vs ih => obtain ⟨a, bs, rfl, h1, h2⟩ := h.to; exact .cons h1 (ih h2)
theorem SVs.drop (h : SVs C N ρ vs as_) (n : Nat) : SVs C N ρ (vs.drop n) (as_.drop n) := by
  induction vs generalizing as_ n with
  | nil => rw [SVs_nil.1 h]; simpa using SVs.none
  | cons v vs ih =>
    obtain ⟨a, bs, rfl, h1, h2⟩ := h.to
    cases n with
    | zero => exact .cons h1 h2
    | succ n => exact ih h2 n
theorem SVs.take (h : SVs C N ρ vs as_) (n : Nat) : SVs C N ρ (vs.take n) (as_.take n) := by
  induction vs generalizing as_ n with
  | nil => rw [SVs_nil.1 h]; simpa using SVs.none
  | cons v vs ih =>
    obtain ⟨a, bs, rfl, h1, h2⟩ := h.to
    cases n with
    | zero => exact .none
    | succ n => exact .cons h1 (ih h2 n)
theorem SVs.split (h : SVs C N ρ (vs ++ l) as_) : ∃ xs ys, as_ = xs ++ ys ∧ SVs C N ρ vs xs ∧ SVs C N ρ l ys := by
  refine ⟨as_.take vs.length, as_.drop vs.length, (List.take_append_drop _ _).symm, ?_, ?_⟩
  · have := h.take vs.length; simpa using this
  · have := h.drop vs.length; simpa using this
/-- What bears no object of ours is as before, whatever becomes of these. -/
theorem SVs.shut (h : SVs C N ρ vs as_) (hc : ∀ v ∈ vs, v.closed = true) : SVs C N' ρ' vs as_ := by
  induction h with
  | none => exact .none
  | int k n h ih => exact .int k n (ih fun v hv => hc v (List.mem_cons_of_mem _ hv))
  | bool b h ih => exact .bool b (ih fun v hv => hc v (List.mem_cons_of_mem _ hv))
  | str s h ih => exact .str s (ih fun v hv => hc v (List.mem_cons_of_mem _ hv))
  | sl E xs A c cs rest h1 h2 h3 h4 h5 h6 ih1 ih2 =>
    refine .sl E xs A c cs rest h1 h2 h3 h4 (ih1 fun v hv => ?_) (ih2 fun v hv => hc v (List.mem_cons_of_mem _ hv))
    obtain ⟨x, _, hx⟩ := List.mem_flatMap.1 hv
    exact C.shut E x v hx
  | slx E xs ys A c cs rest h1 h2 h3 h4 h5 h6 ih1 ih2 =>
    refine .slx E xs ys A c cs rest h1 h2 h3 h4 (ih1 fun v hv => ?_) (ih2 fun v hv => hc v (List.mem_cons_of_mem _ hv))
    obtain ⟨x, _, hx⟩ := List.mem_flatMap.1 hv
    exact C.shut E x v hx
  | own E xs r hr h ih => exact absurd (hc _ (List.mem_cons_self)) (by simp [XV.closed])
  | nil h ih => exact .nil (ih fun v hv => hc v (List.mem_cons_of_mem _ hv))
  | nilptr h ih => exact .nilptr (ih fun v hv => hc v (List.mem_cons_of_mem _ hv))
  | nmap h ih => exact .nmap (ih fun v hv => hc v (List.mem_cons_of_mem _ hv))
  | fn f h ih => exact .fn f (ih fun v hv => hc v (List.mem_cons_of_mem _ hv))
  | ptr i o b h1 h2 h3 ih => exact absurd (hc _ (List.mem_cons_self)) (by simp [XV.closed])
  | mo i b h1 h2 h3 ih => exact absurd (hc _ (List.mem_cons_self)) (by simp [XV.closed])
  | gv i c l v h1 h2 h3 ih => exact absurd (hc _ (List.mem_cons_self)) (by simp [XV.closed])
  | el E x o ad cs rest h1 h2 ih1 ih2 => exact absurd (hc _ (List.mem_cons_self)) (by simp [XV.closed])
  | agg l ls h1 h2 ih1 ih2 => exact absurd (hc _ (List.mem_cons_self)) (by simp [XV.closed])
  | tup l ls h1 h2 ih1 ih2 => exact absurd (hc _ (List.mem_cons_self)) (by simp [XV.closed])
  | junk a h ih => exact absurd (hc _ (List.mem_cons_self)) (by simp [XV.closed])
  | undef h ih => exact absurd (hc _ (List.mem_cons_self)) (by simp [XV.closed])
  | as E i lo n co ad c h1 h2 ih => exact absurd (hc _ (List.mem_cons_self)) (by simp [XV.closed])
  | asn E i lo co h1 h2 h3 h4 ih => exact absurd (hc _ (List.mem_cons_self)) (by simp [XV.closed])
  | ap E i k o b K h1 h2 h3 ih => exact absurd (hc _ (List.mem_cons_self)) (by simp [XV.closed])
  | clo f ps bs h1 h2 ih => exact absurd (hc _ (List.mem_cons_self)) (by simp [XV.closed])
  | mp E kk tb b ls h1 h2 ih1 ih2 => exact absurd (hc _ (List.mem_cons_self)) (by simp [XV.closed])
  | vl l A c ls rest h1 h2 h3 h4 h5 h6 ih1 ih2 => exact absurd (hc _ (List.mem_cons_self)) (by simp [XV.closed])
  | ce l ad ls rest h1 h2 ih1 ih2 => exact absurd (hc _ (List.mem_cons_self)) (by simp [XV.closed])
theorem PtrsAt.ext (hN : N ≤ N') (hρ : ∀ i, i < N → ρ' i = ρ i) : ∀ {ps bs : List Nat}, PtrsAt N ρ ps bs → PtrsAt N' ρ' ps bs
  | [], [], _ => trivial
  | i :: ps, b :: bs, h => ⟨⟨Nat.lt_of_lt_of_le h.1.1 hN, (hρ i h.1.1).trans h.1.2⟩, PtrsAt.ext hN hρ h.2⟩
  | [], _ :: _, h => h.elim
  | _ :: _, [], h => h.elim
theorem AsAt.ext {sz i lo n c : Nat} {co : Option Nat} {ad : Addr} (h : AsAt sz N ρ i lo n co ad c) (hN : N ≤ N') (hρ : ∀ i, i < N → ρ' i = ρ i) : AsAt sz N' ρ' i lo n co ad c := ⟨Nat.lt_of_lt_of_le h.lt hN, h.le, h.max, h.len, by obtain ⟨b, h1, h2⟩ := h.at_; exact ⟨b, (hρ i h.lt).trans h1, h2⟩, h.cap⟩
/-- More numbers. -/
theorem SVs.ext (h : SVs C N ρ vs as_) (hN : N ≤ N') (hρ : ∀ i, i < N → ρ' i = ρ i) : SVs C N' ρ' vs as_ := by
  induction h with
  | none => exact .none
  | int k n h ih => exact .int k n ih
  | bool b h ih => exact .bool b ih
  | str s h ih => exact .str s ih
  | sl E xs A c cs rest h1 h2 h3 h4 h5 h6 ih1 ih2 => exact .sl E xs A c cs rest h1 h2 h3 h4 ih1 ih2
  | slx E xs ys A c cs rest h1 h2 h3 h4 h5 h6 ih1 ih2 => exact .slx E xs ys A c cs rest h1 h2 h3 h4 ih1 ih2
  | own E xs r hr h ih => rw [← hρ r hr] at ih ⊢; exact .own E xs r (Nat.lt_of_lt_of_le hr hN) ih
  | nil h ih => exact .nil ih
  | nilptr h ih => exact .nilptr ih
  | nmap h ih => exact .nmap ih
  | fn f h ih => exact .fn f ih
  | undef h ih => exact .undef ih
  | as E i lo n co ad c h1 h2 ih => exact .as E i lo n co ad c (h1.ext hN hρ) ih
  | asn E i lo co h1 h2 h3 h4 ih => exact .asn E i lo co (Nat.lt_of_lt_of_le h1 hN) ((hρ i h1).trans h2) h3 ih
  | ap E i k o b K h1 h2 h3 ih => exact .ap E i k o b K (Nat.lt_of_lt_of_le h1 hN) ⟨(hρ i h1).trans h2.1, h2.2⟩ ih
  | clo f ps bs h1 h2 ih => exact .clo f ps bs (h1.ext hN hρ) ih
  | mp E kk tb b ls h1 h2 ih1 ih2 => exact .mp E kk tb b ls ih1 ih2
  | vl l A c ls rest h1 h2 h3 h4 h5 h6 ih1 ih2 => exact .vl l A c ls rest h1 h2 h3 h4 ih1 ih2
  | ce l ad ls rest h1 h2 ih1 ih2 => exact .ce l ad ls rest ih1 ih2
  | ptr i o b h1 h2 h3 ih => exact .ptr i o b (Nat.lt_of_lt_of_le h1 hN) ((hρ i h1).trans h2) ih
  | mo i b h1 h2 h3 ih => exact .mo i b (Nat.lt_of_lt_of_le h1 hN) ((hρ i h1).trans h2) ih
  | gv i c l v h1 h2 h3 ih => exact .gv i c l _ (Nat.lt_of_lt_of_le h1 hN) (by rw [hρ i h1]; exact h2) ih
  | el E x o ad cs rest h1 h2 ih1 ih2 => exact .el E x o ad cs rest ih1 ih2
  | agg l ls h1 h2 ih1 ih2 => exact .agg l ls ih1 ih2
  | tup l ls h1 h2 ih1 ih2 => exact .tup l ls ih1 ih2
  | junk a h ih => exact .junk a ih
theorem Wk.sv {u : XV T} (h : Wk v u) (k : SV C N ρ v a) : SV C N ρ u a := by
  cases h with
  | same => exact k
  | drop E xs r => cases k with | own _ _ _ _ h => exact h
  | nil E => cases k with | nil h => exact .sl E [] Option.none 0 [] [] (Nat.le_refl _) (Nat.zero_le _) (Nat.zero_le _) (fun _ => ⟨rfl, rfl⟩) .none .none
  | nilx E => cases k with | nil h => exact .slx E [] [] Option.none 0 [] [] (Nat.le_refl _) (Nat.zero_le _) (Nat.zero_le _) (fun _ => ⟨rfl, rfl⟩) .none .none
  | spare E xs ys => cases k with | slx _ _ _ A c cs rest h1 h2 h3 h4 h5 h6 =>
    rw [List.flatMap_append] at h5
    obtain ⟨p, q, rfl, k1, k2⟩ := h5.split
    rw [List.append_assoc]
    exact .sl E xs A c p (q ++ rest) (by omega) h2 (by omega) (fun e => ⟨by have := (h4 e).1; omega, (h4 e).2⟩) k1 .none
theorem Wks.sv {us : List (XV T)} (h : Wks vs us) (k : SVs C N ρ vs as_) : SVs C N ρ us as_ := by
  induction h generalizing as_ with
  | nil => exact k
  | cons h1 h2 ih => obtain ⟨a, bs, rfl, k1, k2⟩ := k.to; exact .cons (h1.sv k1) (ih k2)
theorem SVs.one (h : SV C N ρ v a) (ho : v.one = true) : a.one = true := by
  change SVs C N ρ [v] [a] at h
  generalize hx : [v] = x at h
  generalize hy : [a] = y at h
  induction h generalizing v a with
  | none => cases hx
  | own E xs r hr h ih => injection hx with e1 e2; injection hy with e3 e4; subst e1 e2 e3 e4; exact ih rfl rfl rfl
  | el E x o ad cs rest h1 h2 _ _ => injection hx with e1 e2; injection hy with e3 e4; subst e1 e2 e3 e4; rfl
  | agg l ls h1 h2 _ _ => injection hx with e1 e2; subst e1; simp [XV.one] at ho
  | tup l ls h1 h2 _ _ => injection hx with e1 e2; subst e1; simp [XV.one] at ho
  | junk a h _ => injection hx with e1 e2; subst e1; simp [XV.one] at ho
  | undef h _ => injection hx with e1 e2; subst e1; simp [XV.one] at ho
  | mp E kk tb b ls h1 h2 _ _ => injection hx with e1 e2; subst e1; simp [XV.one] at ho
  | vl l A c ls rest h1 h2 h3 h4 h5 h6 _ _ => injection hx with e1 e2; subst e1; simp [XV.one] at ho
  | ce l ad ls rest h1 h2 _ _ => injection hx with e1 e2; subst e1; simp [XV.one] at ho
  | ap E i k o b h1 h2 _ _ => injection hx with e1 e2; subst e1; simp [XV.one] at ho
  | gv i c l v h1 h2 h3 _ =>
    injection hx with e1 e2; injection hy with e3 e4; subst e1 e2 e3 e4
    rcases C.gsv_one _ _ _ _ h2 with ⟨u, e, h⟩ | ⟨_, _, _, _, e⟩
    · rw [e]; exact h
    · rw [e]; rfl
  | _ => injection hx with e1 e2; injection hy with e3 e4; subst e1 e2 e3 e4; rfl
end
end Go.Proofs.YtlmmpfbdgiokmaaGreat
