/- What values stand for, read off; what an operation must do. -/
import Derived.Test.YtlmmpfbdgiokmaaGreatX2
namespace Go.Proofs.YtlmmpfbdgiokmaaGreat
open Go.RowKit
set_option maxRecDepth 100000
set_option linter.unusedVariables false
variable {T : Nat → Type}
def XV.ofV1 : Value → XV T
  | .int k n => .int k n
  | .bool b => .bool b
  | .string s => .str s.data.toList
  | .slice none 0 0 => .nil
  | .pointer none => .nilptr
  | .map none => .nmap
  | _ => .junk
def XV.ofV : Value → XV T
  | .agg cs => .agg (cs.toList.map XV.ofV1)
  | v => XV.ofV1 v
def XV.cells : XV T → List (XV T)
  | .agg l => l
  | v => [v]
def XV.isVal : XV T → Bool
  | .agg l => l.all XV.one
  | v => v.one
def xget : List (Nat × XV T) → Nat → XV T
  | [], _ => .junk
  | (j, v) :: l, i => bif Nat.beq j i then v else xget l i
def xev (env : List (Nat × XV T)) : Operand → XV T
  | .tmp t => xget env t
  | .const v => XV.ofV v
  | .global _ => .junk
  | .func f => .fn f
/-- To a head, and on. -/
def XV.force {α : Type} (v : XV T) (k : XV T → α) : α := match v with
  | .int a b => k (.int a b)
  | .bool b => k (.bool b)
  | .str s => k (.str s)
  | .sl E xs o => k (.sl E xs o)
  | .slx E xs ys => k (.slx E xs ys)
  | .nil => k .nil
  | .ptr i o => k (.ptr i o)
  | .nilptr => k .nilptr
  | .nmap => k .nmap
  | .el E x o => k (.el E x o)
  | .agg l => k (.agg l)
  | .tup l => k (.tup l)
  | .fn f => k (.fn f)
  | .as E i lo n co => k (.as E i lo n co)
  | .ap E i j o => k (.ap E i j o)
  | .clo f ps => k (.clo f ps)
  | .mp E kk tb => k (.mp E kk tb)
  | .mo i => k (.mo i)
  | .gv i c l => k (.gv i c l)
  | .vl l => k (.vl l)
  | .ce l => k (.ce l)
  | .undef => k .undef
  | .junk => k .junk
def forceL {α : Type} : List (XV T) → (List (XV T) → α) → α
  | [], k => k []
  | v :: l, k => v.force fun v => forceL l fun l => k (v :: l)
@[simp] theorem force_eq {α : Type} (v : XV T) (k : XV T → α) : v.force k = k v := by cases v <;> rfl
@[simp] theorem forceL_eq {α : Type} (l : List (XV T)) (k : List (XV T) → α) : forceL l k = k l := by
  induction l generalizing k with
  | nil => rfl
  | cons v l ih => simp [forceL, ih]
section
variable {C : Codec T} {N : Nat} {ρ : Nat → AV} {a : AV} {as_ : List AV}
theorem sv_int {k : IntKind} {n : Int} : SV C N ρ (.int k n) a ↔ a = .raw (.int k n) := ⟨fun h => by cases h; rfl, fun h => by subst h; exact .int _ _ .none⟩
theorem sv_bool {b : Bool} : SV C N ρ (.bool b) a ↔ a = .raw (.bool b) := ⟨fun h => by cases h; rfl, fun h => by subst h; exact .bool _ .none⟩
theorem sv_str {s : List UInt8} : SV C N ρ (.str s) a ↔ a = .raw (.string ⟨s.toArray⟩) := ⟨fun h => by cases h; rfl, fun h => by subst h; exact .str _ .none⟩
theorem sv_nil : SV C N ρ .nil a ↔ a = .lst none 0 0 [] := ⟨fun h => by cases h; rfl, fun h => by subst h; exact .nil .none⟩
theorem sv_nilptr : SV C N ρ .nilptr a ↔ a = .raw (.pointer none) := ⟨fun h => by cases h; rfl, fun h => by subst h; exact .nilptr .none⟩
theorem sv_nmap : SV C N ρ .nmap a ↔ a = .raw (.map none) := ⟨fun h => by cases h; rfl, fun h => by subst h; exact .nmap .none⟩
theorem sv_fn {f : Nat} : SV C N ρ (.fn f) a ↔ a = .raw (.func (.func f) #[] #[]) := ⟨fun h => by cases h; rfl, fun h => by subst h; exact .fn f .none⟩
theorem sv_as {E i lo n : Nat} {co : Option Nat} : SV C N ρ (.as E i lo n co) a ↔ (∃ ad c, a = .raw (.slice (some ad) n c) ∧ AsAt (C.sz E) N ρ i lo n co ad c) ∨ (a = .lst none 0 0 [] ∧ n = 0 ∧ i < N ∧ ρ i = .lst none 0 0 [] ∧ ∀ c', co = some c' → c' = 0) := by
  constructor
  · intro h
    cases h with
    | as _ _ _ _ _ ad c h1 _ => exact .inl ⟨ad, c, rfl, h1⟩
    | asn _ _ _ _ h1 h2 h3 _ => exact .inr ⟨rfl, rfl, h1, h2, h3⟩
  · rintro (⟨ad, c, rfl, h⟩ | ⟨rfl, rfl, h1, h2, h3⟩)
    · exact .as E i lo n co ad c h .none
    · exact .asn E i lo co h1 h2 h3 .none
theorem sv_ap {E i k o : Nat} : SV C N ρ (.ap E i k o) a ↔ ∃ b, a = ptr b (k * C.sz E + o) ∧ i < N ∧ ∃ K, ρ i = ab b K ∧ k < K := ⟨fun h => by cases h; exact ⟨_, rfl, ‹_›, _, ‹_›⟩, fun ⟨b, e, h1, K, h2⟩ => by subst e; exact .ap E i k o b K h1 h2 .none⟩
theorem sv_clo {f : Nat} {ps : List Nat} : SV C N ρ (.clo f ps) a ↔ ∃ bs, a = .raw (cloV f bs) ∧ PtrsAt N ρ ps bs := ⟨fun h => by cases h; exact ⟨_, rfl, ‹_›⟩, fun ⟨bs, e, h⟩ => by subst e; exact .clo f ps bs h .none⟩
theorem sv_undef : SV C N ρ .undef a ↔ a = .raw Go.undef := ⟨fun h => by cases h; rfl, fun h => by subst h; exact .undef .none⟩
theorem sv_junk : SV C N ρ .junk a := .junk a .none
theorem sv_agg {l : List (XV T)} : SV C N ρ (.agg l) a ↔ ∃ ls, a = .agg ls ∧ SVs C N ρ l ls := ⟨fun h => by cases h; exact ⟨_, rfl, ‹_›⟩, fun ⟨ls, e, h⟩ => by subst e; exact .agg l ls h .none⟩
theorem sv_tup {l : List (XV T)} : SV C N ρ (.tup l) a ↔ ∃ ls, a = .tup ls ∧ SVs C N ρ l ls := ⟨fun h => by cases h; exact ⟨_, rfl, ‹_›⟩, fun ⟨ls, e, h⟩ => by subst e; exact .tup l ls h .none⟩
theorem sv_ptr {i o : Nat} : SV C N ρ (.ptr i o) a ↔ ∃ b, a = ptr b o ∧ i < N ∧ ρ i = ptr b 0 := ⟨fun h => by cases h; exact ⟨_, rfl, ‹_›, ‹_›⟩, fun ⟨b, e, h1, h2⟩ => by subst e; exact .ptr i o b h1 h2 .none⟩
theorem sv_mo {i : Nat} : SV C N ρ (.mo i) a ↔ ∃ b, a = mapv b ∧ i < N ∧ ρ i = mapv b := ⟨fun h => by cases h; exact ⟨_, rfl, ‹_›, ‹_›⟩, fun ⟨b, e, h1, h2⟩ => by subst e; exact .mo i b h1 h2 .none⟩
theorem sv_gv {i c : Nat} {l : List Nat} : SV C N ρ (.gv i c l) a ↔ i < N ∧ C.gsv c l (ρ i) a := ⟨fun h => by cases h; exact ⟨‹_›, ‹_›⟩, fun ⟨h1, h2⟩ => .gv i c l a h1 h2 .none⟩
theorem sv_el {E o : Nat} {x : T E} : SV C N ρ (.el E x o) a ↔ ∃ ad cs rest, a = .eptr ad (cs ++ rest) ∧ SVs C N ρ ((C.enc E x).drop o) cs := ⟨fun h => by cases h; exact ⟨_, _, _, rfl, ‹_›⟩, fun ⟨ad, cs, rest, e, h⟩ => by subst e; exact .el E x o ad cs rest h .none⟩
theorem sv_vl {l : List (XV T)} : SV C N ρ (.vl l) a ↔ ∃ A c ls rest, a = .lst A l.length c (ls ++ rest) ∧ l.length ≤ c ∧ c ≤ maxLen ∧ l.length ≤ 140737488355328 ∧ (A = none → l.length = 0 ∧ c = 0) ∧ SVs C N ρ l ls :=
  ⟨fun h => by cases h; exact ⟨_, _, _, _, rfl, ‹_›, ‹_›, ‹_›, ‹_›, ‹_›⟩, fun ⟨A, c, ls, rest, e, h1, h2, h3, h4, h5⟩ => by subst e; exact .vl l A c ls rest h1 h2 h3 h4 h5 .none⟩
theorem sv_ce {l : List (XV T)} : SV C N ρ (.ce l) a ↔ ∃ ad ls rest, a = .eptr ad (ls ++ rest) ∧ SVs C N ρ l ls := ⟨fun h => by cases h; exact ⟨_, _, _, rfl, ‹_›⟩, fun ⟨ad, ls, rest, e, h⟩ => by subst e; exact .ce l ad ls rest h .none⟩
theorem sv_sl {E : Nat} {xs : List (T E)} : SV C N ρ (.sl E xs none) a ↔ ∃ A c cs rest, a = .lst A xs.length c (cs ++ rest) ∧ xs.length ≤ c ∧ c ≤ maxLen ∧ xs.length ≤ 140737488355328 ∧ (A = none → xs.length = 0 ∧ c = 0) ∧ SVs C N ρ (xs.flatMap (C.enc E)) cs :=
  ⟨fun h => by cases h; exact ⟨_, _, _, _, rfl, ‹_›, ‹_›, ‹_›, ‹_›, ‹_›⟩, fun ⟨A, c, cs, rest, e, h1, h2, h3, h4, h5⟩ => by subst e; exact .sl E xs A c cs rest h1 h2 h3 h4 h5 .none⟩
theorem sv_slx {E : Nat} {xs ys : List (T E)} : SV C N ρ (.slx E xs ys) a ↔ ∃ A c cs rest, a = .lst A xs.length c (cs ++ rest) ∧ xs.length + ys.length ≤ c ∧ c ≤ maxLen ∧ xs.length + ys.length ≤ 140737488355328 ∧ (A = none → xs.length + ys.length = 0 ∧ c = 0) ∧ SVs C N ρ ((xs ++ ys).flatMap (C.enc E)) cs :=
  ⟨fun h => by cases h; exact ⟨_, _, _, _, rfl, ‹_›, ‹_›, ‹_›, ‹_›, ‹_›⟩, fun ⟨A, c, cs, rest, e, h1, h2, h3, h4, h5⟩ => by subst e; exact .slx E xs ys A c cs rest h1 h2 h3 h4 h5 .none⟩
theorem sv_own {E r : Nat} {xs : List (T E)} : SV C N ρ (.sl E xs (some r)) a ↔ a = ρ r ∧ r < N ∧ SV C N ρ (.sl E xs none) a := ⟨fun h => by cases h; exact ⟨rfl, ‹_›, ‹_›⟩, fun ⟨e, h1, h2⟩ => by subst e; exact .own E xs r h1 h2⟩
/-- Any list: its form. -/
theorem sv_list {E : Nat} {xs : List (T E)} {o : Option Nat} (h : SV C N ρ (.sl E xs o) a) : ∃ A c cs rest, a = .lst A xs.length c (cs ++ rest) ∧ xs.length ≤ c ∧ c ≤ maxLen ∧ xs.length ≤ 140737488355328 ∧ (A = none → xs.length = 0 ∧ c = 0) ∧ SVs C N ρ (xs.flatMap (C.enc E)) cs := by
  cases o with
  | none => exact sv_sl.1 h
  | some r => exact sv_sl.1 (sv_own.1 h).2.2
theorem svs1 {x : XV T} : SVs C N ρ [x] as_ ↔ ∃ a, as_ = [a] ∧ SV C N ρ x a := ⟨fun h => by obtain ⟨a, bs, rfl, h1, h2⟩ := h.to; rw [SVs_nil] at h2; subst h2; exact ⟨a, rfl, h1⟩, fun ⟨a, e, h⟩ => by subst e; exact h⟩
theorem svs2 {x y : XV T} : SVs C N ρ [x, y] as_ ↔ ∃ a b, as_ = [a, b] ∧ SV C N ρ x a ∧ SV C N ρ y b := ⟨fun h => by
  obtain ⟨a, bs, rfl, h1, h2⟩ := h.to
  obtain ⟨b, rfl, h3⟩ := svs1.1 h2
  exact ⟨a, b, rfl, h1, h3⟩, fun ⟨a, b, e, h1, h2⟩ => by subst e; exact .cons h1 h2⟩
theorem svs3 {x y z : XV T} : SVs C N ρ [x, y, z] as_ ↔ ∃ a b c, as_ = [a, b, c] ∧ SV C N ρ x a ∧ SV C N ρ y b ∧ SV C N ρ z c := ⟨fun h => by
  obtain ⟨a, bs, rfl, h1, h2⟩ := h.to
  obtain ⟨b, c, rfl, h3, h4⟩ := svs2.1 h2
  exact ⟨a, b, c, rfl, h1, h3, h4⟩, fun ⟨a, b, c, e, h1, h2, h3⟩ => by subst e; exact .cons h1 (.cons h2 h3)⟩
theorem ofV1_sv (v : Value) : SV C N ρ (XV.ofV1 v) (AV.ofV1 v) := by
  unfold XV.ofV1
  split
  · exact sv_int.2 rfl
  · exact sv_bool.2 rfl
  · exact sv_str.2 (by simp [AV.ofV1])
  · exact sv_nil.2 rfl
  · exact sv_nilptr.2 rfl
  · exact sv_nmap.2 rfl
  · exact sv_junk
theorem ofV1s_sv (l : List Value) : SVs C N ρ (l.map XV.ofV1) (l.map AV.ofV1) := by
  induction l with
  | nil => exact .none
  | cons v l ih => exact .cons (ofV1_sv v) ih
theorem ofV_sv (v : Value) : SV C N ρ (XV.ofV v) (AV.ofV v) := by
  cases v with
  | agg cs => exact sv_agg.2 ⟨_, rfl, ofV1s_sv _⟩
  | _ => unfold XV.ofV AV.ofV; dsimp only; exact ofV1_sv _
theorem cells_sv {v : XV T} (h : SV C N ρ v a) (hv : v.isVal = true) : SVs C N ρ v.cells a.cells := by
  cases v with
  | agg l => obtain ⟨ls, rfl, h1⟩ := sv_agg.1 h; exact h1
  | int k n => rw [sv_int.1 h]; exact sv_int.2 rfl
  | bool b => rw [sv_bool.1 h]; exact sv_bool.2 rfl
  | str s => rw [sv_str.1 h]; exact sv_str.2 rfl
  | nil => rw [sv_nil.1 h]; exact sv_nil.2 rfl
  | nilptr => rw [sv_nilptr.1 h]; exact sv_nilptr.2 rfl
  | nmap => rw [sv_nmap.1 h]; exact sv_nmap.2 rfl
  | fn f => rw [sv_fn.1 h]; exact sv_fn.2 rfl
  | ptr i o => obtain ⟨b, rfl, h1⟩ := sv_ptr.1 h; exact sv_ptr.2 ⟨b, rfl, h1⟩
  | mo i => obtain ⟨b, rfl, h1⟩ := sv_mo.1 h; exact sv_mo.2 ⟨b, rfl, h1⟩
  | gv i c l =>
    rcases C.gsv_one _ _ _ _ (sv_gv.1 h).2 with ⟨u, rfl, h3⟩ | ⟨_, _, _, _, rfl⟩
    · have h4 : (AV.raw u).cells = [.raw u] := by cases u <;> first | rfl | cases h3
      rw [h4]; exact h
    · exact h
  | sl E xs o => obtain ⟨A, c, cs, rest, rfl, _⟩ := sv_list h; exact h
  | slx E xs ys => obtain ⟨A, c, cs, rest, rfl, _⟩ := sv_slx.1 h; exact h
  | as E i lo n co => rcases sv_as.1 h with ⟨ad, c, rfl, h1⟩ | ⟨rfl, _⟩ <;> exact h
  | clo f ps => obtain ⟨bs, rfl, h1⟩ := sv_clo.1 h; exact sv_clo.2 ⟨bs, rfl, h1⟩
  | _ => simp [XV.isVal, XV.one] at hv
theorem cells_one {v : XV T} (hv : v.isVal = true) : ∀ x ∈ v.cells, x.one = true := by
  unfold XV.isVal at hv
  unfold XV.cells
  split at hv
  · exact List.all_eq_true.1 hv
  · intro x hx
    cases v with
    | agg l => simp_all
    | _ => simp at hx; subst hx; exact hv
theorem isVal_notTup {v : XV T} (h : SV C N ρ v a) (hv : v.isVal = true) : notTup a = true := by
  cases v with
  | agg l => obtain ⟨ls, rfl, h1⟩ := sv_agg.1 h; rfl
  | int k n => rw [sv_int.1 h]; rfl
  | bool b => rw [sv_bool.1 h]; rfl
  | str s => rw [sv_str.1 h]; rfl
  | nil => rw [sv_nil.1 h]; rfl
  | nilptr => rw [sv_nilptr.1 h]; rfl
  | nmap => rw [sv_nmap.1 h]; rfl
  | fn f => rw [sv_fn.1 h]; rfl
  | ptr i o => obtain ⟨b, rfl, h1⟩ := sv_ptr.1 h; rfl
  | mo i => obtain ⟨b, rfl, h1⟩ := sv_mo.1 h; rfl
  | gv i c l => rcases C.gsv_one _ _ _ _ (sv_gv.1 h).2 with ⟨u, rfl, h3⟩ | ⟨_, _, _, _, rfl⟩ <;> rfl
  | sl E xs o => obtain ⟨A, c, cs, rest, rfl, _⟩ := sv_list h; rfl
  | slx E xs ys => obtain ⟨A, c, cs, rest, rfl, _⟩ := sv_slx.1 h; rfl
  | as E i lo n co => rcases sv_as.1 h with ⟨ad, c, rfl, h1⟩ | ⟨rfl, _⟩ <;> rfl
  | clo f ps => obtain ⟨bs, rfl, h1⟩ := sv_clo.1 h; rfl
  | _ => simp [XV.isVal, XV.one] at hv
theorem SVs.ones {vs : List (XV T)} (h : SVs C N ρ vs as_) (ho : ∀ x ∈ vs, x.one = true) : ∀ a ∈ as_, a.one = true := by
  induction vs generalizing as_ with
  | nil => rw [SVs_nil.1 h]; simp
  | cons v vs ih =>
    obtain ⟨a, bs, rfl, h1, h2⟩ := h.to
    intro x hx
    rcases List.mem_cons.1 hx with rfl | hx
    · exact SVs.one h1 (ho v (List.mem_cons_self))
    · exact ih h2 (fun y hy => ho y (List.mem_cons_of_mem _ hy)) x hx
theorem closed_one {v : XV T} (h : v.closed = true) : v.one = true := by cases v <;> simp_all [XV.closed, XV.one]
end
/-- An operation of values vs, where h is what is ours, tells r and leaves h'. -/
def OpTr (C : Codec T) (P : Program) (U : Nat → Prop) (o : Oper) (vs : List (XV T)) (h : List (HI T)) (r : XV T) (h' : List (HI T)) : Prop :=
  ∀ ρ σ as_, SVs C h.length ρ vs as_ → Hp C ρ h σ → aVal P o as_ σ fun rv τ => ∃ ρ', SV C h'.length ρ' r rv ∧ Hp C ρ' h' τ ∧ Rel U ρ h σ ρ' h' τ
/-- A call of f, so. -/
def Tr (C : Codec T) (P : Program) (U : Nat → Prop) (f : FuncId) (args : List (XV T)) (h : List (HI T)) (r : XV T) (h' : List (HI T)) : Prop :=
  ∀ ρ σ vs, SVs C h.length ρ args vs → Hp C ρ h σ → CallsA P f vs σ fun rv τ => ∃ ρ', SV C h'.length ρ' r rv ∧ Hp C ρ' h' τ ∧ Rel U ρ h σ ρ' h' τ
section
variable {C : Codec T} {P : Program} {o : Oper} {vs : List (XV T)} {h : List (HI T)} {r : XV T}
theorem OpTr.same {U : Nat → Prop} (k : ∀ (ρ : Nat → AV) (σ : St) (as_ : List AV) (K : AV → St → Prop), SVs C h.length ρ vs as_ → Hp C ρ h σ → (∀ rv, SV C h.length ρ r rv → K rv σ) → aVal P o as_ σ K) : OpTr C P U o vs h r h :=
  fun ρ σ as_ hv H => k ρ σ as_ _ hv H fun rv hr => ⟨ρ, hr, H, .refl _ _ _ _⟩
end
end Go.Proofs.YtlmmpfbdgiokmaaGreat
