/- What comes in, as typed data; what a law's contract says of its call. -/
import Derived.Test.YteempnebenjkmaaGreatDoorMc
import Derived.Test.YteempnebenjkmaaGreatDoorOpen
namespace Go.Proofs.YteempnebenjkmaaGreatDoor
open Go.RowKit
set_option maxRecDepth 100000
set_option linter.unusedVariables false
variable {T : Nat -> Type}
inductive DXs (C : ZaA T) : List (XV T) -> List D -> Prop where
 | none : DXs C [] []
 | int (k : IntKind) (n : Int) {vs ds} : DXs C vs ds -> DXs C (.int k n :: vs) (.i k n :: ds)
 | bool (b : Bool) {vs ds} : DXs C vs ds -> DXs C (.bool b :: vs) (.b b :: ds)
 | str (s : List UInt8) {vs ds} : DXs C vs ds -> DXs C (.str s :: vs) (.s s :: ds)
 | sl (E : Nat) (xs : List (T E)) (es : List D) {vs ds} : DXs C (xs.flatMap (C.enc E)) es -> DXs C vs ds -> DXs C (.sl E xs Option.none :: vs) (.l (C.sz E) es :: ds)
section
variable {C : ZaA T}
theorem DXs.len {vs : List (XV T)} {ds : List D} (h : DXs C vs ds) : ds.length = vs.length := by
 induction h with
 | none => rfl
 | sl E xs es h1 h2 ih1 ih2 => simp [ih2]
 | _ => simp_all
theorem DXs.app {vs us : List (XV T)} {ds es : List D} (h : DXs C vs ds) (k : DXs C us es) : DXs C (vs ++ us) (ds ++ es) := by
 induction h with
 | none => exact k
 | int k n h ih => exact .int k n ih
 | bool b h ih => exact .bool b ih
 | str s h ih => exact .str s ih
 | sl E xs es h1 h2 ih1 ih2 => exact .sl E xs es h1 ih2
def σ0 (w : World) : St := ⟨fun _ => none, fun b => b < w.heap.size, ⟨w.heap.size, fun n hn => ⟨by omega, rfl⟩⟩⟩
theorem σ0_ok (w : World) : Zan w (σ0 w) (fun _ => False) := ⟨fun b h => h, (fun b h => h.elim), (fun b t cs h => by cases h), (fun b t k s h => by cases h), (fun b es h => by cases h)⟩
theorem Zzu {F : Nat -> Prop} {w : World} {N : Nat} {ρ : Nat -> AV} {vs : List (XV T)} {ds : List D} (h : DXs C vs ds) : ∀ {vals : List Value}, Zd3 F w ds vals -> ∃ as_ : List AV, as_.map AV.val = vals /\ (∀ a ∈ as_, Zag w ((σ0 w).free fun _ => False) a) /\ SVs C N ρ vs as_ := by
 induction h with
 | none => intro vals hr; cases vals <;> simp [Zd3] at hr; exact ⟨[], rfl, by simp, .none⟩
 | int k n h ih =>
  intro vals hr
  cases vals with
  | nil => simp [Zd3] at hr
  | cons v vals =>
   obtain ⟨as_, h1, h2, h3⟩ := ih hr.2
   have hv : v = .int k n := hr.1
   exact ⟨.raw (.int k n) :: as_, by simp [h1, hv], fun a ha => by rcases List.mem_cons.1 ha with rfl | ha; (· unfold Zag; trivial); exact h2 a ha, .int k n h3⟩
 | bool b h ih =>
  intro vals hr
  cases vals with
  | nil => simp [Zd3] at hr
  | cons v vals =>
   obtain ⟨as_, h1, h2, h3⟩ := ih hr.2
   have hv : v = .bool b := hr.1
   exact ⟨.raw (.bool b) :: as_, by simp [h1, hv], fun a ha => by rcases List.mem_cons.1 ha with rfl | ha; (· unfold Zag; trivial); exact h2 a ha, .bool b h3⟩
 | str s h ih =>
  intro vals hr
  cases vals with
  | nil => simp [Zd3] at hr
  | cons v vals =>
   obtain ⟨as_, h1, h2, h3⟩ := ih hr.2
   have hv : v = .string ⟨s.toArray⟩ := hr.1
   exact ⟨.raw (.string ⟨s.toArray⟩) :: as_, by simp [h1, hv], fun a ha => by rcases List.mem_cons.1 ha with rfl | ha; (· unfold Zag; trivial); exact h2 a ha, .str s h3⟩
 | sl E xs es h1 h2 ih1 ih2 =>
  intro vals hr
  cases vals with
  | nil => simp [Zd3] at hr
  | cons v vals =>
   obtain ⟨as_, g1, g2, g3⟩ := ih2 hr.2
   obtain ⟨A, n, c, rfl, q1, q2, q3, q4, q5, q6⟩ := Rep.list hr.1
   have hes := h1.len
   rw [Zcl] at hes
   have hn : n = xs.length := by
    have hp := C.pos E
    rw [q1] at hes
    exact Nat.eq_of_mul_eq_mul_right hp hes
   subst hn
   have hcells : ∃ vs' : List Value, Zd3 F w es vs' /\ ∀ ad, A = some ad -> ∀ j u, vs'[j]? = some u -> w.cell? (ad.add j) = some u /\ ad.block < w.heap.size := by
    cases A with
    | none =>
     have : es = [] := List.eq_nil_of_length_eq_zero (by rw [q1, (q5 rfl).1]; simp)
     subst this
     exact ⟨[], trivial, fun ad h => by cases h⟩
    | some ad =>
     by_cases h0 : 0 < xs.length
     ·obtain ⟨q7, q8, q9⟩ := q6 ad rfl h0
      have : ∀ (l : List D) (o : Nat), (∀ j d, l[j]? = some d -> ∃ u, w.cell? (ad.add (o + j)) = some u /\ Rep F w d u) -> ∃ vs' : List Value, Zd3 F w l vs' /\ ∀ j u, vs'[j]? = some u -> w.cell? (ad.add (o + j)) = some u := by
       intro l
       induction l with
       | nil => intro o _; exact ⟨[], trivial, fun j u hu => by simp at hu⟩
       | cons d l ih =>
        intro o hl
        obtain ⟨u, hu, hd⟩ := hl 0 d rfl
        obtain ⟨vs', e1, e2⟩ := ih (o + 1) (fun j d' hj => by
         have := hl (j + 1) d' (by simpa using hj)
         rwa [show o + (j + 1) = o + 1 + j from by omega] at this)
        refine ⟨u :: vs', ⟨hd, e1⟩, fun j x hx => ?_⟩
        cases j with
        | zero => simp at hx; subst hx; exact hu
        | succ j =>
         simp at hx
         have := e2 j x hx
         rwa [show o + 1 + j = o + (j + 1) from by omega] at this
      obtain ⟨vs', e1, e2⟩ := this es 0 (fun j d hj => by rw [Nat.zero_add]; exact q9 j d hj)
      refine ⟨vs', e1, fun ad' had j u hu => ?_⟩
      injection had with had
      subst had
      have := e2 j u hu
      rw [Nat.zero_add] at this
      exact ⟨this, q8⟩
     ·have : es = [] := List.eq_nil_of_length_eq_zero (by rw [q1, show xs.length = 0 from by omega]; simp)
      subst this
      exact ⟨[], trivial, fun ad _ j u hu => by simp at hu⟩
   obtain ⟨vs', r1, r2⟩ := hcells
   obtain ⟨cs, w1, w2, w3⟩ := ih1 r1
   refine ⟨.lst A xs.length c (cs ++ []) :: as_, by simp [g1], fun a ha => ?_, .sl E xs A c cs [] q2 q3 q4 q5 w3 g3⟩
   rcases List.mem_cons.1 ha with rfl | ha
   ·unfold Zag
    refine ⟨q2, fun hA => ?_, fun ad hA => ?_⟩
    ·obtain ⟨z1, z2⟩ := q5 hA
     have : cs = [] := by
      have := w3.len
      rw [Zcl, z1] at this
      exact List.eq_nil_of_length_eq_zero (by simpa using this)
     subst this
     exact ⟨z1, z2, rfl⟩
    ·rw [List.append_nil]
     refine Zay.mk fun j d hd => ?_
     rw [Nat.zero_add]
     have hdv : vs'[j]? = some d.val := by rw [<- w1, List.getElem?_map, hd]; rfl
     obtain ⟨z1, z2⟩ := r2 ad hA j d.val hdv
     exact ⟨z1, ⟨id, z2, trivial⟩, w2 d (List.mem_of_getElem? hd)⟩
   ·exact g2 a ha
inductive ZiP : D -> Prop where
 | i (k n) : ZiP (.i k n)
 | b (x) : ZiP (.b x)
 | s (l) : ZiP (.s l)
 | l (sz) (ds : List D) : ds.length <= 140737488355328 * sz -> (∀ d ∈ ds, ZiP d) -> ZiP (.l sz ds)
mutual
theorem Rep.smallD {F : Nat -> Prop} {w : World} : (d : D) -> {v : Value} -> Rep F w d v -> ZiP d
 | .i k n, _, _ => .i k n
 | .b x, _, _ => .b x
 | .s l, _, _ => .s l
 | .l sz cells, v, h => by
  unfold Rep at h
  obtain ⟨A, n, c, rfl, h1, h2, h3, h3', h4, h5⟩ := h
  refine .l sz cells (by rw [h1]; exact Nat.mul_le_mul_right _ h3') ?_
  cases A with
  | none =>
   have : cells = [] := List.eq_nil_of_length_eq_zero (by rw [h1, (h4 rfl).1]; simp)
   subst this
   simp
  | some ad =>
   by_cases hp : 0 < n
   ·exact Za9.smallD 0 cells (h5 ad rfl hp).2.2
   ·have : cells = [] := List.eq_nil_of_length_eq_zero (by rw [h1, show n = 0 from by omega]; simp)
    subst this
    simp
theorem Za9.smallD {F : Nat -> Prop} {w : World} {ad : Addr} : (j : Nat) -> (ds : List D) -> Za9 F w ad j ds -> ∀ d ∈ ds, ZiP d
 | _, [], _, d, hd => by cases hd
 | j, x :: r, h, d, hd => by
  unfold Za9 at h
  obtain ⟨⟨v, h1, h2⟩, h3⟩ := h
  rcases List.mem_cons.1 hd with e | hd
  ·rw [e]; exact Rep.smallD x h2
  ·exact Za9.smallD (j + 1) r h3 d hd
end
theorem Zd3.smallD {F : Nat -> Prop} {w : World} : ∀ {ds : List D} {vs : List Value}, Zd3 F w ds vs -> ∀ d ∈ ds, ZiP d
 | [], _, _, d, hd => by cases hd
 | x :: ds, [], h, d, hd => by simp [Zd3] at h
 | x :: ds, v :: vs, h, d, hd => by
  rcases List.mem_cons.1 hd with rfl | hd
  ·exact Rep.smallD _ h.1
  ·exact Zd3.smallD h.2 d hd
def InK (k : IntKind) (n : Int) : Prop := (Lit.int k n).wf = true
theorem InK.i64 {n : Int} (h : InK .i64 n) : -9223372036854775808 <= n /\ n <= 9223372036854775807 := by
 simpa [InK, Lit.wf, IntKind.bits, IntKind.signed, IntKind.min, IntKind.max] using h
theorem InK.u8 {n : Int} (h : InK .u8 n) : 0 <= n /\ n <= 255 := by
 simpa [InK, Lit.wf, IntKind.bits, IntKind.signed, IntKind.min, IntKind.max] using h
theorem InK.u32 {n : Int} (h : InK .u32 n) : 0 <= n /\ n <= 4294967295 := by
 simpa [InK, Lit.wf, IntKind.bits, IntKind.signed, IntKind.min, IntKind.max] using h
theorem Zkp {shs : List Sh} {E : Nat} {ok : T E -> Prop} (hE : ∀ ds, Zbp shs ds -> (∀ d ∈ ds, ZiP d) -> ∃ x, DXs C (C.enc E x) ds /\ ok x) (hsz : shs.length = C.sz E) : ∀ (n : Nat) (ds : List D), ds.length = n * shs.length -> (∀ (i j : Nat) (sh : Sh) (d : D), i < n -> shs[j]? = some sh -> ds[i * shs.length + j]? = some d -> ZtV sh d) -> (∀ d ∈ ds, ZiP d) ->
 ∃ xs : List (T E), xs.length = n /\ DXs C (xs.flatMap (C.enc E)) ds /\ ∀ x ∈ xs, ok x
 | 0, ds, hl, h, hs => by
  have : ds = [] := List.eq_nil_of_length_eq_zero (by simpa using hl)
  subst this
  exact ⟨[], rfl, .none, by simp⟩
 | n + 1, ds, hl, h, hs => by
  have hfit : Zbp shs (ds.take shs.length) := by
   have : ∀ (l : List Sh) (o : Nat) (es : List D), es.length = l.length -> (∀ (j : Nat) (sh : Sh) (d : D), l[j]? = some sh -> es[j]? = some d -> ZtV sh d) -> Zbp l es := by
    intro l
    induction l with
    | nil => intro o es he _; cases es <;> simp at he; trivial
    | cons a l ih =>
     intro o es he hf
     cases es with
     | nil => simp at he
     | cons d es => exact ⟨hf 0 a d rfl rfl, ih 0 es (by simpa using he) (fun j sh d h1 h2 => hf (j + 1) sh d (by simpa using h1) (by simpa using h2))⟩
   refine this shs 0 _ (by rw [List.length_take, hl, Nat.succ_mul]; omega) fun j sh d h1 h2 => ?_
   rw [List.getElem?_take] at h2
   split at h2
   ·exact h 0 j sh d (Nat.succ_pos _) h1 (by simpa using h2)
   ·cases h2
  obtain ⟨x, hx, ox⟩ := hE _ hfit (fun d hd => hs d (List.mem_of_mem_take hd))
  obtain ⟨xs, h1, h2, h3⟩ := Zkp hE hsz n (ds.drop shs.length) (by rw [List.length_drop, hl, Nat.succ_mul]; omega) (fun i j sh d hi hj hd => by
   rw [List.getElem?_drop] at hd
   exact h (i + 1) j sh d (by omega) hj (by rw [show (i + 1) * shs.length + j = shs.length + (i * shs.length + j) from by rw [Nat.succ_mul]; omega]; exact hd)) (fun d hd => hs d (List.mem_of_mem_drop hd))
  refine ⟨x :: xs, by simp [h1], ?_, fun y hy => ?_⟩
  ·rw [List.flatMap_cons, <- List.take_append_drop shs.length ds]
   exact hx.app h2
  ·rcases List.mem_cons.1 hy with rfl | hy
   ·exact ox
   ·exact h3 y hy
structure OkL {α : Type} (m : Nat) (ok : α -> Prop) (xs : List α) : Prop where
 len : xs.length <= 140737488355328
 all : ∀ x ∈ xs, ok x
 room : xs.length * m <= 140737488351232
theorem Zzv {shs : List Sh} {E : Nat} {ok : T E -> Prop} (hE : ∀ ds, Zbp shs ds -> (∀ d ∈ ds, ZiP d) -> ∃ x, DXs C (C.enc E x) ds /\ ok x) (hsz : shs.length = C.sz E) {d : D} (h : ZtV (.l shs) d) (hs : ZiP d) : ∃ xs : List (T E), ∃ es, d = .l (C.sz E) es /\ DXs C (xs.flatMap (C.enc E)) es /\ OkL (Zn3 shs) ok xs := by
 cases h with
 | l _ n ds hl hm h =>
  cases hs with
  | l _ _ s1 s2 =>
   obtain ⟨xs, h1, h2, h3⟩ := Zkp hE hsz n ds hl h s2
   refine ⟨xs, ds, by rw [hsz], h2, ?_, h3, by rw [h1]; exact hm⟩
   rw [h1]
   rw [hl] at s1
   have hp := C.pos E
   exact Nat.le_of_mul_le_mul_right s1 (by omega)
theorem Zkq {sh : Sh} {l : List Sh} {ds : List D} (h : Zbp (sh :: l) ds) : ∃ d es, ds = d :: es /\ ZtV sh d /\ Zbp l es := by
 cases ds with
 | nil => exact h.elim
 | cons d es => exact ⟨d, es, rfl, h.1, h.2⟩
theorem ZlT {ds : List D} (h : Zbp [] ds) : ds = [] := by
 cases ds with
 | nil => rfl
 | cons d es => exact h.elim
theorem ZsJ.enter {P : Program} {f : FuncId} {vals : Array Value} {w : World} {Q : Ending -> World -> Prop} (h : ZsJ P f vals w Q) (hf : ZcZ P f = true) : Calls P f vals w Q := by
 rcases h with ⟨_, h⟩ | ⟨v, w', h1, _⟩
 ·exact h
 ·exfalso
  unfold ZcZ at hf
  cases hfn : P.funcs[f]? with
  | none => rw [hfn] at hf; cases hf
  | some fn =>
   rw [hfn] at hf
   simp only [Bool.and_eq_true, bne_iff_ne, ne_eq] at hf
   obtain ⟨hb, hn⟩ := hf
   have hb' : fn.body ≠ none := by
    intro h
    rw [h] at hb; cases hb
   simp [callFunc, hfn, hn, hb'] at h1
theorem Zvc {P : Program} {f : FuncId} {args : List (XV T)} {h' : List (HI T)} (hf : ZcZ P f = true) (ht : Tr C P (fun _ => True) f args [] (.bool true) h') {w : World} {as_ : List AV} (hs : SVs C 0 (fun _ => default) args as_) (hv : ∀ a ∈ as_, Zag w ((σ0 w).free fun _ => False) a) {vals : Array Value} (he : vals = (as_.map AV.val).toArray) :
 Calls P f vals w fun e w' => e = .returned (.bool true) /\ Zcq (fun _ => False) w w' := by
 subst he
 have H : Hp C (fun _ => default) ([] : List (HI T)) (σ0 w) := ⟨fun i x hx => by simp at hx, fun i j x y b hx => by simp at hx⟩
 have hc := ht (fun _ => default) (σ0 w) as_ hs H
 refine Calls.mono ((hc w (fun _ => False) (σ0_ok w) hv).enter hf) ?_
 rintro e w' ⟨r, σ', rfl, ⟨ρ', g1, g2, g3⟩, hH, hV, hG⟩
 rw [Za7.1 g1]
 exact ⟨by simp, hG.os, hG.tape, hG.output, hG.size, fun k hk _ => (hG.rest k hk rfl).1⟩
inductive ZAG (C : ZaA T) (w : World) : List (XV T) -> List Value -> Prop where
 | none : ZAG C w [] []
 | one {v : XV T} {x : Value} {vs xs} (a : AV) (he : a.val = x) (hv : Zag w ((σ0 w).free fun _ => False) a) (hs : SV C 0 (fun _ => default) v a) : ZAG C w vs xs -> ZAG C w (v :: vs) (x :: xs)
theorem ZAG.get {w : World} {vs : List (XV T)} {xs : List Value} (h : ZAG C w vs xs) : ∃ as_ : List AV, as_.map AV.val = xs /\ (∀ a ∈ as_, Zag w ((σ0 w).free fun _ => False) a) /\ SVs C 0 (fun _ => default) vs as_ := by
 induction h with
 | none => exact ⟨[], rfl, by simp, .none⟩
 | one a he hv hs h ih =>
  obtain ⟨as_, h1, h2, h3⟩ := ih
  exact ⟨a :: as_, by simp [he, h1], fun b hb => by rcases List.mem_cons.1 hb with rfl | hb; (· exact hv); exact h2 b hb, .cons hs h3⟩
theorem Zxl {P : Program} {f : FuncId} {args : List (XV T)} {h' : List (HI T)} (hf : ZcZ P f = true) (ht : Tr C P (fun _ => True) f args [] (.bool true) h') {w : World} {vals : List Value} (hA : ZAG C w args vals) : Calls P f vals.toArray w fun e w' => e = .returned (.bool true) /\ Zcq (fun _ => False) w w' := by
 obtain ⟨as_, h1, h2, h3⟩ := hA.get
 exact Zvc hf ht h3 h2 (by rw [h1])
theorem Zvd {F : Nat -> Prop} {w : World} {v : XV T} {ds : List D} {x : Value} (h : DXs C [v] ds) (hr : Zd3 F w ds [x]) : ∃ a : AV, a.val = x /\ Zag w ((σ0 w).free fun _ => False) a /\ SV C 0 (fun _ => default) v a := by
 obtain ⟨as_, h1, h2, h3⟩ := Zzu (N := 0) (ρ := fun _ => default) h hr
 obtain ⟨a, rfl, h4⟩ := ZeG.1 h3
 exact ⟨a, by simpa using h1, h2 a (by simp), h4⟩
end
end Go.Proofs.YteempnebenjkmaaGreatDoor
