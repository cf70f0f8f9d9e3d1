/- Small words on memory: a store of what is there, two stores, a block known whole, what stays where only some blocks are written. -/
import Derived.WalkKit
import Derived.WalkSpells
import Derived.WalkLawsBesides
import Derived.Lib.Hide
import Derived.Deep.Draws
import Derived.Laws.AppendOwnNone
import Derived.Laws.Tables
import Derived.Maps.AppendAt
import Derived.Deep.AppendLies
namespace Go.Proofs.Ytnmimignbgdfgaa
open Go.RowKit
set_option maxRecDepth 100000

theorem setCell_id {w : World} {a : Addr} {v : Value} (h : w.cell? a = some v) : w.setCell a v = w := by
  unfold World.cell? at h
  unfold World.setCell
  congr 1
  apply Array.ext
  · simp
  intro i h1 h2
  rw [Array.getElem_modify]
  split
  · next e =>
    subst e
    rw [Array.getElem?_eq_getElem h2] at h
    revert h
    split
    · next heq =>
      intro h
      injection heq with heq
      rw [heq]
      cases hs : a.spot.isSome
      · rw [hs] at h
        simp only [Bool.false_eq_true, if_false] at h ⊢
        congr 1
        apply Array.ext
        · simp
        intro j h3 h4
        rw [Array.getElem_setIfInBounds h4]
        split
        · next e => subst e; rw [Array.getElem?_eq_getElem h4] at h; injection h with h; exact h.symm
        · rfl
      · rw [hs] at h; simp at h
    · intro h; cases h
  · rfl
theorem setCell_twice (w : World) (a : Addr) (v v' : Value) : (w.setCell a v).setCell a v' = w.setCell a v' := by
  unfold World.setCell
  congr 1
  apply Array.ext
  · simp
  intro i h1 h2
  simp only [Array.getElem_modify]
  split
  · split <;> rename_i heq <;> split at heq <;> simp_all
    next h => obtain ⟨rfl, rfl, rfl⟩ := heq; split <;> simp
  · rfl

/-- Block g is just the cells cs of element type t; none is marked. -/
def Blk (w : World) (g : Nat) (t : TypeId) (cs : Array Value) : Prop := w.heap[g]? = some (.cells cs t (0, 0))
/-- Where S does not hold the blocks that were there are as they were. -/
structure Keep (S : Nat → Prop) (w w' : World) : Prop where
  os : w'.os = w.os
  tape : w'.tape = w.tape
  output : w'.output = w.output
  size : w.heap.size ≤ w'.heap.size
  block : ∀ k, k < w.heap.size → ¬ S k → w'.heap[k]? = w.heap[k]?

section
variable {w w' w'' : World} {g : Nat} {t : TypeId} {cs : Array Value} {S T : Nat → Prop} {B : Nat}
theorem Blk.lt (h : Blk w g t cs) : g < w.heap.size := by
  unfold Blk at h
  exact (Array.getElem?_eq_some_iff.1 h).1
theorem Blk.cell (h : Blk w g t cs) (i : Nat) : w.cell? ⟨g, i, none⟩ = cs[i]? := by unfold Blk at h; simp [World.cell?, h]
theorem Blk.frozen (h : Blk w g t cs) (i : Nat) : w.frozen? ⟨g, i, none⟩ = false := by unfold Blk at h; simp [World.frozen?, h]
theorem Blk.new (w : World) (t : TypeId) (cs : Array Value) : Blk (w.alloc (.cells cs t)) w.heap.size t cs := heap_alloc_new w _
theorem Blk.put (h : Blk w g t cs) (i : Nat) (u : Value) : Blk (w.setCell ⟨g, i, none⟩ u) g t (cs.setIfInBounds i u) := by
  unfold Blk at h ⊢
  simp [World.setCell, Array.getElem?_modify, h]
theorem Blk.keep (h : Blk w g t cs) (hk : Keep S w w') (hS : ¬ S g) : Blk w' g t cs := (hk.block g h.lt hS).trans h

theorem Blk.drew (h : Blk w g t cs) : Blk w.drew g t cs := h
theorem Blk.drewN (h : Blk w g t cs) (n : Nat) : Blk (w.drewN n) g t cs := h
theorem Blk.alloc (h : Blk w g t cs) (o : Obj) : Blk (w.alloc o) g t cs := (Below.heap_alloc w o g h.lt).trans h
theorem Blk.far (h : Blk w g t cs) {p : Addr} (hp : g ≠ p.block) (u : Value) : Blk (w.setCell p u) g t cs := (Below.heap_setCell w p u g hp).trans h
theorem Blk.kept (h : Blk w g t cs) (hk : Keep (fun _ => False) w w') : Blk w' g t cs := h.keep hk id
theorem Blk.setRow (h : Blk w g t cs) (cs' : Array Value) : Blk (w.setRow g cs') g t cs' := setRow_heap w g cs cs' t (0, 0) h
theorem Blk.setRowFar (h : Blk w g t cs) {g' : Nat} (hg : g ≠ g') (cs' : Array Value) : Blk (w.setRow g' cs') g t cs := (setRow_other w g' g cs' hg).trans h
theorem Keep.refl (S : Nat → Prop) (w : World) : Keep S w w := ⟨rfl, rfl, rfl, Nat.le_refl _, fun _ _ _ => rfl⟩
theorem Keep.trans (h : Keep S w w') (k : Keep S w' w'') : Keep S w w'' :=
  ⟨k.os.trans h.os, k.tape.trans h.tape, k.output.trans h.output, Nat.le_trans h.size k.size,
    fun i hi hS => (k.block i (Nat.lt_of_lt_of_le hi h.size) hS).trans (h.block i hi hS)⟩
theorem Keep.more (h : Keep S w w') (hST : ∀ k, k < w.heap.size → S k → T k) : Keep T w w' :=
  ⟨h.os, h.tape, h.output, h.size, fun k hk hT => h.block k hk fun hS => hT (hST k hk hS)⟩
theorem Keep.alloc (h : Keep S w w') (o : Obj) : Keep S w (w'.alloc o) :=
  h.trans ⟨rfl, rfl, rfl, by simp, fun k hk _ => Below.heap_alloc _ _ _ hk⟩
theorem Keep.setCell (h : Keep S w w') {p : Addr} (hp : S p.block) (u : Value) : Keep S w (w'.setCell p u) :=
  h.trans ⟨rfl, rfl, rfl, by simp [World.setCell], fun k _ hS => Below.heap_setCell _ _ _ _ (fun e => hS (e ▸ hp))⟩
theorem Keep.setNew (h : Keep S w w') {p : Addr} (hp : w.heap.size ≤ p.block) (u : Value) : Keep S w (w'.setCell p u) :=
  ⟨h.os, h.tape, h.output, by simpa [World.setCell] using h.size, fun k hk hS => (Below.heap_setCell _ _ _ _ (by omega)).trans (h.block k hk hS)⟩
theorem Keep.put (h : Keep S w w') (hp : S g) (i : Nat) (u : Value) : Keep S w (w'.setCell ⟨g, i, none⟩ u) := h.setCell (p := ⟨g, i, none⟩) hp u
theorem Keep.setRowNew (h : Keep S w w') (hg : w.heap.size ≤ g) (cs : Array Value) : Keep S w (w'.setRow g cs) :=
  ⟨h.os, h.tape, h.output, by simpa using h.size, fun k hk hS => (setRow_other _ _ _ _ (by omega)).trans (h.block k hk hS)⟩
theorem Keep.setRow (h : Keep S w w') (hg : S g) (cs : Array Value) : Keep S w (w'.setRow g cs) :=
  ⟨h.os, h.tape, h.output, by simpa using h.size, fun k hk hS => (setRow_other _ g k _ (fun e => hS (by rw [e]; exact hg))).trans (h.block k hk hS)⟩
theorem Keep.putNew (h : Keep S w w') (hg : w.heap.size ≤ g) (i : Nat) (u : Value) : Keep S w (w'.setCell ⟨g, i, none⟩ u) := h.setNew (p := ⟨g, i, none⟩) hg u
theorem Keep.drew (h : Keep S w w') : Keep S w w'.drew := ⟨h.os, h.tape, h.output, h.size, h.block⟩
theorem Keep.drewN (h : Keep S w w') (n : Nat) : Keep S w (w'.drewN n) := ⟨h.os, h.tape, h.output, h.size, h.block⟩
theorem Keep.grown {row : Option Nat} (h : Keep S w w') (hg : w'.grownBy w'' row) (hr : ∀ k, row = some k → k < w.heap.size → S k) : Keep S w w'' :=
  ⟨hg.os.trans h.os, hg.tape.trans h.tape, hg.output.trans h.output, Nat.le_trans h.size hg.size,
    fun k hk hS => (hg.block k (Nat.lt_of_lt_of_le hk h.size) (fun e => hS (hr k e.symm hk))).trans (h.block k hk hS)⟩
theorem Keep.grown0 (h : Keep S w w') (hg : w'.grownBy w'' none) : Keep S w w'' := h.grown hg (fun k hk => by cases hk)
theorem Keep.grownNew (h : Keep S w w') {g : Nat} (hg : w'.grownBy w'' (some g)) (hb : w.heap.size ≤ g) : Keep S w w'' := h.grown hg (fun k hk hl => by injection hk with hk; omega)
theorem Keep.grownIn (h : Keep S w w') {g : Nat} (hg : w'.grownBy w'' (some g)) (hb : S g) : Keep S w w'' := h.grown hg (fun k hk _ => by injection hk with hk; exact hk ▸ hb)
theorem Keep.below (h : Keep (fun k => B ≤ k) w w') (hB : B ≤ w.heap.size) : Below B w w' :=
  ⟨h.os, h.tape, h.output, h.size, fun k hk => h.block k (by omega) (by omega)⟩
theorem Keep.below' (h : Keep (fun _ => False) w w') : Below w.heap.size w w' :=
  ⟨h.os, h.tape, h.output, h.size, fun k hk => h.block k hk id⟩
theorem Keep.of_below (h : Below w.heap.size w w') : Keep S w w' :=
  ⟨h.os, h.tape, h.output, h.size, fun k hk _ => h.block k hk⟩
/-- Two steps; the second one may write what was not there ahead of the first. -/
theorem Keep.cell (h : Keep S w w') {p : Addr} (hp : p.block < w.heap.size) (hS : ¬ S p.block) : w'.cell? p = w.cell? p := World.cell?_of_block (h.block _ hp hS)
theorem Keep.then_ (k : Keep S w' w'') (h : Keep S w w') : Keep S w w'' := h.trans k
theorem Keep.cell_some (hk : Keep (fun _ => False) w w') {a : Addr} {v : Value} (hc : w.cell? a = some v) : w'.cell? a = some v := (hk.cell (World.block_lt_of_cell? w a hc) id).trans hc
theorem held0 (hk : Keep (fun _ => False) w w') : Keep (fun _ => False) w w' ∧ True := ⟨hk, trivial⟩
theorem held1 (hk : Keep (fun _ => False) w w') {a : Addr} {v : Value} (hc : w.cell? a = some v) : Keep (fun _ => False) w w' ∧ w'.cell? a = some v := ⟨hk, hk.cell_some hc⟩
theorem held2 (hk : Keep (fun _ => False) w w') {a b : Addr} {v u : Value} (hc : w.cell? a = some v) (hd : w.cell? b = some u) : Keep (fun _ => False) w w' ∧ w'.cell? a = some v ∧ w'.cell? b = some u := ⟨hk, hk.cell_some hc, hk.cell_some hd⟩
theorem Keep.andThen (h : Keep S w w') (k : Keep T w' w'') (hT : ∀ k, k < w.heap.size → T k → S k) : Keep S w w'' :=
  ⟨k.os.trans h.os, k.tape.trans h.tape, k.output.trans h.output, Nat.le_trans h.size k.size,
    fun i hi hS => (k.block i (Nat.lt_of_lt_of_le hi h.size) (fun x => hS (hT i hi x))).trans (h.block i hi hS)⟩
theorem Keep.frozen (h : Keep S w w') {p : Addr} (hp : p.block < w.heap.size) (hS : ¬ S p.block) : w'.frozen? p = w.frozen? p := World.frozen?_of_block (h.block _ hp hS)
end

theorem own_ne {w : World} {base : Nat} {e t : TypeId} {size n g : Nat} {v : Value} {xs : List Value} {cs : Array Value} (h : w.ownsRow base e size v n xs) (hB : Blk w g t cs) (hne : e ≠ t) : ¬ some g = v.ownBlock := by
  rcases h.2 with ⟨rfl, _⟩ | ⟨g', cap, cur, rfl, _, hh, _⟩
  · simp [Value.ownBlock]
  · intro he
    simp only [Value.ownBlock, Option.some.injEq] at he
    subst he
    unfold Blk at hB
    rw [hB] at hh
    injection hh with hh
    injection hh with _ hh
    exact hne hh.symm
theorem cellNew (w : World) (C : Array Value) (t : TypeId) (fr : Nat × Nat) (j : Nat) : (w.alloc (.cells C t fr)).cell? ⟨w.heap.size, j, none⟩ = C[j]? := by
  unfold World.cell?
  rw [heap_alloc_new w (.cells C t fr)]
  rfl
theorem cellOld (w : World) (o : Obj) {a : Addr} (h : a.block < w.heap.size) : (w.alloc o).cell? a = w.cell? a := World.cell?_of_block (Below.heap_alloc w o _ h)
/-- Nothing but answers drawn. -/
def Drawn (w w' : World) : Prop := ∃ m, w' = w.drewN m
theorem Drawn.refl (w : World) : Drawn w w := ⟨0, rfl⟩
theorem Drawn.drewN {w w' : World} (h : Drawn w w') (n : Nat) : Drawn w (w'.drewN n) := by obtain ⟨m, rfl⟩ := h; exact ⟨m + n, World.drewN_drewN _ _ _⟩
theorem Drawn.drew {w w' : World} (h : Drawn w w') : Drawn w w'.drew := by obtain ⟨m, rfl⟩ := h; exact ⟨m + 1, rfl⟩
theorem Drawn.trans {w w' w'' : World} (h : Drawn w w') (k : Drawn w' w'') : Drawn w w'' := by obtain ⟨m, rfl⟩ := k; exact h.drewN m
theorem Drawn.keep {w w' : World} (h : Drawn w w') : Keep (fun _ => False) w w' := by obtain ⟨m, rfl⟩ := h; exact (Keep.refl _ _).drewN m
/-- A call that only draws, in a region that draws. -/
theorem quiet {P : Program} {f : FuncId} {args : Array Value} {w : World} {n : Nat} {v : Value}
    (h : Calls P f args (w.drewN n) fun e w' => e = .returned v ∧ Drawn (w.drewN n) w') : Calls P f args (w.drewN n) fun e w'' => e = .returned v ∧ ∃ m, w'' = w.drewN m :=
  h.mono fun _ _ ⟨he, m, hm⟩ => ⟨he, n + m, by rw [hm, World.drewN_drewN]⟩
theorem quietEq {P : Program} {f : FuncId} {args : Array Value} {w : World} {n : Nat} {v : Value}
    (h : Calls P f args (w.drewN n) fun e w' => e = .returned v ∧ w.drewN n = w') : Calls P f args (w.drewN n) fun e w'' => e = .returned v ∧ ∃ m, w'' = w.drewN m :=
  h.mono fun _ _ ⟨he, hm⟩ => ⟨he, n, hm.symm⟩
theorem ret_int {k : IntKind} {a b : Int} (h : a = b) : Ending.returned (.int k a) = .returned (.int k b) := by rw [h]
theorem ret_bool {a b : Bool} (h : a = b) : Ending.returned (.bool a) = .returned (.bool b) := by rw [h]
theorem map_take_snoc {α : Type} (rs : List α) (k : Nat) (h : k < rs.length) : rs.take (k + 1) = rs.take k ++ [rs[k]] := by
  rw [List.take_succ_eq_append_getElem h]
section
variable {P : Program} (w : World) {ops : Array Oper} {rest : List Oper} {o : Oper} {a : Act} {Q : Exit → Act → World → Prop}
/-- append(s, x...): x nil or not. -/
theorem append_all (hgd : o.guard = none) (s x : Operand) (t : TypeId)
    (ho : o.op = .call { callee := .builtin .append, args := #[s, x], argTypes := #[t, t] }) (base : Nat) (e : TypeId) (i : TypeInfo) (z : Value) (size bytes : Nat)
    (ht : P.underlying t = some (.slice e)) (hi : P.info? e = some i) (hz : i.zero = some z) (hsize : i.size = size) (hby : i.bytes = bytes) (hzs : z.cells.size = size) (hsz : 0 < size)
    (v : Value) (n : Nat) (xs : List Value) (hv : a.eval s = v) (hown : w.ownsRow base e size v n xs) (A : Option Addr) (m c : Nat) (news : List Value)
    (hx : a.eval x = .slice A m c) (hlen : news.length = m * size) (hA : A = none → m = 0 ∧ c = 0) (hc : ∀ ad, A = some ad → ∀ (j : Nat) (u : Value), news[j]? = some u → w.cell? (ad.add j) = some u)
    (h1 : ∀ u, u ∈ news → u.oneCell' = true) (hm : n + m ≤ maxLen) (hb : (n + m) * bytes ≤ 140737488355328) (hbase : base ≤ w.heap.size)
    (h : ∀ v' w', w'.ownsRow base e size v' (n + m) (xs ++ news) → w.grownBy w' v.ownBlock → (v' = .slice none 0 0 → v = .slice none 0 0) → wpList P ops Q rest (a.put o.dst v') w') : wpList P ops Q (o :: rest) a w := by
  rcases A with _ | ad
  · obtain ⟨rfl, rfl⟩ := hA rfl
    have hn : news = [] := List.eq_nil_of_length_eq_zero (by simpa using hlen)
    subst hn
    refine wpList_append_own_none hgd s x t ho base e i size ht hi v n xs hv hown hx ?_
    exact h v w (by simpa using hown) (World.grownBy.refl w _) id
  · exact wpList_append_own w hgd s x t ho base e i z size bytes ht hi hz hsize hby hzs hsz v n xs hv hown ad m c news hx hlen (hc ad rfl) h1 hm hb hbase fun v' w' h2 h3 h4 => h v' w' h2 h3 fun e => (h4.1 e).1
end
theorem own_some {w : World} {base : Nat} {e : TypeId} {size n : Nat} {v : Value} {xs : List Value} (h : w.ownsRow base e size v n xs) (hv : v ≠ .slice none 0 0) : ∃ g c, v = .slice (some ⟨g, 0, none⟩) n c ∧ base ≤ g ∧ g < w.heap.size := by
  rcases h.2 with ⟨h, _⟩ | ⟨g', cap, cur, hv', hb, hh, _⟩
  · exact absurd h hv
  · exact ⟨g', cap, hv', hb, (Array.getElem?_eq_some_iff.1 hh).1⟩
/-- A block that is known is a row. -/
theorem own_of_blk {w : World} {base : Nat} {e : TypeId} {size g n cap : Nat} {cs : Array Value} (h : Blk w g e cs) (hb : base ≤ g) (hn : n ≤ cap) (hm : cap ≤ maxLen) (hs : cs.size = cap * size) : w.ownsRow base e size (.slice (some ⟨g, 0, none⟩) n cap) n (cs.toList.take (n * size)) :=
  ⟨by rw [List.length_take, Array.length_toList, hs]; exact Nat.min_eq_left (Nat.mul_le_mul_right _ hn), .inr ⟨g, cap, cs, rfl, hb, h, hn, hm, hs, rfl⟩⟩
theorem cell_one_at {w : World} {ad : Addr} {x : Value} (h : w.cell? ad = some x) : ∀ (j : Nat) (u : Value), [x][j]? = some u → w.cell? (ad.add j) = some u := by
  intro j u hu
  match j, hu with
  | 0, hu => simp at hu; subst hu; simpa [Addr.add] using h
theorem bfroz {W w1 : World} (hb : Keep (fun _ => False) W w1) : (∀ b o, b < W.heap.size → w1.frozen? ⟨b, o, none⟩ = W.frozen? ⟨b, o, none⟩) :=
  fun b o h => hb.frozen (p := ⟨b, o, none⟩) h id
theorem bcell {W w1 : World} (hb : Keep (fun _ => False) W w1) : (∀ b o, b < W.heap.size → w1.cell? ⟨b, o, none⟩ = W.cell? ⟨b, o, none⟩) :=
  fun b o h => hb.cell (p := ⟨b, o, none⟩) h id
theorem add_off_ (b g i : Nat) : (⟨b, g, none⟩ : Addr).add i = ⟨b, g + i, none⟩ := by
  unfold Addr.add; split <;> simp_all
theorem held3 {w w' : World} (hk : Keep (fun _ => False) w w') {a b c : Addr} {v u x : Value} (hc : w.cell? a = some v) (hd : w.cell? b = some u) (he : w.cell? c = some x) : Keep (fun _ => False) w w' ∧ w'.cell? a = some v ∧ w'.cell? b = some u ∧ w'.cell? c = some x := ⟨hk, hk.cell_some hc, hk.cell_some hd, hk.cell_some he⟩
/-- A row that is full, as a block. -/
theorem blk_of_own {w : World} {base : Nat} {e : TypeId} {size g n : Nat} {xs : List Value} (h : w.ownsRow base e size (.slice (some ⟨g, 0, none⟩) n n) n xs) : Blk w g e xs.toArray := by
  rcases h.2 with ⟨h, _⟩ | ⟨g', cap, cur, hv, _, hh, _, _, hs, ht⟩
  · cases h
  · injection hv with hv _ hc
    injection hv with hv
    injection hv with hv
    subst hv hc
    rw [← hs, ← Array.length_toList, List.take_length] at ht
    subst ht
    exact hh
/-- What is kept from the walk. -/
theorem hide {p : Prop} (h : p) : Hid p := h
end Go.Proofs.Ytnmimignbgdfgaa
