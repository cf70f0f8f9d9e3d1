/- The base: memory, data, values that bear their cells, a logic of operations and regions. -/
import Derived.Lib.ConvBytes
import Derived.WalkKit
import Derived.WalkSpells
import Derived.WalkLawsBesides
import Derived.Lib.Hide
import Derived.Deep.Draws
import Derived.Laws.AppendOwnNone
import Derived.Laws.Tables
import Derived.Maps.AppendAt
import Derived.Deep.AppendLies
import Derived.Laws.CopyRow
import Derived.Deep.LoopGhost
import Derived.Scope
import Derived.Orders
import Derived.Laws.Cells
import Derived.Laws.BytesString
namespace Go.Proofs.YtiienjjhlibopaaGreatDoor
open Go.RowKit
set_option maxRecDepth 100000
theorem Zk3 {w : World} {a : Addr} {v : Value} (h : w.cell? a = some v) : w.setCell a v = w := by
 unfold World.cell? at h
 unfold World.setCell
 congr 1
 apply Array.ext
 ·simp
 intro i h1 h2
 rw [Array.getElem_modify]
 split
 ·next e =>
  subst e
  rw [Array.getElem?_eq_getElem h2] at h
  revert h
  split
  ·next heq =>
   intro h
   injection heq with heq
   rw [heq]
   cases hs : a.spot.isSome
   ·rw [hs] at h
    simp only [Bool.false_eq_true, if_false] at h ⊢
    congr 1
    apply Array.ext
    ·simp
    intro j h3 h4
    rw [Array.getElem_setIfInBounds h4]
    split
    ·next e => subst e; rw [Array.getElem?_eq_getElem h4] at h; injection h with h; exact h.symm
    ·rfl
   ·rw [hs] at h; simp at h
  ·intro h; cases h
 ·rfl
theorem Zh1 (w : World) (a : Addr) (v v' : Value) : (w.setCell a v).setCell a v' = w.setCell a v' := by
 unfold World.setCell
 congr 1
 apply Array.ext
 ·simp
 intro i h1 h2
 simp only [Array.getElem_modify]
 split
 ·split <;> rename_i heq <;> split at heq <;> simp_all
  next h => obtain ⟨rfl, rfl, rfl⟩ := heq; split <;> simp
 ·rfl
def Blk (w : World) (g : Nat) (t : TypeId) (cs : Array Value) : Prop := w.heap[g]? = some (.cells cs t (0, 0))
structure Zdt (S : Nat -> Prop) (w w' : World) : Prop where
 os : w'.os = w.os
 tape : w'.tape = w.tape
 output : w'.output = w.output
 size : w.heap.size <= w'.heap.size
 block : ∀ k, k < w.heap.size -> ¬ S k -> w'.heap[k]? = w.heap[k]?
section
variable {w w' w'' : World} {g : Nat} {t : TypeId} {cs : Array Value} {S T : Nat -> Prop} {B : Nat}
theorem Blk.lt (h : Blk w g t cs) : g < w.heap.size := by
 unfold Blk at h
 exact (Array.getElem?_eq_some_iff.1 h).1
theorem Blk.cell (h : Blk w g t cs) (i : Nat) : w.cell? ⟨g, i, none⟩ = cs[i]? := by unfold Blk at h; simp [World.cell?, h]
theorem Blk.frozen (h : Blk w g t cs) (i : Nat) : w.frozen? ⟨g, i, none⟩ = false := by unfold Blk at h; simp [World.frozen?, h]
theorem Blk.new (w : World) (t : TypeId) (cs : Array Value) : Blk (w.alloc (.cells cs t)) w.heap.size t cs := heap_alloc_new w _
theorem Blk.put (h : Blk w g t cs) (i : Nat) (u : Value) : Blk (w.setCell ⟨g, i, none⟩ u) g t (cs.setIfInBounds i u) := by
 unfold Blk at h ⊢
 simp [World.setCell, Array.getElem?_modify, h]
theorem Blk.drew (h : Blk w g t cs) : Blk w.drew g t cs := h
theorem Blk.alloc (h : Blk w g t cs) (o : Obj) : Blk (w.alloc o) g t cs := (Below.heap_alloc w o g h.lt).trans h
theorem Zdt.refl (S : Nat -> Prop) (w : World) : Zdt S w w := ⟨rfl, rfl, rfl, Nat.le_refl _, fun _ _ _ => rfl⟩
theorem Zdt.trans (h : Zdt S w w') (k : Zdt S w' w'') : Zdt S w w'' :=
 ⟨k.os.trans h.os, k.tape.trans h.tape, k.output.trans h.output, Nat.le_trans h.size k.size,
  fun i hi hS => (k.block i (Nat.lt_of_lt_of_le hi h.size) hS).trans (h.block i hi hS)⟩
theorem Zdt.alloc (h : Zdt S w w') (o : Obj) : Zdt S w (w'.alloc o) :=
 h.trans ⟨rfl, rfl, rfl, by simp, fun k hk _ => Below.heap_alloc _ _ _ hk⟩
theorem Zdt.setCell (h : Zdt S w w') {p : Addr} (hp : S p.block) (u : Value) : Zdt S w (w'.setCell p u) :=
 h.trans ⟨rfl, rfl, rfl, by simp [World.setCell], fun k _ hS => Below.heap_setCell _ _ _ _ (fun e => hS (e ▸ hp))⟩
theorem Zdt.setNew (h : Zdt S w w') {p : Addr} (hp : w.heap.size <= p.block) (u : Value) : Zdt S w (w'.setCell p u) :=
 ⟨h.os, h.tape, h.output, by simpa [World.setCell] using h.size, fun k hk hS => (Below.heap_setCell _ _ _ _ (by omega)).trans (h.block k hk hS)⟩
theorem Zdt.put (h : Zdt S w w') (hp : S g) (i : Nat) (u : Value) : Zdt S w (w'.setCell ⟨g, i, none⟩ u) := h.setCell (p := ⟨g, i, none⟩) hp u
theorem Zdt.drew (h : Zdt S w w') : Zdt S w w'.drew := ⟨h.os, h.tape, h.output, h.size, h.block⟩
theorem Zdt.below' (h : Zdt (fun _ => False) w w') : Below w.heap.size w w' :=
 ⟨h.os, h.tape, h.output, h.size, fun k hk => h.block k hk id⟩
theorem Zdt.andThen (h : Zdt S w w') (k : Zdt T w' w'') (hT : ∀ k, k < w.heap.size -> T k -> S k) : Zdt S w w'' :=
 ⟨k.os.trans h.os, k.tape.trans h.tape, k.output.trans h.output, Nat.le_trans h.size k.size,
  fun i hi hS => (k.block i (Nat.lt_of_lt_of_le hi h.size) (fun x => hS (hT i hi x))).trans (h.block i hi hS)⟩
end
theorem Zpm (w : World) (C : Array Value) (t : TypeId) (fr : Nat × Nat) (j : Nat) : (w.alloc (.cells C t fr)).cell? ⟨w.heap.size, j, none⟩ = C[j]? := by
 unfold World.cell?
 rw [heap_alloc_new w (.cells C t fr)]
 rfl
theorem Zpn {k : IntKind} {a b : Int} (h : a = b) : Ending.returned (.int k a) = .returned (.int k b) := by rw [h]
theorem Zfg {α : Type} (rs : List α) (k : Nat) (h : k < rs.length) : rs.take (k + 1) = rs.take k ++ [rs[k]] := by
 rw [List.take_succ_eq_append_getElem h]
section
variable {P : Program} (w : World) {ops : Array Oper} {rest : List Oper} {o : Oper} {a : Act} {Q : Exit -> Act -> World -> Prop}
end
theorem Zci (b g i : Nat) : (⟨b, g, none⟩ : Addr).add i = ⟨b, g + i, none⟩ := by
 unfold Addr.add; split <;> simp_all
inductive D where
 | i (k : IntKind) (n : Int)
 | b (x : Bool)
 | s (l : List UInt8)
 | l (sz : Nat) (cells : List D)
mutual
def Rep (F : Nat -> Prop) (w : World) : D -> Value -> Prop
 | .i k n, v => v = .int k n
 | .b x, v => v = .bool x
 | .s l, v => v = .string ⟨l.toArray⟩
 | .l sz cells, v => ∃ A n c, v = .slice A n c /\ cells.length = n * sz /\ n <= c /\ c <= maxLen /\ n <= 140737488355328 /\ (A = none -> n = 0 /\ c = 0) /\ ∀ ad, A = some ad -> 0 < n -> F ad.block /\ ad.block < w.heap.size /\ Zbg F w ad 0 cells
def Zbg (F : Nat -> Prop) (w : World) (ad : Addr) : Nat -> List D -> Prop
 | _, [] => True
 | j, d :: r => (∃ v, w.cell? (ad.add j) = some v /\ Rep F w d v) /\ Zbg F w ad (j + 1) r
end
def ZeQ (F : Nat -> Prop) (w : World) : List D -> List Value -> Prop
 | [], [] => True
 | d :: ds, v :: vs => Rep F w d v /\ ZeQ F w ds vs
 | _, _ => False
theorem Addr.block_add (a : Addr) (n : Nat) : (a.add n).block = a.block := by unfold Addr.add; split <;> rfl
mutual
theorem Rep.keep {F G : Nat -> Prop} {w w' : World} : (d : D) -> {v : Value} -> Rep F w d v -> (∀ k, F k -> G k) -> w.heap.size <= w'.heap.size -> (∀ k, F k -> k < w.heap.size -> w'.heap[k]? = w.heap[k]?) -> Rep G w' d v
 | .i k n, v, h, _, _, _ => h
 | .b x, v, h, _, _, _ => h
 | .s l, v, h, _, _, _ => h
 | .l sz cells, v, h, hFG, hs, hk => by
  unfold Rep at h ⊢
  obtain ⟨A, n, c, rfl, h1, h2, h3, h3', h4, h5⟩ := h
  refine ⟨A, n, c, rfl, h1, h2, h3, h3', h4, fun ad ha hp => ?_⟩
  obtain ⟨h6, h7, h8⟩ := h5 ad ha hp
  exact ⟨hFG _ h6, by omega, Zbg.keep 0 cells h6 h7 h8 hFG hs hk⟩
theorem Zbg.keep {F G : Nat -> Prop} {w w' : World} {ad : Addr} : (j : Nat) -> (ds : List D) -> F ad.block -> ad.block < w.heap.size -> Zbg F w ad j ds -> (∀ k, F k -> G k) -> w.heap.size <= w'.heap.size -> (∀ k, F k -> k < w.heap.size -> w'.heap[k]? = w.heap[k]?) -> Zbg G w' ad j ds
 | _, [], _, _, _, _, _, _ => by unfold Zbg; trivial
 | j, d :: r, hF, hb, h, hFG, hs, hk => by
  unfold Zbg at h ⊢
  obtain ⟨⟨v, h1, h2⟩, h3⟩ := h
  refine ⟨⟨v, ?_, Rep.keep d h2 hFG hs hk⟩, Zbg.keep (j + 1) r hF hb h3 hFG hs hk⟩
  rw [World.cell?_of_block (w := w) (by rw [Addr.block_add]; exact hk _ hF hb)]
  exact h1
end
section
variable {F G : Nat -> Prop} {w w' : World} {ad : Addr}
theorem Zbg.get {j : Nat} {ds : List D} (h : Zbg F w ad j ds) {i : Nat} {d : D} (hd : ds[i]? = some d) : ∃ v, w.cell? (ad.add (j + i)) = some v /\ Rep F w d v := by
 induction ds generalizing j i with
 | nil => simp at hd
 | cons x r ih =>
  unfold Zbg at h
  cases i with
  | zero => simp at hd; subst hd; exact h.1
  | succ i =>
   simp at hd
   obtain ⟨v, hv⟩ := ih h.2 hd
   exact ⟨v, by rw [show j + (i + 1) = j + 1 + i from by omega]; exact hv⟩
theorem Zbg.mk {j : Nat} {ds : List D} (h : ∀ i d, ds[i]? = some d -> ∃ v, w.cell? (ad.add (j + i)) = some v /\ Rep F w d v) : Zbg F w ad j ds := by
 induction ds generalizing j with
 | nil => unfold Zbg; trivial
 | cons x r ih =>
  unfold Zbg
  refine ⟨h 0 x rfl, ih fun i d hd => ?_⟩
  rw [show j + 1 + i = j + (i + 1) from by omega]
  exact h (i + 1) d (by simpa using hd)
theorem Rep.keeps {S : Nat -> Prop} {d : D} {v : Value} (h : Rep F w d v) (hk : Zdt S w w') (hS : ∀ k, F k -> k < w.heap.size -> ¬ S k) : Rep F w' d v :=
 Rep.keep d h (fun _ => id) hk.size fun k hF hl => hk.block k hl (hS k hF hl)
theorem Rep.kept {d : D} {v : Value} (h : Rep F w d v) (hk : Zdt (fun _ => False) w w') : Rep F w' d v := h.keeps hk fun _ _ _ => id
theorem ZeQ.get {ds : List D} {vs : List Value} (h : ZeQ F w ds vs) {i : Nat} {d : D} (hd : ds[i]? = some d) : ∃ v, vs[i]? = some v /\ Rep F w d v := by
 induction ds generalizing vs i with
 | nil => simp at hd
 | cons x r ih => cases vs with
  | nil => simp [ZeQ] at h
  | cons v vs => cases i with
   | zero => simp at hd; subst hd; exact ⟨v, rfl, h.1⟩
   | succ i => simp at hd ⊢; exact ih h.2 hd
theorem ZeQ.append {ds es : List D} {vs us : List Value} (h : ZeQ F w ds vs) (k : ZeQ F w es us) : ZeQ F w (ds ++ es) (vs ++ us) := by
 induction ds generalizing vs with
 | nil => cases vs <;> simp_all [ZeQ]
 | cons x r ih => cases vs with
  | nil => simp [ZeQ] at h
  | cons v vs => exact ⟨h.1, ih h.2⟩
end
mutual
theorem Rep.bound {F : Nat -> Prop} {w : World} : (d : D) -> {v : Value} -> Rep F w d v -> Rep (fun k => F k /\ k < w.heap.size) w d v
 | .i k n, v, h => h
 | .b x, v, h => h
 | .s l, v, h => h
 | .l sz cells, v, h => by
  unfold Rep at h ⊢
  obtain ⟨A, n, c, rfl, h1, h2, h3, h3', h4, h5⟩ := h
  refine ⟨A, n, c, rfl, h1, h2, h3, h3', h4, fun ad ha hp => ?_⟩
  obtain ⟨h6, h7, h8⟩ := h5 ad ha hp
  exact ⟨⟨h6, h7⟩, h7, Zbg.bound 0 cells h8⟩
theorem Zbg.bound {F : Nat -> Prop} {w : World} {ad : Addr} : (j : Nat) -> (ds : List D) -> Zbg F w ad j ds -> Zbg (fun k => F k /\ k < w.heap.size) w ad j ds
 | _, [], _ => by unfold Zbg; trivial
 | j, d :: r, h => by
  unfold Zbg at h ⊢
  obtain ⟨⟨v, h1, h2⟩, h3⟩ := h
  exact ⟨⟨v, h1, Rep.bound d h2⟩, Zbg.bound (j + 1) r h3⟩
end
def D.val : D -> Value
 | .i k n => .int k n
 | .b x => .bool x
 | .s t => .string ⟨t.toArray⟩
 | .l _ _ => .bool false
def D.flat : D -> Bool
 | .l _ _ => false
 | _ => true
theorem Rep.flat_ {F : Nat -> Prop} {w : World} {d : D} {v : Value} (h : Rep F w d v) (hf : d.flat = true) : v = d.val := by
 cases d <;> simp_all [D.flat, Rep, D.val]
theorem Rep.list {F : Nat -> Prop} {w : World} {sz : Nat} {cells : List D} {v : Value} (h : Rep F w (.l sz cells) v) :
 ∃ A n c, v = .slice A n c /\ cells.length = n * sz /\ n <= c /\ c <= maxLen /\ n <= 140737488355328 /\ (A = none -> n = 0 /\ c = 0) /\ ∀ ad, A = some ad -> 0 < n -> F ad.block /\ ad.block < w.heap.size /\ ∀ j d, cells[j]? = some d -> ∃ u, w.cell? (ad.add j) = some u /\ Rep F w d u := by
 unfold Rep at h
 obtain ⟨A, n, c, rfl, h1, h2, h3, h3', h4, h5⟩ := h
 refine ⟨A, n, c, rfl, h1, h2, h3, h3', h4, fun ad ha hp => ?_⟩
 obtain ⟨h6, h7, h8⟩ := h5 ad ha hp
 exact ⟨h6, h7, fun j d hd => by have := h8.get hd; rwa [Nat.zero_add] at this⟩
theorem Rep.of_list {F : Nat -> Prop} {w : World} {sz : Nat} {cells : List D} {A : Option Addr} {n c : Nat} (h1 : cells.length = n * sz) (h2 : n <= c) (h3 : c <= maxLen) (h3' : n <= 140737488355328) (h4 : A = none -> n = 0 /\ c = 0)
 (h5 : ∀ ad, A = some ad -> 0 < n -> F ad.block /\ ad.block < w.heap.size /\ ∀ j d, cells[j]? = some d -> ∃ u, w.cell? (ad.add j) = some u /\ Rep F w d u) : Rep F w (.l sz cells) (.slice A n c) := by
 unfold Rep
 refine ⟨A, n, c, rfl, h1, h2, h3, h3', h4, fun ad ha hp => ?_⟩
 obtain ⟨h6, h7, h8⟩ := h5 ad ha hp
 exact ⟨h6, h7, Zbg.mk fun i d hd => by rw [Nat.zero_add]; exact h8 i d hd⟩
theorem Rep.at_ {F : Nat -> Prop} {w : World} {cells : List D} {A : Option Addr} {n c : Nat} (h : Rep F w (.l 1 cells) (.slice A n c)) {k : Nat} (hk : k < n) :
 ∃ ad u, A = some ad /\ F ad.block /\ ad.block < w.heap.size /\ ∃ hl : k < cells.length, w.cell? (ad.add k) = some u /\ Rep F w cells[k] u := by
 obtain ⟨A', n', c', he, h1, h2, h3, h3', h4, h5⟩ := h.list
 injection he with hA hn hc
 subst hA hn hc
 rcases A with _ | ad
 ·have := (h4 rfl).1; omega
 ·obtain ⟨h6, h7, h8⟩ := h5 ad rfl (by omega)
  have hl : k < cells.length := by omega
  obtain ⟨u, hu, hr⟩ := h8 k cells[k] (List.getElem?_eq_getElem hl)
  exact ⟨ad, u, rfl, h6, h7, hl, hu, hr⟩
theorem Rep.form {F : Nat -> Prop} {w : World} {sz : Nat} {cells : List D} {A : Option Addr} {n c : Nat} (h : Rep F w (.l sz cells) (.slice A n c)) :
 cells.length = n * sz /\ n <= c /\ c <= maxLen /\ n <= 140737488355328 /\ (A = none -> n = 0 /\ c = 0) /\ ∀ ad, A = some ad -> 0 < n -> F ad.block /\ ad.block < w.heap.size /\ ∀ (j : Nat) (d : D), cells[j]? = some d -> ∃ u, w.cell? (ad.add j) = some u /\ Rep F w d u := by
 obtain ⟨A', n', c', he, h1⟩ := h.list
 injection he with hA hn hc
 subst hA hn hc
 exact h1
def vB (b : UInt8) : Value := .int .u8 (b.toNat : Int)
def dB (b : UInt8) : D := .i .u8 (b.toNat : Int)
def Zf6 (l : List UInt8) : D := .l 1 (l.map dB)
theorem Zpo (l : List UInt8) : ∀ d ∈ l.map dB, d.flat = true := by intro d hd; simp only [List.mem_map] at hd; obtain ⟨b, _, rfl⟩ := hd; rfl
theorem Rep.bytes_len {F : Nat -> Prop} {w : World} {l : List UInt8} {A : Option Addr} {n c : Nat} (h : Rep F w (Zf6 l) (.slice A n c)) : l.length = n := by simpa using h.form.1
theorem Rep.bytes_at {F : Nat -> Prop} {w : World} {l : List UInt8} {A : Option Addr} {n c : Nat} (h : Rep F w (Zf6 l) (.slice A n c)) {k : Nat} (hk : k < n) :
 ∃ ad, A = some ad /\ F ad.block /\ ad.block < w.heap.size /\ ∃ hl : k < l.length, w.cell? (ad.add k) = some (.int .u8 (l[k].toNat : Int)) := by
 obtain ⟨ad, u, rfl, h1, h2, h3, h4, h5⟩ := h.at_ hk
 have hl := h.bytes_len
 refine ⟨ad, rfl, h1, h2, by omega, ?_⟩
 rw [h4, h5.flat_ (Zpo l _ (List.getElem_mem _))]
 simp [dB, D.val]
def ZiE (l : List (List UInt8)) : D := .l 1 (l.map Zf6)
theorem Addr.add_add (a : Addr) (i j : Nat) : (a.add i).add j = a.add (i + j) := by
 unfold Addr.add
 by_cases hi : i = 0 <;> by_cases hj : j = 0 <;> simp [hi, hj, Nat.add_assoc]
end Go.Proofs.YtiienjjhlibopaaGreatDoor
namespace Go.Proofs.YtiienjjhlibopaaGreatDoor
open Go.RowKit
set_option maxRecDepth 100000
set_option linter.unusedVariables false
inductive AV where
 | raw (v : Value)
 | lst (A : Option Addr) (n c : Nat) (cells : List AV)
 | eptr (ad : Addr) (cells : List AV)
 | agg (l : List AV)
 | tup (l : List AV)
 | mp (b : Nat) (ks : List Value) (vs : List AV)
instance : Inhabited AV := ⟨.raw undef⟩
mutual
def AV.val : AV -> Value
 | .raw v => v
 | .lst A n c _ => .slice A n c
 | .eptr ad _ => .pointer (some ad)
 | .agg l => .agg (AV.vals l).toArray
 | .tup l => .tuple (AV.vals l).toArray
 | .mp b _ _ => .map (some b)
def AV.vals : List AV -> List Value
 | [] => []
 | a :: l => a.val :: AV.vals l
end
theorem AV.vals_map (l : List AV) : AV.vals l = l.map AV.val := by
 induction l with
 | nil => simp [AV.vals]
 | cons a l ih => simp [AV.vals, ih]
@[simp] theorem AV.val_raw (v : Value) : (AV.raw v).val = v := by simp [AV.val]
@[simp] theorem AV.val_lst (A : Option Addr) (n c : Nat) (l : List AV) : (AV.lst A n c l).val = .slice A n c := by simp [AV.val]
@[simp] theorem AV.val_eptr (a : Addr) (l : List AV) : (AV.eptr a l).val = .pointer (some a) := by simp [AV.val]
@[simp] theorem AV.val_agg (l : List AV) : (AV.agg l).val = .agg (l.map AV.val).toArray := by simp [AV.val, AV.vals_map]
@[simp] theorem AV.val_mp (b : Nat) (ks : List Value) (l : List AV) : (AV.mp b ks l).val = .map (some b) := by simp [AV.val]
@[simp] theorem AV.val_tup (l : List AV) : (AV.tup l).val = .tuple (l.map AV.val).toArray := by simp [AV.val, AV.vals_map]
def AV.ofV1 : Value -> AV
 | .slice none 0 0 => .lst none 0 0 []
 | v => .raw v
@[simp] theorem AV.val_ofV1 (v : Value) : (AV.ofV1 v).val = v := by
 unfold AV.ofV1
 split <;> simp
def AV.ofV : Value -> AV
 | .agg cs => .agg (cs.toList.map AV.ofV1)
 | v => AV.ofV1 v
@[simp] theorem AV.val_ofV (v : Value) : (AV.ofV v).val = v := by
 unfold AV.ofV
 split <;> simp [Function.comp_def]
def AV.cells : AV -> List AV
 | .agg l => l
 | .raw (.agg cs) => cs.toList.map AV.ofV1
 | v => [v]
def AV.one : AV -> Bool
 | .raw v => v.oneCell'
 | .lst _ _ _ _ => true
 | .eptr _ _ => true
 | _ => false
theorem AV.one_val {a : AV} (h : a.one = true) : a.val.oneCell' = true := by
 cases a <;> simp_all [AV.one, Value.oneCell']
theorem AV.cells_val (a : AV) : a.cells.map AV.val = a.val.cells.toList := by
 cases a with
 | raw v => cases v <;> simp [AV.cells, Value.cells, Function.comp_def]
 | lst A n c l => simp [AV.cells, Value.cells]
 | eptr ad l => simp [AV.cells, Value.cells]
 | agg l => simp [AV.cells, Value.cells]
 | tup l => simp [AV.cells, Value.cells]
 | mp b ks l => simp [AV.cells, Value.cells]
inductive Bk where
 | own (t : TypeId) (cells : List AV)
 | tail (t : TypeId) (k s : Nat)
 | map (es : List (Value × Value))
structure St where
 blk : Nat -> Option Bk
 used : Nat -> Prop
 fin : ∃ n, ∀ b, n <= b -> ¬ used b /\ blk b = none
def St.free (σ : St) (Z : Nat -> Prop) (b o : Nat) : Prop := ¬ Z b /\ σ.used b /\ match σ.blk b with
 | none => True
 | some (.own _ _) => False
 | some (.tail _ k _) => o < k
 | some (.map _) => False
mutual
def Zar (w : World) (B : Nat -> Nat -> Prop) : AV -> Prop
 | .raw _ => True
 | .lst A n c cells => n <= c /\ (A = none -> n = 0 /\ c = 0 /\ cells = []) /\ ∀ ad, A = some ad -> ZaS w B ad 0 cells
 | .eptr ad cells => ZaS w B ad 0 cells
 | .agg l => ZaY w B l
 | .tup l => ZaY w B l
 | .mp b ks vs => (∀ o, B b o) /\ (∃ es c, w.heap[b]? = some (.map es c) /\ es.toList.map (·.key) = ks /\ es.toList.map (·.val) = AV.vals vs) /\ ZaY w B vs
def ZaS (w : World) (B : Nat -> Nat -> Prop) (ad : Addr) : Nat -> List AV -> Prop
 | _, [] => True
 | j, d :: r => (w.cell? (ad.add j) = some d.val /\ B ad.block (ad.off + j) /\ Zar w B d) /\ ZaS w B ad (j + 1) r
def ZaY (w : World) (B : Nat -> Nat -> Prop) : List AV -> Prop
 | [] => True
 | d :: r => Zar w B d /\ ZaY w B r
end
section
variable {w w' w'' : World} {B B' : Nat -> Nat -> Prop} {σ σ' σ'' : St} {Z Z' : Nat -> Prop}
theorem ZaY.iff {l : List AV} : ZaY w B l ↔ ∀ a ∈ l, Zar w B a := by
 induction l with
 | nil => simp [ZaY]
 | cons a l ih => simp [ZaY, ih]
theorem ZaS.get {ad : Addr} {j : Nat} {l : List AV} (h : ZaS w B ad j l) {i : Nat} {d : AV} (hd : l[i]? = some d) :
 w.cell? (ad.add (j + i)) = some d.val /\ B ad.block (ad.off + (j + i)) /\ Zar w B d := by
 induction l generalizing j i with
 | nil => simp at hd
 | cons x r ih =>
  unfold ZaS at h
  cases i with
  | zero => simp at hd; subst hd; exact h.1
  | succ i =>
   have := ih h.2 (i := i) (by simpa using hd)
   rwa [show j + 1 + i = j + (i + 1) from by omega] at this
theorem ZaS.mk {ad : Addr} {j : Nat} {l : List AV} (h : ∀ i d, l[i]? = some d -> w.cell? (ad.add (j + i)) = some d.val /\ B ad.block (ad.off + (j + i)) /\ Zar w B d) : ZaS w B ad j l := by
 induction l generalizing j with
 | nil => unfold ZaS; trivial
 | cons x r ih =>
  unfold ZaS
  refine ⟨h 0 x rfl, ih fun i d hd => ?_⟩
  rw [show j + 1 + i = j + (i + 1) from by omega]
  exact h (i + 1) d (by simpa using hd)
mutual
theorem Zar.keep (hc : ∀ (a : Addr) (v : Value), w.cell? a = some v -> B a.block a.off -> w'.cell? a = some v /\ B' a.block a.off) (hm : ∀ b es c, w.heap[b]? = some (.map es c) -> (∀ o, B b o) -> w'.heap[b]? = some (.map es c) /\ ∀ o, B' b o) : (a : AV) -> Zar w B a -> Zar w' B' a
 | .raw _, _ => by unfold Zar; trivial
 | .lst A n c cells, h => by
  unfold Zar at h ⊢
  exact ⟨h.1, h.2.1, fun ad e => ZaS.keep hc hm ad 0 cells (h.2.2 ad e)⟩
 | .eptr ad cells, h => by unfold Zar at h ⊢; exact ZaS.keep hc hm ad 0 cells h
 | .agg l, h => by unfold Zar at h ⊢; exact ZaY.keep hc hm l h
 | .tup l, h => by unfold Zar at h ⊢; exact ZaY.keep hc hm l h
 | .mp b ks vs, h => by
  unfold Zar at h ⊢
  obtain ⟨h1, ⟨es, c, h2, h3, h4⟩, h5⟩ := h
  obtain ⟨k1, k2⟩ := hm b es c h2 h1
  exact ⟨k2, ⟨es, c, k1, h3, h4⟩, ZaY.keep hc hm vs h5⟩
theorem ZaS.keep (hc : ∀ (a : Addr) (v : Value), w.cell? a = some v -> B a.block a.off -> w'.cell? a = some v /\ B' a.block a.off) (hm : ∀ b es c, w.heap[b]? = some (.map es c) -> (∀ o, B b o) -> w'.heap[b]? = some (.map es c) /\ ∀ o, B' b o) (ad : Addr) : (j : Nat) -> (l : List AV) -> ZaS w B ad j l -> ZaS w' B' ad j l
 | _, [], _ => by unfold ZaS; trivial
 | j, d :: r, h => by
  unfold ZaS at h ⊢
  obtain ⟨⟨h1, h2, h3⟩, h4⟩ := h
  have hb : (ad.add j).block = ad.block := by unfold Addr.add; split <;> rfl
  have ho : (ad.add j).off = ad.off + j := by unfold Addr.add; split <;> simp_all
  have := hc (ad.add j) d.val h1 (by rw [hb, ho]; exact h2)
  rw [hb, ho] at this
  exact ⟨⟨this.1, this.2, Zar.keep hc hm d h3⟩, ZaS.keep hc hm ad (j + 1) r h4⟩
theorem ZaY.keep (hc : ∀ (a : Addr) (v : Value), w.cell? a = some v -> B a.block a.off -> w'.cell? a = some v /\ B' a.block a.off) (hm : ∀ b es c, w.heap[b]? = some (.map es c) -> (∀ o, B b o) -> w'.heap[b]? = some (.map es c) /\ ∀ o, B' b o) : (l : List AV) -> ZaY w B l -> ZaY w' B' l
 | [], _ => by unfold ZaY; trivial
 | d :: r, h => by unfold ZaY at h ⊢; exact ⟨Zar.keep hc hm d h.1, ZaY.keep hc hm r h.2⟩
end
theorem Zar.sub (hB : ∀ b o, B b o -> B' b o) {a : AV} (h : Zar w B a) : Zar w B' a := Zar.keep (fun _ _ h1 h2 => ⟨h1, hB _ _ h2⟩) (fun _ _ _ h1 h2 => ⟨h1, fun o => hB _ _ (h2 o)⟩) a h
def ZqS (a : Array MapEntry) (c : Nat) (es : List (Value × Value)) : Prop :=
 (a.toList.map fun e : MapEntry => (e.key, e.val)) = es /\ (∀ n ∈ a.toList.map fun e : MapEntry => e.born, n < c) /\ (a.toList.map fun e : MapEntry => e.born).Nodup
def ZlN : List (Value × Value) -> Nat
 | (.map none, _) :: _ => 1
 | (.map (some _), _) :: _ => 2
 | _ => 0
def Zr3 (a : Array MapEntry) (c : Nat) : List (Value × Value) := (.map none, .int .i64 (c : Int)) :: a.toList.map fun e : MapEntry => (e.key, .agg #[e.val, .int .i64 (e.born : Int)])
def Zs3 (m since : Nat) (seen : Array Nat) (last : Nat) : List (Value × Value) := (.map (some m), .agg #[.int .i64 (since : Int), .int .i64 (last : Int)]) :: seen.toList.map fun n : Nat => (.int .i64 (n : Int), .int .i64 0)
def ZqT : Obj -> List (Value × Value) -> Prop
 | .map a c, es => (ZlN es = 0 /\ ZqS a c es) \/ es = Zr3 a c
 | .mapIter (some m) since seen last, es => es = Zs3 m since seen last
 | _, _ => False
structure ZaG (w : World) (σ : St) (Z : Nat -> Prop) : Prop where
 used : ∀ b, σ.used b -> b < w.heap.size
 z : ∀ b, Z b -> b < w.heap.size /\ σ.blk b = none
 own : ∀ b t cs, σ.blk b = some (.own t cs) -> σ.used b /\ w.heap[b]? = some (.cells (cs.map AV.val).toArray t (0, 0)) /\ ∀ c ∈ cs, Zar w (σ.free Z) c
 tail : ∀ b t k s, σ.blk b = some (.tail t k s) -> σ.used b /\ ∃ cs : Array Value, w.heap[b]? = some (.cells cs t (0, 0)) /\ cs.size = s /\ k <= s
 map : ∀ b es, σ.blk b = some (.map es) -> σ.used b /\ ∃ (o : Obj) (_ : Unit), w.heap[b]? = some o /\ ZqT o es
theorem ZaG.mapAt {w : World} {σ : St} {Z : Nat -> Prop} (h : ZaG w σ Z) {b : Nat} {es : List (Value × Value)} (hb : σ.blk b = some (.map es)) (ht : ZlN es = 0) : σ.used b /\ ∃ a c, w.heap[b]? = some (.map a c) /\ ZqS a c es := by
 obtain ⟨h1, o, _, h2, h3⟩ := h.map _ _ hb
 refine ⟨h1, ?_⟩
 unfold ZqT at h3
 split at h3
 ·rcases h3 with ⟨_, h3⟩ | rfl
  ·exact ⟨_, _, h2, h3⟩
  ·cases ht
 ·subst h3
  cases ht
 ·exact h3.elim
structure Grow (w : World) (σ : St) (w' : World) (σ' : St) : Prop where
 os : w'.os = w.os
 tape : w'.tape = w.tape
 output : w'.output = w.output
 size : w.heap.size <= w'.heap.size
 used : ∀ b, b < w.heap.size -> σ'.used b -> σ.used b
 rest : ∀ b, b < w.heap.size -> σ.blk b = none -> w'.heap[b]? = w.heap[b]? /\ σ'.blk b = none
 tail : ∀ b t k s, b < w.heap.size -> σ.blk b = some (.tail t k s) -> (∀ j v, j < k -> w.cell? ⟨b, j, none⟩ = some v -> w'.cell? ⟨b, j, none⟩ = some v) /\ (σ'.blk b = none \/ ∃ t' k' s', σ'.blk b = some (.tail t' k' s') /\ k <= k')
 more : ∀ b, σ.used b -> σ'.used b
theorem Grow.refl (w : World) (σ : St) : Grow w σ w σ := ⟨rfl, rfl, rfl, Nat.le_refl _, fun _ _ h => h, fun _ _ h => ⟨rfl, h⟩, fun b t k s _ h => ⟨fun _ _ _ h => h, .inr ⟨t, k, s, h, Nat.le_refl _⟩⟩, fun _ h => h⟩
theorem Grow.trans (h : Grow w σ w' σ') (k : Grow w' σ' w'' σ'') : Grow w σ w'' σ'' := by
 refine ⟨k.os.trans h.os, k.tape.trans h.tape, k.output.trans h.output, Nat.le_trans h.size k.size, fun b hb hu => h.used b hb (k.used b (Nat.lt_of_lt_of_le hb h.size) hu), fun b hb hn => ?_, fun b t j s hb ht => ?_, fun b hu => k.more b (h.more b hu)⟩
 ·obtain ⟨h1, h2⟩ := h.rest b hb hn
  obtain ⟨h3, h4⟩ := k.rest b (Nat.lt_of_lt_of_le hb h.size) h2
  exact ⟨h3.trans h1, h4⟩
 ·obtain ⟨h1, h2⟩ := h.tail b t j s hb ht
  rcases h2 with h2 | ⟨t', k', s', h2, hle⟩
  ·obtain ⟨h3, h4⟩ := k.rest b (Nat.lt_of_lt_of_le hb h.size) h2
   refine ⟨fun i v hi hv => ?_, .inl h4⟩
   rw [World.cell?_of_block (w := w') h3]
   exact h1 i v hi hv
  ·obtain ⟨h3, h4⟩ := k.tail b t' k' s' (Nat.lt_of_lt_of_le hb h.size) h2
   refine ⟨fun i v hi hv => h3 i v (by omega) (h1 i v hi hv), ?_⟩
   rcases h4 with h4 | ⟨t2, k2, s2, h4, hle2⟩
   ·exact .inl h4
   ·exact .inr ⟨t2, k2, s2, h4, by omega⟩
theorem Grow.valid (h : Grow w σ w' σ') {a : AV} (hv : Zar w (σ.free Z) a) : Zar w' (σ'.free Z) a := by
 refine Zar.keep ?_ ?_ a hv
 rotate_left
 ·intro b es c hb hf
  obtain ⟨hz, hu, h0⟩ := hf 0
  have hl : b < w.heap.size := by
   rcases Nat.lt_or_ge b w.heap.size with h | h
   ·exact h
   ·rw [Array.getElem?_eq_none h] at hb; cases hb
  have hn : σ.blk b = none := by
   cases hq : σ.blk b with
   | none => rfl
   | some x =>
    exfalso
    cases x with
    | own t cs => rw [hq] at h0; exact h0
    | tail t k s =>
     have := (hf k).2.2
     rw [hq] at this
     exact Nat.lt_irrefl _ this
    | map es => rw [hq] at h0; exact h0
  obtain ⟨h1, h2⟩ := h.rest b hl hn
  refine ⟨h1.trans hb, fun o => ⟨hz, h.more b hu, ?_⟩⟩
  rw [h2]
  trivial
 intro ad v hc hf
 have hl : ad.block < w.heap.size := World.block_lt_of_cell? w ad hc
 have hsp : ad.spot = none := World.cell?_spot hc
 obtain ⟨b, o, spot⟩ := ad
 dsimp only at hsp hl hf ⊢
 subst hsp
 unfold St.free at hf ⊢
 obtain ⟨hz, hu, hf⟩ := hf
 have hu := h.more b hu
 cases hb : σ.blk b with
 | none =>
  obtain ⟨h1, h2⟩ := h.rest b hl hb
  rw [World.cell?_of_block (w := w) (a := ⟨b, o, none⟩) h1, h2]
  exact ⟨hc, hz, hu, trivial⟩
 | some x =>
  rw [hb] at hf
  cases x with
  | own t cs => exact hf.elim
  | map es => exact hf.elim
  | tail t k s =>
   obtain ⟨h1, h2⟩ := h.tail b t k s hl hb
   refine ⟨h1 o v hf hc, hz, hu, ?_⟩
   rcases h2 with h2 | ⟨t', k', s', h2, hle⟩
   ·rw [h2]; trivial
   ·rw [h2]; exact Nat.lt_of_lt_of_le hf hle
end
end Go.Proofs.YtiienjjhlibopaaGreatDoor
namespace Go.Proofs.YtiienjjhlibopaaGreatDoor
open Go.RowKit
set_option maxRecDepth 100000
set_option linter.unusedVariables false
def ZaU (P : Program) (t : TypeId) : Option Nat := (P.info? t).map (·.size)
def Zba (P : Program) (t : TypeId) : Option Value := (P.info? t).bind (·.zero)
def ZdB (P : Program) (t : TypeId) : Option Bool := (P.underlying t).map fun d => match d with | .struct _ | .array _ _ => true | _ => false
def ZaW (P : Program) (t : TypeId) : Option TypeId := match P.underlying t with | some (.slice e) => some e | _ => none
def Za3 (P : Program) (t : TypeId) : Option (List (Nat × Option Nat × Option Bool)) := match P.underlying t with
 | some (.struct fs) => some (fs.toList.map fun f => (f.offset, ZaU P f.type, ZdB P f.type))
 | _ => none
def ZbX (P : Program) (f : FuncId) : Bool := match P.funcs[f]? with
 | some fn => fn.body.isSome && fn.name != "runtime.NumGoroutine"
 | none => false
def St.put (σ : St) (b : Nat) (k : Bk) : St := ⟨fun x => if x = b then some k else σ.blk x, fun x => σ.used x \/ x = b, by
 obtain ⟨n, h⟩ := σ.fin
 refine ⟨n + b + 1, fun x hx => ?_⟩
 obtain ⟨h1, h2⟩ := h x (by omega)
 have hne : x ≠ b := by omega
 exact ⟨fun hu => hu.elim h1 hne, by rw [if_neg hne]; exact h2⟩⟩
def St.set (σ : St) (b : Nat) (k : Bk) : St := ⟨fun x => if x = b then some k else σ.blk x, σ.used, by
 obtain ⟨n, h⟩ := σ.fin
 refine ⟨n + b + 1, fun x hx => ?_⟩
 obtain ⟨h1, h2⟩ := h x (by omega)
 have hne : x ≠ b := by omega
 exact ⟨h1, by rw [if_neg hne]; exact h2⟩⟩
theorem St.ext' {σ τ : St} (h1 : ∀ b, σ.blk b = τ.blk b) (h2 : ∀ b, σ.used b ↔ τ.used b) : σ = τ := by
 obtain ⟨a, b, c⟩ := σ
 obtain ⟨a', b', c'⟩ := τ
 obtain rfl : a = a' := funext h1
 obtain rfl : b = b' := funext fun x => propext (h2 x)
 rfl
def ptr (b : Nat) (o : Nat) : AV := .raw (.pointer (some ⟨b, o, none⟩))
def Zk4 (P : Program) (f : FuncId) (vals : Array Value) (w : World) (Q : Ending -> World -> Prop) : Prop :=
 (ZbX P f = true /\ Calls P f vals w Q) \/ ∃ v w', (callFunc f vals).run P w = .ok (.value v) w' /\ Q (.returned v) w'
theorem Zk4.mono {P : Program} {f : FuncId} {vals : Array Value} {w : World} {Q Q' : Ending -> World -> Prop} (h : Zk4 P f vals w Q) (hq : ∀ e w', Q e w' -> Q' e w') : Zk4 P f vals w Q' := by
 rcases h with ⟨h1, h2⟩ | ⟨v, w', h1, h2⟩
 ·exact .inl ⟨h1, h2.mono hq⟩
 ·exact .inr ⟨v, w', h1, hq _ _ h2⟩
def Zan (P : Program) (f : FuncId) (args : List AV) (σ : St) (Q : AV -> St -> Prop) : Prop :=
 ∀ w Z, ZaG w σ Z -> (∀ a ∈ args, Zar w (σ.free Z) a) ->
  Zk4 P f (args.map AV.val).toArray w fun e w' => ∃ r σ', e = .returned r.val /\ Q r σ' /\ ZaG w' σ' Z /\ Zar w' (σ'.free Z) r /\ Grow w σ w' σ'
abbrev Env := Nat -> AV
def Env.put (env : Env) (d : Option Nat) (v : AV) : Env := match d with
 | some d => fun i => if i = d then v else env i
 | none => env
def ev (env : Env) : Operand -> AV
 | .tmp t => env t
 | .const v => .ofV v
 | .global g => ptr g 0
 | .func f => .raw (.func (.func f) #[] #[])
def ZdC (P : Program) (o : Oper) (vs : List AV) (v : Value) : Prop :=
 ∀ ρ : Operand -> Value, o.op.operands.toList.map ρ = vs.map AV.val -> ∀ w (B : Nat -> Nat -> Prop), (∀ q ∈ vs, Zar w B q) -> (execOp ρ o).run P w = .ok (.value v) w
inductive Kd where
 | pure | load | alloc | row | call | store | exec
 deriving DecidableEq
def ZbA (o : Oper) : Kd := match o.op with
 | .move _ | .assign _ | .pick _ _ _ | .build _ _ | .nilCheck _ | .binOp _ _ _ _ _ | .unOp _ _ _ | .convert _ _ _ | .slice _ _ _ _ _ | .fieldAddr _ _ _ | .field _ _ _ | .indexAddr _ _ _ | .index _ _ _ | .extract _ _ | .makeFunc _ _ _ => .pure
 | .load _ _ => .load
 | .alloc _ | .box _ _ => .alloc
 | .buildSlice _ _ _ => .row
 | .call c => match c.callee with
  | .value _ => .call
  | .builtin .len | .builtin .cap | .builtin .min | .builtin .max => .pure
  | _ => .exec
 | .store _ _ _ => .store
 | _ => .exec
def ZbC (o : Oper) : Bool := match ZbA o with
 | .call | .store | .exec => true
 | _ => false
def ZgD (P : Program) (o : Oper) (vs : List AV) (σ : St) (K : AV -> St -> Prop) : Prop :=
 ∀ ρ : Operand -> Value, o.op.operands.toList.map ρ = vs.map AV.val -> ∀ w Z, ZaG w σ Z -> (∀ v ∈ vs, Zar w (σ.free Z) v) ->
  ∃ r σ' w', ((execOp ρ o).run P w = .ok (.value r.val) w' \/ (execOp ρ o).run P w = .ok .skip w' /\ r = .raw undef) /\ K r σ' /\ ZaG w' σ' Z /\ Zar w' (σ'.free Z) r /\ Grow w σ w' σ'
def Zbh : AV -> Bool
 | .tup _ => false
 | _ => true
def Zbi (t : Option Bool) (n : Option Nat) (cells : List AV) (o : Nat) : Option AV := match t, n with
 | some true, some n => if o + n <= cells.length then some (.agg ((cells.drop o).take n)) else none
 | some false, some _ => cells[o]?
 | _, _ => none
def ZbU (P : Program) (t : TypeId) (σ : St) : AV -> Option AV
 | .raw (.pointer (some ⟨b, o, none⟩)) => match σ.blk b with
  | some (.own _ cs) => Zbi (ZdB P t) (ZaU P t) cs o
  | _ => none
 | .eptr _ cells => Zbi (ZdB P t) (ZaU P t) cells 0
 | _ => none
def ZaR (cs : List AV) (o : Nat) (xs : List AV) : List AV := cs.take o ++ xs ++ cs.drop (o + xs.length)
def Zfh (P : Program) (t : TypeId) (σ : St) (b o : Nat) (x : AV) : Option St := match σ.blk b, ZaU P t with
 | some (.own e cs), some n => if Zbh x && x.cells.length == n && x.cells.all AV.one && o + n <= cs.length then some (σ.set b (.own e (ZaR cs o x.cells))) else none
 | _, _ => none
def ZgE (P : Program) (t : TypeId) (σ : St) (a x : AV) : Option St := match a with
 | .raw (.pointer (some ⟨b, o, none⟩)) => Zfh P t σ b o x
 | _ => none
def Zcz (place : Nat -> Option (Nat × Nat)) (cells : List AV) : List (Nat × AV) -> Option (List AV)
 | [] => some cells
 | (i, v) :: rest => match place i with
  | none => none
  | some (off, size) => if !Zbh v || v.cells.length ≠ size || off + v.cells.length > cells.length then none else Zcz place (ZaR cells off v.cells) rest
def ZbE (P : Program) (t : TypeId) : Option (List (Nat × Nat)) := match P.underlying t with
 | some (.struct fields) => fields.toList.mapM (fun f => (P.info? f.type).map fun i => (f.offset, i.size))
 | _ => none
def Zh2 : AV -> Bool
 | .eptr _ _ => true
 | .raw (.pointer (some _)) => true
 | .raw (.func (.func _) _ _) => true
 | _ => false
def Zcs (n c : Nat) (lo hi mx : Bool) (ix : List AV) (l h m : Nat) : Prop :=
 match lo, hi, mx, ix with
 | false, false, false, [] => l = 0 /\ h = n /\ m = c
 | true, false, false, [x] => (∃ k, x.val = .int k l) /\ h = n /\ m = c
 | false, true, false, [y] => l = 0 /\ (∃ k, y.val = .int k h) /\ m = c
 | true, true, false, [x, y] => (∃ k, x.val = .int k l) /\ (∃ k, y.val = .int k h) /\ m = c
 | false, true, true, [y, z] => l = 0 /\ (∃ k, y.val = .int k h) /\ (∃ k, z.val = .int k m)
 | true, true, true, [x, y, z] => (∃ k, x.val = .int k l) /\ (∃ k, y.val = .int k h) /\ (∃ k, z.val = .int k m)
 | _, _, _, _ => False
def Zc6 (P : Program) (o : Oper) (vs : List AV) (σ : St) (K : AV -> St -> Prop) : Prop :=
 match o.op, vs with
 | .move _, [x] => K x σ
 | .assign _, [x] => K x σ
 | .pick _ _ _, [c, a, b] => ∃ t, c.val = .bool t /\ K (if t then a else b) σ
 | .alloc e, [] => ∃ z, Zba P e = some z /\ ∀ b, ¬ σ.used b -> σ.blk b = none -> K (ptr b 0) (σ.put b (.own e (AV.ofV z).cells))
 | .box e _, [x] => ∀ b, ¬ σ.used b -> σ.blk b = none -> K (ptr b 0) (σ.put b (.own e x.cells))
 | .build t parts, vs => ∃ z pl cells, Zba P t = some z /\ ZbE P t = some pl /\ Zcz (fun i => pl[i]?) (AV.ofV z).cells ((parts.toList.map (·.1)).zip vs) = some cells /\ K (.agg cells) σ
 | .buildSlice t n parts, vs => ∃ e sz z cells, ZaW P t = some e /\ ZaU P e = some sz /\ Zba P e = some z /\ z.cells.size = sz /\ n * sz <= 16777216 /\
  Zcz (fun i => some (i * sz, sz)) ((List.range (n * sz)).map fun i => .ofV (z.cells[i % sz]!)) ((parts.toList.map (·.1)).zip vs) = some cells /\
  ∀ b, ¬ σ.used b -> σ.blk b = none -> K (.lst (some ⟨b, 0, none⟩) n n cells) (σ.put b (.tail e (n * sz) (n * sz)))
 | .load t _, [a] => ∃ r, ZbU P t σ a = some r /\ K r σ
 | .store t _ _, [a, x] => ∃ σ', ZgE P t σ a x = some σ' /\ K (.raw undef) σ'
 | .nilCheck _, [x] => Zh2 x = true /\ K x σ
 | .extract _ i, [.tup l] => ∃ r, l[i]? = some r /\ K r σ
 | .fieldAddr t _ f, [.eptr ad cells] => ∃ l off n g, Za3 P t = some l /\ l[f]? = some (off, some (n + 1), g) /\ K (.eptr (ad.add off) (cells.drop off)) σ
 | .fieldAddr t _ f, [.raw (.pointer (some ad))] => ∃ l off n g, Za3 P t = some l /\ l[f]? = some (off, some (n + 1), g) /\ K (.raw (.pointer (some (ad.add off)))) σ
 | .field t _ f, [.agg cells] => ∃ l off n g r, Za3 P t = some l /\ l[f]? = some (off, n, g) /\ Zbi g n cells off = some r /\ K r σ
 | .indexAddr t _ _, [.lst (some ad) n c cells, i] => ∃ (e : TypeId) (sz : Nat) (k : IntKind) (j : Nat), ZaW P t = some e /\ ZaU P e = some sz /\ i.val = .int k j /\ j < n /\ K (.eptr (ad.add (j * sz)) (cells.drop (j * sz))) σ
 | .slice t _ lo hi mx, x :: ix => match x with
  | .lst A n c cells => ∃ e sz, ZaW P t = some e /\ ZaU P e = some sz /\ ∃ l h m, Zcs n c lo.isSome hi.isSome mx.isSome ix l h m /\ l <= h /\ h <= m /\ m <= c /\
   K (.lst (if m = l then A else A.map (·.add (l * sz))) (h - l) (m - l) (if m = l then [] else cells.drop (l * sz))) σ
  | _ => ∃ v, ZdC P o vs v /\ K (.raw v) σ
 | .call c, vs => match c.callee, vs with
  | .value _, f :: args => ∃ g first cap, f.val = .func (.func g) first cap /\ Zan P g (first.toList.map .raw ++ args ++ cap.toList.map .raw) σ K
  | _, _ => (∃ v, ZdC P o vs v /\ K (.raw v) σ) \/ (ZbA o = .exec /\ ZgD P o vs σ K)
 | _, _ => (∃ v, ZdC P o vs v /\ K (.raw v) σ) \/ (ZbA o = .exec /\ ZgD P o vs σ K)
end Go.Proofs.YtiienjjhlibopaaGreatDoor
namespace Go.Proofs.YtiienjjhlibopaaGreatDoor
open Go.RowKit
set_option maxRecDepth 100000
set_option linter.unusedVariables false
section
variable {P : Program} {w : World} {σ : St} {Z : Nat -> Prop}
theorem ZaG.fresh (h : ZaG w σ Z) : ¬ σ.used w.heap.size /\ σ.blk w.heap.size = none := by
 refine ⟨fun hu => Nat.lt_irrefl _ (h.used _ hu), ?_⟩
 cases hb : σ.blk w.heap.size with
 | none => rfl
 | some x =>
  exfalso
  cases x with
  | own t cs => exact Nat.lt_irrefl _ (h.used _ (h.own _ _ _ hb).1)
  | tail t k s => exact Nat.lt_irrefl _ (h.used _ (h.tail _ _ _ _ hb).1)
  | map es => exact Nat.lt_irrefl _ (h.used _ (h.map _ _ hb).1)
theorem Grow.alloc (h : ZaG w σ Z) (o : Obj) (k : Bk) : Grow w σ (w.alloc o) (σ.put w.heap.size k) := by
 refine ⟨rfl, rfl, rfl, by simp, fun b hb hu => ?_, fun b hb hn => ⟨Below.heap_alloc _ _ _ hb, ?_⟩, fun b t k s hb ht => ⟨fun j v _ hv => ?_, .inr ⟨t, k, s, ?_, Nat.le_refl _⟩⟩, fun b hu => .inl hu⟩
 ·rcases hu with hu | rfl
  ·exact hu
  ·exact absurd hb (Nat.lt_irrefl _)
 ·show (if b = w.heap.size then _ else σ.blk b) = _
  rw [if_neg (by omega)]
  exact hn
 ·rw [World.cell?_of_block (w := w) (Below.heap_alloc _ _ _ hb)]
  exact hv
 ·show (if b = w.heap.size then _ else σ.blk b) = _
  rw [if_neg (by omega)]
  exact ht
theorem ZaG.alloc_own (h : ZaG w σ Z) (t : TypeId) (cs : List AV) (hv : ∀ c ∈ cs, Zar w (σ.free Z) c) :
 ZaG (w.alloc (.cells (cs.map AV.val).toArray t)) (σ.put w.heap.size (.own t cs)) Z := by
 have hg := Grow.alloc h (.cells (cs.map AV.val).toArray t) (.own t cs)
 refine ⟨fun b hu => ?_, fun b hz => ?_, fun b t' cs' hb => ?_, fun b t' k s hb => ?_, fun b es hb => ?_⟩
 ·simp only [World.size_alloc]
  rcases hu with hu | rfl
  ·have := h.used _ hu; omega
  ·omega
 ·obtain ⟨h1, h2⟩ := h.z _ hz
  refine ⟨by simp only [World.size_alloc]; omega, ?_⟩
  show (if b = w.heap.size then _ else σ.blk b) = _
  rw [if_neg (by omega)]
  exact h2
 ·change (if b = w.heap.size then some (Bk.own t cs) else σ.blk b) = _ at hb
  split at hb
  ·rename_i e
   injection hb with hb
   injection hb with e1 e2
   subst e1 e2 e
   exact ⟨.inr rfl, heap_alloc_new _ _, fun c hc => hg.valid (hv c hc)⟩
  ·obtain ⟨h1, h2, h3⟩ := h.own _ _ _ hb
   exact ⟨.inl h1, (Below.heap_alloc _ _ _ (h.used _ h1)).trans h2, fun c hc => hg.valid (h3 c hc)⟩
 ·change (if b = w.heap.size then some (Bk.own t cs) else σ.blk b) = _ at hb
  split at hb
  ·injection hb with hb; cases hb
  ·obtain ⟨h1, cs', h2, h3⟩ := h.tail _ _ _ _ hb
   exact ⟨.inl h1, cs', (Below.heap_alloc _ _ _ (h.used _ h1)).trans h2, h3⟩
 ·change (if b = w.heap.size then some (Bk.own t cs) else σ.blk b) = _ at hb
  split at hb
  ·injection hb with hb; cases hb
  ·obtain ⟨h1, a, c, h2, h3⟩ := h.map _ _ hb
   exact ⟨.inl h1, a, c, (Below.heap_alloc _ _ _ (h.used _ h1)).trans h2, h3⟩
theorem ZaG.alloc_tail (h : ZaG w σ Z) (t : TypeId) (cs : List AV) (k : Nat) (hk : k <= cs.length) :
 ZaG (w.alloc (.cells (cs.map AV.val).toArray t)) (σ.put w.heap.size (.tail t k cs.length)) Z := by
 have hg := Grow.alloc h (.cells (cs.map AV.val).toArray t) (.tail t k cs.length)
 refine ⟨fun b hu => ?_, fun b hz => ?_, fun b t' cs' hb => ?_, fun b t' k' s hb => ?_, fun b es hb => ?_⟩
 ·simp only [World.size_alloc]
  rcases hu with hu | rfl
  ·have := h.used _ hu; omega
  ·omega
 ·obtain ⟨h1, h2⟩ := h.z _ hz
  refine ⟨by simp only [World.size_alloc]; omega, ?_⟩
  show (if b = w.heap.size then _ else σ.blk b) = _
  rw [if_neg (by omega)]
  exact h2
 ·change (if b = w.heap.size then some (Bk.tail t k cs.length) else σ.blk b) = _ at hb
  split at hb
  ·injection hb with hb; cases hb
  ·obtain ⟨h1, h2, h3⟩ := h.own _ _ _ hb
   exact ⟨.inl h1, (Below.heap_alloc _ _ _ (h.used _ h1)).trans h2, fun c hc => hg.valid (h3 c hc)⟩
 ·change (if b = w.heap.size then some (Bk.tail t k cs.length) else σ.blk b) = _ at hb
  split at hb
  ·rename_i e
   injection hb with hb
   injection hb with e1 e2 e3
   subst e1 e2 e3 e
   exact ⟨.inr rfl, _, heap_alloc_new _ _, by simp, hk⟩
  ·obtain ⟨h1, cs', h2, h3⟩ := h.tail _ _ _ _ hb
   exact ⟨.inl h1, cs', (Below.heap_alloc _ _ _ (h.used _ h1)).trans h2, h3⟩
 ·change (if b = w.heap.size then some (Bk.tail t k cs.length) else σ.blk b) = _ at hb
  split at hb
  ·injection hb with hb; cases hb
  ·obtain ⟨h1, a, c, h2, h3⟩ := h.map _ _ hb
   exact ⟨.inl h1, a, c, (Below.heap_alloc _ _ _ (h.used _ h1)).trans h2, h3⟩
theorem Zh3 (h : ZaG w σ Z) (t : TypeId) (cs : List AV) (k : Nat) (hv : ∀ c ∈ cs, Zar w (σ.free Z) c) (hk : cs.length <= k) (s : Nat) :
 ZaS (w.alloc (.cells (cs.map AV.val).toArray t)) ((σ.put w.heap.size (.tail t k s)).free Z) ⟨w.heap.size, 0, none⟩ 0 cs := by
 have hg := Grow.alloc h (.cells (cs.map AV.val).toArray t) (.tail t k s)
 refine ZaS.mk fun i d hd => ?_
 have hi : i < cs.length := (List.getElem?_eq_some_iff.1 hd).1
 rw [Zci, Nat.zero_add]
 refine ⟨?_, ⟨fun hz => ?_, .inr rfl, ?_⟩, hg.valid (hv d (List.mem_of_getElem? hd))⟩
 ·rw [Nat.zero_add, Zpm]
  simp [hd]
 ·exact absurd (h.z _ hz).1 (Nat.lt_irrefl _)
 ·show match (if w.heap.size = w.heap.size then some (Bk.tail t k s) else σ.blk w.heap.size) with | none => True | some (.own _ _) => False | some (.tail _ k _) => (⟨w.heap.size, 0, none⟩ : Addr).off + i < k | some (.map _) => False
  rw [if_pos rfl]
  show 0 + i < k
  omega
theorem ZdU {B : Nat -> Nat -> Prop} {t : Option Bool} {n : Option Nat} {cells : List AV} {o : Nat} {r : AV} (h : Zbi t n cells o = some r) (hv : ∀ c ∈ cells, Zar w B c) : Zar w B r := by
 unfold Zbi at h
 split at h
 ·split at h
  ·injection h with h
   subst h
   unfold Zar
   exact ZaY.iff.2 fun a ha => hv a (List.mem_of_mem_drop (List.mem_of_mem_take ha))
  ·cases h
 ·exact hv r (List.mem_of_getElem? h)
 ·cases h
theorem ZeB {t : TypeId} {g : Bool} (h : ZdB P t = some g) : (isAgg t).run P w = .ok g w := by
 unfold ZdB at h
 cases hu : P.underlying t with
 | none => rw [hu] at h; cases h
 | some d =>
  rw [hu] at h
  injection h with h
  subst h
  unfold isAgg
  rw [Sem.run_bind, run_underlying hu]
  cases d <;> rfl
theorem ZbH {t : TypeId} {n : Nat} (h : ZaU P t = some n) : (sizeOf t).run P w = .ok n w := by
 unfold ZaU at h
 cases hi : P.info? t with
 | none => rw [hi] at h; cases h
 | some i =>
  rw [hi] at h
  injection h with h
  subst h
  simp [sizeOf, typeInfo, hi]
theorem Zcc {t : TypeId} {z : Value} (h : Zba P t = some z) : (zeroValue t).run P w = .ok z w := by
 unfold Zba at h
 cases hi : P.info? t with
 | none => rw [hi] at h; cases h
 | some i =>
  rw [hi] at h
  simp only [Option.bind_some] at h
  simp [zeroValue, typeInfo, hi, h]
theorem ZbO {t e : TypeId} (h : ZaW P t = some e) : P.underlying t = some (.slice e) := by
 unfold ZaW at h
 split at h
 ·rename_i e' he
  injection h with h
  subst h
  exact he
 ·cases h
theorem ZdK {t : TypeId} {ad : Addr} {cells : List AV} {o : Nat} {r : AV} (h : Zbi (ZdB P t) (ZaU P t) cells o = some r)
 (hc : ∀ j d, cells[o + j]? = some d -> w.cell? (ad.add j) = some d.val) : (loadVar t ad).run P w = .ok r.val w := by
 unfold Zbi at h
 split at h
 ·rename_i n ht hn
  split at h
  ·rename_i hl
   injection h with h
   subst h
   have := run_loadCells_list (P := P) w ad (((cells.drop o).take n).map AV.val) (fun j v hv => by
    rw [List.getElem?_map] at hv
    cases hd : ((cells.drop o).take n)[j]? with
    | none => rw [hd] at hv; cases hv
    | some d =>
     rw [hd] at hv
     injection hv with hv
     subst hv
     refine hc j d ?_
     rw [List.getElem?_take] at hd
     split at hd
     ·rw [List.getElem?_drop] at hd; exact hd
     ·cases hd)
   have hlen : (((cells.drop o).take n).map AV.val).length = n := by simp; omega
   rw [hlen] at this
   unfold loadVar
   rw [Sem.run_bind, ZeB ht]
   simp only [Result.andThen_ok, if_true]
   rw [Sem.run_bind, ZbH hn]
   simp only [Result.andThen_ok]
   rw [Sem.run_bind, this]
   simp
  ·cases h
 ·rename_i n ht hn
  have := hc 0 r (by simpa using h)
  unfold loadVar
  rw [Sem.run_bind, ZeB ht]
  simp only [Result.andThen_ok, Bool.false_eq_true, if_false]
  rw [run_load]
  have h0 : ad.add 0 = ad := by simp [Addr.add]
  rw [h0] at this
  rw [this]
 ·cases h
theorem Zfi (h : ZaG w σ Z) {b : Nat} {t : TypeId} {cs : List AV} (hb : σ.blk b = some (.own t cs)) (o j : Nat) {d : AV} (hd : cs[o + j]? = some d) : w.cell? ((⟨b, o, none⟩ : Addr).add j) = some d.val := by
 rw [Zci]
 obtain ⟨_, h2, _⟩ := h.own _ _ _ hb
 simp [World.cell?, h2, hd]
theorem ZgF (hH : ZaG w σ Z) {t : TypeId} {a r : AV} (ha : Zar w (σ.free Z) a) (h : ZbU P t σ a = some r) :
 (Instr.loadAt t a.val).run P w = .ok r.val w /\ Zar w (σ.free Z) r := by
 unfold ZbU at h
 split at h
 ·rename_i b o
  split at h
  ·rename_i e cs hb
   have hv := (hH.own _ _ _ hb).2.2
   refine ⟨?_, ZdU h hv⟩
   have := ZdK (P := P) (w := w) (ad := ⟨b, o, none⟩) h (fun j d hd => Zfi hH hb o j hd)
   simpa [Instr.loadAt, Instr.sureAddr] using this
  ·cases h
 ·rename_i ad cells
  unfold Zar at ha
  have hg : ∀ j d, cells[j]? = some d -> w.cell? (ad.add j) = some d.val /\ Zar w (σ.free Z) d := fun j d hd => by
   have := ha.get hd
   rw [Nat.zero_add] at this
   exact ⟨this.1, this.2.2⟩
  refine ⟨?_, ZdU h fun c hc => ?_⟩
  ·have := ZdK (P := P) (w := w) (ad := ad) h (fun j d hd => (hg j d (by simpa using hd)).1)
   simpa [Instr.loadAt, Instr.sureAddr] using this
  ·obtain ⟨j, hj⟩ := List.getElem?_of_mem hc
   exact (hg j c hj).2
 ·cases h
theorem ZfK {w : World} {B : Nat -> Nat -> Prop} (v : Value) : Zar w B (AV.ofV1 v) := by
 unfold AV.ofV1
 split
 ·unfold Zar; exact ⟨Nat.le_refl _, fun _ => ⟨rfl, rfl, rfl⟩, fun ad h => by cases h⟩
 ·unfold Zar; trivial
theorem Zdc {w : World} {B : Nat -> Nat -> Prop} (v : Value) : Zar w B (AV.ofV v) := by
 unfold AV.ofV
 split
 ·unfold Zar
  refine ZaY.iff.2 fun a ha => ?_
  simp only [List.mem_map] at ha
  obtain ⟨v, _, rfl⟩ := ha
  exact ZfK v
 ·exact ZfK _
theorem Zar.cells {B : Nat -> Nat -> Prop} {x : AV} (h : Zar w B x) : ∀ c ∈ x.cells, Zar w B c := by
 intro c hc
 unfold AV.cells at hc
 split at hc
 ·unfold Zar at h; exact ZaY.iff.1 h c hc
 ·simp only [List.mem_map] at hc
  obtain ⟨v, _, rfl⟩ := hc
  exact ZfK v
 ·simp only [List.mem_singleton] at hc
  subst hc; exact h
theorem ZiF (hH : ZaG w σ Z) {t : TypeId} {a x : AV} {σ' : St} (hx : Zar w (σ.free Z) x) (h : ZgE P t σ a x = some σ') :
 ∃ w', (Instr.storeAt t a.val x.val).run P w = .ok () w' /\ ZaG w' σ' Z /\ Grow w σ w' σ' := by
 unfold ZgE at h
 split at h
 ·rename_i b o
  unfold Zfh at h
  split at h
  ·rename_i e cs n hb hn
   split at h
   ·rename_i hcond
    injection h with h
    subst h
    simp only [Bool.and_eq_true, decide_eq_true_eq] at hcond
    obtain ⟨⟨⟨h1, h2⟩, h3⟩, h4⟩ := hcond
    have h2 : x.cells.length = n := by simpa using h2
    have hcv := AV.cells_val x
    obtain ⟨hu, hh, hvs⟩ := hH.own _ _ _ hb
    have hst := run_storeCells_at P b o e (x.cells.map AV.val) 0 (cs.map AV.val).toArray w hh (by simp [h2]; omega) (fun v hv => by
     simp only [List.mem_map] at hv
     obtain ⟨c, hc, rfl⟩ := hv
     exact AV.one_val (List.all_eq_true.1 h3 c hc))
    have harr : ((cs.map AV.val).toArray.toList.take (o + 0) ++ x.cells.map AV.val ++ (cs.map AV.val).toArray.toList.drop (o + 0 + (x.cells.map AV.val).length)).toArray = ((ZaR cs o x.cells).map AV.val).toArray := by
     simp [ZaR]
    rw [harr] at hst
    have hg : Grow w σ (w.setRow b ((ZaR cs o x.cells).map AV.val).toArray) (σ.set b (.own e (ZaR cs o x.cells))) := by
     refine ⟨rfl, rfl, rfl, by simp [World.setRow], fun _ _ h => h, fun b' hb' hn' => ?_, fun b' t' k s hb' ht' => ?_, fun _ h => h⟩
     ·have hne : b' ≠ b := by rintro rfl; rw [hb] at hn'; cases hn'
      exact ⟨setRow_other _ _ _ _ hne, by show (if b' = b then _ else σ.blk b') = _; rw [if_neg hne]; exact hn'⟩
     ·have hne : b' ≠ b := by rintro rfl; rw [hb] at ht'; cases ht'
      refine ⟨fun j v _ hv => ?_, .inr ⟨t', k, s, ?_, Nat.le_refl _⟩⟩
      ·rw [World.cell?_of_block (w := w) (setRow_other _ _ _ _ hne)]; exact hv
      ·show (if b' = b then _ else σ.blk b') = _
       rw [if_neg hne]; exact ht'
    refine ⟨w.setRow b ((ZaR cs o x.cells).map AV.val).toArray, ?_, ?_, hg⟩
    ·rw [hcv] at hst
     have hsz : ¬ x.val.cells.size ≠ n := by
      have := congrArg List.length hcv
      simp at this
      omega
     simp only [Instr.storeAt, Instr.sureAddr, AV.val_raw, storeVar, Sem.run_bind, ZbH hn, Result.andThen_ok, Sem.run_pure, Sem.run_ite, if_neg hsz]
     exact hst
    ·skip
     refine ⟨fun b' hu' => ?_, fun b' hz => ?_, fun b' t' cs' hb' => ?_, fun b' t' k s hb' => ?_, fun b' es hb' => ?_⟩
     ·have := hH.used _ hu'; simpa [World.setRow] using this
     ·obtain ⟨z1, z2⟩ := hH.z _ hz
      have hne : b' ≠ b := by rintro rfl; rw [hb] at z2; cases z2
      refine ⟨by simpa [World.setRow] using z1, ?_⟩
      show (if b' = b then _ else σ.blk b') = _
      rw [if_neg hne]; exact z2
     ·change (if b' = b then some (Bk.own e (ZaR cs o x.cells)) else σ.blk b') = _ at hb'
      split at hb'
      ·rename_i hbb
       injection hb' with hb'
       injection hb' with e1 e2
       subst e1 e2 hbb
       refine ⟨hu, setRow_heap _ _ _ _ _ _ hh, fun c hc => hg.valid ?_⟩
       unfold ZaR at hc
       simp only [List.mem_append] at hc
       rcases hc with (hc | hc) | hc
       ·exact hvs c (List.mem_of_mem_take hc)
       ·exact hx.cells c hc
       ·exact hvs c (List.mem_of_mem_drop hc)
      ·rename_i hne
       obtain ⟨g1, g2, g3⟩ := hH.own _ _ _ hb'
       exact ⟨g1, (setRow_other _ _ _ _ hne).trans g2, fun c hc => hg.valid (g3 c hc)⟩
     ·change (if b' = b then some (Bk.own e (ZaR cs o x.cells)) else σ.blk b') = _ at hb'
      split at hb'
      ·injection hb' with hb'; cases hb'
      ·rename_i hne
       obtain ⟨g1, cs', g2, g3⟩ := hH.tail _ _ _ _ hb'
       exact ⟨g1, cs', (setRow_other _ _ _ _ hne).trans g2, g3⟩
     ·change (if b' = b then some (Bk.own e (ZaR cs o x.cells)) else σ.blk b') = _ at hb'
      split at hb'
      ·injection hb' with hb'; cases hb'
      ·rename_i hne
       obtain ⟨g1, a', c', g2, g3⟩ := hH.map _ _ hb'
       exact ⟨g1, a', c', (setRow_other _ _ _ _ hne).trans g2, g3⟩
   ·cases h
  ·cases h
 ·cases h
end
end Go.Proofs.YtiienjjhlibopaaGreatDoor
namespace Go.Proofs.YtiienjjhlibopaaGreatDoor
open Go.RowKit
set_option maxRecDepth 100000
set_option linter.unusedVariables false
theorem ZiG (off : Nat) : ∀ (vs : List Value) (k : Nat) (cs : Array Value), off + k + vs.length <= cs.size ->
 ((vs.zipIdx k).foldl (fun (cs : Array Value) (x : Value × Nat) => cs.setIfInBounds (off + x.2) x.1) cs) = (cs.toList.take (off + k) ++ vs ++ cs.toList.drop (off + k + vs.length)).toArray
 | [], k, cs, _ => by simp
 | v :: vs, k, cs, h => by
  simp only [List.length_cons] at h
  rw [List.zipIdx_cons, List.foldl_cons]
  have ih := ZiG off vs (k + 1) (cs.setIfInBounds (off + k) v) (by simp; omega)
  rw [ih]
  have e := list_seg_step cs.toList (off + k) v vs (by simp; omega)
  simp only [Array.toList_setIfInBounds, List.length_cons]
  exact congrArg List.toArray (by simpa [Nat.add_assoc, Nat.add_comm 1] using e)
theorem ZfL (place : Nat -> Option (Nat × Nat)) : ∀ (parts : List (Nat × AV)) (cells r : List AV), Zcz place cells parts = some r ->
 Instr.fill place (cells.map AV.val).toArray (parts.map fun x => (x.1, x.2.val)) = some (r.map AV.val).toArray
 | [], cells, r, h => by
  unfold Zcz at h
  injection h with h
  subst h
  simp [Instr.fill]
 | (i, v) :: rest, cells, r, h => by
  unfold Zcz at h
  cases hp : place i with
  | none => rw [hp] at h; cases h
  | some p =>
   obtain ⟨off, size⟩ := p
   rw [hp] at h
   dsimp only at h
   split at h
   ·cases h
   ·rename_i hc
    simp only [Bool.or_eq_true, Bool.not_eq_true', decide_eq_true_eq, not_or] at hc
    obtain ⟨⟨h1, h2⟩, h3⟩ := hc
    have h1 : Zbh v = true := by simpa using h1
    have hcv := AV.cells_val v
    have hlen : v.val.cells.size = v.cells.length := by
     have := congrArg List.length hcv
     simpa using this.symm
    have hs : v.cells.length = size := by simpa using h2
    have ih := ZfL place rest _ r h
    have hcond : (decide (v.val.cells.size ≠ size) || decide (off + v.val.cells.size > (cells.map AV.val).toArray.size)) = false := by
     rw [hlen, hs]
     have : off + v.cells.length <= cells.length := by omega
     simp; omega
    rw [List.map_cons]
    unfold Instr.fill
    rw [hp]
    dsimp only
    rw [hcond]
    simp only [Bool.false_eq_true, if_false]
    rw [<- Array.foldl_toList, Array.toList_zipIdx]
    rw [ZiG off v.val.cells.toList 0 _ (by simp [hlen]; omega)]
    rw [<- hcv]
    rw [<- ih]
    congr 2
    simp [ZaR]
theorem Zjw {P : Program} {t : TypeId} {z : Value} {pl : List (Nat × Nat)} {parts : List (Nat × AV)} {cells : List AV} (hz : Zba P t = some z) (hp : ZbE P t = some pl) (h : Zcz (fun i => pl[i]?) (AV.ofV z).cells parts = some cells) :
 P.built t (parts.map fun x => (x.1, x.2.val)) = some (cells.map AV.val).toArray := by
 unfold Zba at hz
 unfold ZbE at hp
 unfold Program.built
 cases hi : P.info? t with
 | none => rw [hi] at hz; cases hz
 | some i =>
  rw [hi] at hz
  simp only [Option.bind_some] at hz
  split at hp
  ·rename_i fields hu
   rw [hu]
   dsimp only
   rw [hz, hp]
   dsimp only
   have := ZfL _ _ _ _ h
   rw [AV.cells_val _] at this
   simpa using this
  ·cases hp
theorem Zh4 {α : Type} (is : List α) : ∀ (vs : List AV), ((is.zip vs).map fun x => (x.1, x.2.val)) = is.zip (vs.map AV.val) := by
 induction is with
 | nil => simp
 | cons i is ih => intro vs; cases vs <;> simp [ih]
theorem ZgG (ρ : Operand -> Value) (ps : List (Nat × Operand)) : (ps.map (·.1)).zip ((ps.map (·.2)).map ρ) = ps.map fun x => (x.1, ρ x.2) := by
 induction ps with
 | nil => rfl
 | cons p ps ih => simpa using ih
theorem Zf7 (place : Nat -> Option (Nat × Nat)) : ∀ (parts : List (Nat × AV)) (cells r : List AV), Zcz place cells parts = some r -> r.length = cells.length
 | [], cells, r, h => by unfold Zcz at h; injection h with h; subst h; rfl
 | (i, v) :: rest, cells, r, h => by
  unfold Zcz at h
  cases hpl : place i with
  | none => rw [hpl] at h; cases h
  | some p =>
   obtain ⟨off, size⟩ := p
   rw [hpl] at h
   dsimp only at h
   split at h
   ·cases h
   ·rename_i hc
    simp only [Bool.or_eq_true, decide_eq_true_eq, not_or] at hc
    rw [Zf7 place rest _ r h]
    simp [ZaR]
    omega
theorem ZdV {w : World} {B : Nat -> Nat -> Prop} (place : Nat -> Option (Nat × Nat)) : ∀ (parts : List (Nat × AV)) (cells r : List AV), Zcz place cells parts = some r -> (∀ c ∈ cells, Zar w B c) -> (∀ p ∈ parts, Zar w B p.2) -> ∀ c ∈ r, Zar w B c
 | [], cells, r, h, hc, _ => by unfold Zcz at h; injection h with h; subst h; exact hc
 | (i, v) :: rest, cells, r, h, hc, hp => by
  unfold Zcz at h
  cases hpl : place i with
  | none => rw [hpl] at h; cases h
  | some p =>
   obtain ⟨off, size⟩ := p
   rw [hpl] at h
   dsimp only at h
   split at h
   ·cases h
   ·refine ZdV place rest _ r h ?_ (fun p hp' => hp p (List.mem_cons_of_mem _ hp'))
    intro c hc'
    unfold ZaR at hc'
    simp only [List.mem_append] at hc'
    rcases hc' with (h' | h') | h'
    ·exact hc c (List.mem_of_mem_take h')
    ·exact (hp (i, v) (List.mem_cons_self)).cells c h'
    ·exact hc c (List.mem_of_mem_drop h')
theorem Zed {w : World} {B : Nat -> Nat -> Prop} (z : Value) : ∀ c ∈ (AV.ofV z).cells, Zar w B c := by
 have : Zar w B (AV.ofV z) := Zdc z
 exact this.cells
theorem ZaS.drop {w : World} {B : Nat -> Nat -> Prop} {ad : Addr} {cells : List AV} (h : ZaS w B ad 0 cells) (o : Nat) : ZaS w B (ad.add o) 0 (cells.drop o) := by
 refine ZaS.mk fun i d hd => ?_
 rw [List.getElem?_drop] at hd
 have := h.get hd
 have e1 : (ad.add o).add (0 + i) = ad.add (0 + (o + i)) := by
  unfold Addr.add
  by_cases ho : o = 0 <;> by_cases hi : i = 0 <;> simp [ho, hi, Nat.add_assoc]
 have e2 : (ad.add o).block = ad.block := by unfold Addr.add; split <;> rfl
 have e3 : (ad.add o).off + (0 + i) = ad.off + (0 + (o + i)) := by
  have : (ad.add o).off = ad.off + o := by unfold Addr.add; split <;> simp_all
  omega
 rw [e1, e2, e3]
 exact this
end Go.Proofs.YtiienjjhlibopaaGreatDoor
namespace Go.Proofs.YtiienjjhlibopaaGreatDoor
open Go.RowKit
set_option maxRecDepth 100000
set_option linter.unusedVariables false
section
variable {P : Program} {w : World} {σ : St} {Z : Nat -> Prop} {o : Oper} {a : Act} {K : AV -> St -> Prop} {Q : Exit -> Act -> World -> Prop}
def Zf8 (o : Oper) (a : Act) (w : World) (σ : St) (Z : Nat -> Prop) (K : AV -> St -> Prop) (a' : Act) (w' : World) : Prop :=
 ∃ r σ', K r σ' /\ a' = a.put o.dst r.val /\ ZaG w' σ' Z /\ Zar w' (σ'.free Z) r /\ Grow w σ w' σ'
theorem Zc9 {r : AV} {σ' : St} {w' : World} (hr : (execOp a.eval o).run P w = .ok (.value r.val) w') (hK : K r σ') (hH : ZaG w' σ' Z) (hV : Zar w' (σ'.free Z) r) (hG : Grow w σ w' σ') :
 o.wp P a w (Zf8 o a w σ Z K) Q := by
 unfold Oper.wp
 rw [hr]
 exact ⟨r, σ', hK, rfl, hH, hV, hG⟩
theorem ZbP {r : AV} (hH : ZaG w σ Z) (hr : (execOp a.eval o).run P w = .ok (.value r.val) w) (hK : K r σ) (hV : Zar w (σ.free Z) r) : o.wp P a w (Zf8 o a w σ Z K) Q :=
 Zc9 hr hK hH hV (Grow.refl _ _)
theorem ZgH {σ' : St} {w' : World} (hr : (execOp a.eval o).run P w = .ok .skip w') (hK : K (.raw undef) σ') (hH : ZaG w' σ' Z) (hG : Grow w σ w' σ') :
 o.wp P a w (Zf8 o a w σ Z K) Q := by
 unfold Oper.wp
 rw [hr]
 exact ⟨.raw undef, σ', hK, rfl, hH, by unfold Zar; trivial, hG⟩
theorem ZlO {vs : List AV} {v : Value} (hH : ZaG w σ Z) (hval : o.op.operands.toList.map a.eval = vs.map AV.val) (hv : ∀ q ∈ vs, Zar w (σ.free Z) q) (h : ZdC P o vs v) (hK : K (.raw v) σ) : o.wp P a w (Zf8 o a w σ Z K) Q :=
 ZbP hH (r := .raw v) (by simpa using h a.eval hval w _ hv) hK (by unfold Zar; trivial)
theorem ZgI {t : TypeId} {ad : Addr} {f : Nat} {l : List (Nat × Option Nat × Option Bool)} {off n : Nat} {g : Option Bool} (hl : Za3 P t = some l) (hf : l[f]? = some (off, some (n + 1), g)) :
 (Instr.fieldAt t (.pointer (some ad)) f).run P w = .ok (.pointer (some (ad.add off))) w := by
 unfold Za3 at hl
 split at hl
 ·rename_i fs hu
  injection hl with hl
  subst hl
  rw [List.getElem?_map] at hf
  cases hff : fs.toList[f]? with
  | none => rw [hff] at hf; cases hf
  | some fd =>
   rw [hff] at hf
   injection hf with hf
   injection hf with e1 e2
   injection e2 with e2 e3
   subst e1
   have hff' : fs[f]? = some fd := by simpa using hff
   simp [Instr.fieldAt, Instr.sureAddr, run_underlying hu, hff', fieldPlace, ZbH e2]
 ·cases hl
theorem ZlP {t : TypeId} {cells : List AV} {f : Nat} {l : List (Nat × Option Nat × Option Bool)} {off : Nat} {n : Option Nat} {g : Option Bool} {r : AV} (hl : Za3 P t = some l) (hf : l[f]? = some (off, n, g)) (hc : Zbi g n cells off = some r) :
 (Instr.field t (AV.agg cells).val f).run P w = .ok r.val w := by
 unfold Za3 at hl
 split at hl
 ·rename_i fs hu
  injection hl with hl
  subst hl
  rw [List.getElem?_map] at hf
  cases hff : fs.toList[f]? with
  | none => rw [hff] at hf; cases hf
  | some fd =>
   rw [hff] at hf
   injection hf with hf
   injection hf with e1 e2
   injection e2 with e2 e3
   subst e1
   have hff' : fs[f]? = some fd := by simpa using hff
   rw [<- e2, <- e3] at hc
   unfold Zbi at hc
   split at hc
   ·rename_i n' h1 h2
    split at hc
    ·injection hc with hc
     subst hc
     simp [Instr.field, run_underlying hu, hff', part, ZeB h1, ZbH h2, asAgg]
    ·cases hc
   ·rename_i h1 h2
    have : ((cells.map AV.val).toArray)[fd.offset]? = some r.val := by simp [hc]
    simp [Instr.field, run_underlying hu, hff', part, ZeB h1, asAgg, hc]
   ·cases hc
 ·cases hl
theorem ZgJ {t e : TypeId} {sz : Nat} {ad : Addr} {n c : Nat} {k : IntKind} {j : Nat} (ht : ZaW P t = some e) (hs : ZaU P e = some sz) (hj : j < n) :
 (Instr.indexAt t (.slice (some ad) n c) (.int k j)).run P w = .ok (.pointer (some (ad.add (j * sz)))) w := by
 simp [Instr.indexAt, asIntOf, run_underlying (ZbO ht), ZbH hs, hj]
theorem Zbq {k : IntKind} {j y : Nat} {code : BoundsCode} (h : j <= y) : (Instr.sliceBound (.int k j) y code).run P w = .ok j w := by
 simp [Instr.sliceBound, asIntOf, h]
theorem ZgK {n c l h m : Nat} {lo hi mx : Option Operand} {ix : List AV} {ρ : Operand -> Value} (hix : (lo.toArray ++ hi.toArray ++ mx.toArray).toList.map ρ = ix.map AV.val) (he : Zcs n c lo.isSome hi.isSome mx.isSome ix l h m) (h1 : l <= h) (h2 : h <= m) (h3 : m <= c) :
 (Instr.sliceBounds true n c (lo.map ρ) (hi.map ρ) (mx.map ρ)).run P w = .ok (l, h, m) w := by
 cases lo <;> cases hi <;> cases mx <;> rcases ix with _ | ⟨x, _ | ⟨y, _ | ⟨z, _ | ⟨u, ix⟩⟩⟩⟩ <;> simp only [Option.isSome_none, Option.isSome_some, Zcs] at he <;> (try exact he.elim)
 ·obtain ⟨rfl, rfl, rfl⟩ := he
  simp [Instr.sliceBounds]
 ·obtain ⟨rfl, ⟨k, hx⟩, rfl⟩ := he
  simp [hx] at hix
  simp [Instr.sliceBounds, hix, Zbq h2]
 ·obtain ⟨rfl, ⟨k, hx⟩, ⟨k', hy⟩⟩ := he
  simp [hx, hy] at hix
  simp [Instr.sliceBounds, hix, Zbq h2, Zbq h3]
 ·obtain ⟨⟨k, hx⟩, rfl, rfl⟩ := he
  simp [hx] at hix
  simp [Instr.sliceBounds, hix, Zbq h1]
 ·obtain ⟨⟨k, hx⟩, ⟨k', hy⟩, rfl⟩ := he
  simp [hx, hy] at hix
  simp [Instr.sliceBounds, hix, Zbq h1, Zbq h2]
 ·obtain ⟨⟨k, hx⟩, ⟨k', hy⟩, ⟨k'', hz⟩⟩ := he
  simp [hx, hy, hz] at hix
  simp [Instr.sliceBounds, hix, Zbq h1, Zbq h2, Zbq h3]
theorem ZgL {t e : TypeId} {sz : Nat} {A : Option Addr} {n c l h m : Nat} {lo hi mx : Option Operand} {ix : List AV} {ρ : Operand -> Value} (ht : ZaW P t = some e) (hs : ZaU P e = some sz) (hix : (lo.toArray ++ hi.toArray ++ mx.toArray).toList.map ρ = ix.map AV.val) (he : Zcs n c lo.isSome hi.isSome mx.isSome ix l h m) (h1 : l <= h) (h2 : h <= m) (h3 : m <= c) :
 (Instr.sliceAt t (.slice A n c) (lo.map ρ) (hi.map ρ) (mx.map ρ)).run P w = .ok (.slice (if m = l then A else A.map (·.add (l * sz))) (h - l) (m - l)) w := by
 have hb := ZgK (P := P) (w := w) hix he h1 h2 h3
 simp [Instr.sliceAt, Instr.slice, run_underlying (ZbO ht), hb, ZbH hs]
theorem ZeR {t e : TypeId} {n sz : Nat} {z : Value} {cells : List AV} {parts : List (Nat × AV)} (ht : ZaW P t = some e) (hs : ZaU P e = some sz) (hz : Zba P e = some z) (hzs : z.cells.size = sz) (hn : n * sz <= 16777216)
 (h : Zcz (fun i => some (i * sz, sz)) ((List.range (n * sz)).map fun i => .ofV (z.cells[i % sz]!)) parts = some cells) :
 (Instr.buildSlice t n (parts.map fun x => (x.1, x.2.val)).toArray).run P w = .ok (.slice (some ⟨w.heap.size, 0, none⟩) n n) (w.alloc (.cells (cells.map AV.val).toArray e)) := by
 have hf := ZfL _ _ _ _ h
 have hcond : ¬ n * sz > 2 ^ 24 := by omega
 by_cases h0 : n * sz = 0
 ·rw [h0] at hf
  have hr0 : Array.range 0 = #[] := rfl
  have hf' : Instr.fill (fun i => some (i * sz, sz)) #[] (parts.map fun x => (x.1, x.2.val)) = some (cells.map AV.val).toArray := hf
  simp [Instr.buildSlice, run_underlying (ZbO ht), ZbH hs, h0, newRow, hr0, hf']
 ·have hr : ((Array.range (n * sz)).map fun i => z.cells[i % z.cells.size]!) = (((List.range (n * sz)).map fun i => AV.ofV (z.cells[i % sz]!)).map AV.val).toArray := by
   rw [hzs]
   apply Array.ext'
   simp [Function.comp_def]
  simp only [Instr.buildSlice, Sem.run_bind, run_underlying (ZbO ht), Result.andThen_ok, ZbH hs, Sem.run_ite, if_neg hcond, if_neg h0, Sem.run_pure, Zcc hz, hr, hf]
  simp [newRow]
end
end Go.Proofs.YtiienjjhlibopaaGreatDoor
namespace Go.Proofs.YtiienjjhlibopaaGreatDoor
open Go.RowKit
set_option maxRecDepth 100000
set_option linter.unusedVariables false
section
variable {P : Program} {w : World} {σ : St} {Z : Nat -> Prop} {o : Oper} {a : Act} {K : AV -> St -> Prop} {Q : Exit -> Act -> World -> Prop} {env : Env}
theorem Zkc {c : Call} {f : Operand} {g : FuncId} {first cap : Array Value} (ho : o.op = .call c) (hc : c.callee = .value f) (hf : a.eval f = .func (.func g) first cap) (hg : ZbX P g = true) :
 (execOp a.eval o).run P w = .ok (.enter g (first ++ c.args.map a.eval ++ cap)) w := by
 unfold ZbX at hg
 cases hfn : P.funcs[g]? with
 | none => rw [hfn] at hg; cases hg
 | some fn =>
  rw [hfn] at hg
  simp only [Bool.and_eq_true, bne_iff_ne, ne_eq] at hg
  obtain ⟨hb, hn⟩ := hg
  have hb' : fn.body ≠ none := by
   intro h
   rw [h] at hb; cases hb
  simp [execOp, ho, resolve, hc, hf, Deferred.ofValue, invoke, callFunc, hfn, hn, hb']
theorem ZiH {c : Call} {f : Operand} {g : FuncId} {first cap : Array Value} (ho : o.op = .call c) (hc : c.callee = .value f) (hf : a.eval f = .func (.func g) first cap) {v : Value} {w' : World} (hr : (callFunc g (first ++ c.args.map a.eval ++ cap)).run P w = .ok (.value v) w') :
 (execOp a.eval o).run P w = .ok (.value v) w' := by
 simp [execOp, ho, resolve, hc, hf, Deferred.ofValue, invoke]
 rw [<- Array.append_assoc]
 exact hr
theorem Zan.sound {c : Call} {f : Operand} {g : FuncId} {first cap : Array Value} {args : List AV} (h : Zan P g args σ K) (hH : ZaG w σ Z) (hV : ∀ x ∈ args, Zar w (σ.free Z) x) (hvs : first ++ c.args.map a.eval ++ cap = (args.map AV.val).toArray)
 (ho : o.op = .call c) (hc : c.callee = .value f) (hf : a.eval f = .func (.func g) first cap) : o.wp P a w (Zf8 o a w σ Z K) Q := by
 rcases h w Z hH hV with ⟨hg, h⟩ | ⟨v, w', h1, r, σ', h2, hK, hH', hV', hG⟩
 ·unfold Oper.wp
  rw [Zkc ho hc hf hg, Oper.upon_enter, hvs]
  refine h.mono ?_
  rintro e w' ⟨r, σ', rfl, hK, hH', hV', hG⟩
  exact ⟨r, σ', hK, rfl, hH', hV', hG⟩
 ·injection h2 with h2
  subst h2
  refine Zc9 ?_ hK hH' hV' hG
  exact ZiH ho hc hf (by rw [hvs]; exact h1)
theorem Zk5 (hH : ZaG w σ Z) (hval : ∀ x, a.eval x = (ev env x).val /\ Zar w (σ.free Z) (ev env x))
 (h : Zc6 P o (o.op.operands.toList.map (ev env)) σ K) : o.wp P a w (Zf8 o a w σ Z K) Q := by
 have hmap : ∀ l : List Operand, l.map a.eval = (l.map (ev env)).map AV.val := fun l => by
  rw [List.map_map]
  exact List.map_congr_left fun x _ => (hval x).1
 have hpure : ∀ v, ZdC P o (o.op.operands.toList.map (ev env)) v -> K (.raw v) σ -> o.wp P a w (Zf8 o a w σ Z K) Q := fun v h1 h2 => ZlO hH (hmap _) (fun v hv => by
  simp only [List.mem_map] at hv
  obtain ⟨x, _, rfl⟩ := hv
  exact (hval x).2) h1 h2
 have hexec : ZgD P o (o.op.operands.toList.map (ev env)) σ K -> o.wp P a w (Zf8 o a w σ Z K) Q := fun h => by
  obtain ⟨r, σ', w', hr, hK, hH', hV', hG⟩ := h a.eval (hmap _) w Z hH (fun v hv => by
   simp only [List.mem_map] at hv
   obtain ⟨x, _, rfl⟩ := hv
   exact (hval x).2)
  rcases hr with hr | ⟨hr, rfl⟩
  ·exact Zc9 hr hK hH' hV' hG
  ·exact ZgH hr hK hH' hG
 generalize hvs : o.op.operands.toList.map (ev env) = vs at h hpure hexec
 unfold Zc6 at h
 split at h
 ·-- move
  rename_i ho
  simp only [ho, Op.operands, List.map_cons, List.map_nil, List.cons.injEq, and_true] at hvs
  rename_i x _ _
  subst hvs
  exact ZbP hH (by simp [execOp, ho, (hval _).1]) h (hval _).2
 ·rename_i ho
  simp only [ho, Op.operands, List.map_cons, List.map_nil, List.cons.injEq, and_true] at hvs
  subst hvs
  exact ZbP hH (by simp [execOp, ho, (hval _).1]) h (hval _).2
 ·-- pick
  rename_i ho
  simp only [ho, Op.operands, List.map_cons, List.map_nil, List.cons.injEq, and_true] at hvs
  obtain ⟨rfl, rfl, rfl⟩ := hvs
  obtain ⟨t, h1, h2⟩ := h
  refine ZbP hH ?_ h2 (by split <;> exact (hval _).2)
  simp [execOp, ho, (hval _).1, h1, asBool]
  cases t <;> rfl
 ·-- alloc
  rename_i e ho
  obtain ⟨z, hz, h⟩ := h
  obtain ⟨f1, f2⟩ := hH.fresh
  have hcv : (AV.ofV z).cells.map AV.val = z.cells.toList := by rw [AV.cells_val, AV.val_ofV]
  refine Zc9 (r := ptr w.heap.size 0) (w' := w.alloc (.cells ((AV.ofV z).cells.map AV.val).toArray e)) ?_ (h _ f1 f2) (hH.alloc_own _ _ (Zed z)) (by unfold Zar ptr; trivial) (Grow.alloc hH _ _)
  simp [execOp, ho, Instr.alloc, Zcc hz, newVar, newRow, ptr, hcv]
 ·-- box
  rename_i e _ x ho
  simp only [ho, Op.operands, List.map_cons, List.map_nil, List.cons.injEq, and_true] at hvs
  subst hvs
  obtain ⟨f1, f2⟩ := hH.fresh
  have hcv := AV.cells_val (ev env ‹_›)
  refine Zc9 (r := ptr w.heap.size 0) (w' := w.alloc (.cells (((ev env ‹_›).cells).map AV.val).toArray e)) ?_ (h _ f1 f2) (hH.alloc_own _ _ (hval _).2.cells) (by unfold Zar ptr; trivial) (Grow.alloc hH _ _)
  simp [execOp, ho, Instr.box, newVar, newRow, ptr, hcv, (hval _).1]
 ·-- build
  rename_i t parts ho
  subst hvs
  obtain ⟨z, pl, cells, hz, hp, hf, hK⟩ := h
  have hvs' : o.op.operands.toList.map (ev env) = (parts.toList.map (·.2)).map (ev env) := by rw [ho]; simp [Op.operands]
  have hb := Zjw hz hp hf
  rw [Zh4, hvs', <- hmap, ZgG] at hb
  refine ZbP hH ?_ hK ?_
  ·have := run_build (P := P) w t (parts.map fun x => (x.1, a.eval x.2)) _ (by simpa using hb)
   simp only [execOp, ho, Sem.run_bind]
   rw [show (parts.map fun (x : Nat × Operand) => match x with | (i, x) => (i, a.eval x)) = (parts.map fun x => (x.1, a.eval x.2)) from rfl, this]
   simp
  ·unfold Zar
   refine ZaY.iff.2 (ZdV _ _ _ _ hf (Zed z) fun p hp' => ?_)
   have := (List.of_mem_zip hp').2
   rw [hvs'] at this
   simp only [List.mem_map] at this
   obtain ⟨x, _, hx⟩ := this
   rw [<- hx]; exact (hval _).2
 ·-- buildSlice
  rename_i t n parts ho
  subst hvs
  obtain ⟨e, sz, z, cells, ht, hs, hz, hzs, hn, hf, hK⟩ := h
  have hvs' : o.op.operands.toList.map (ev env) = (parts.toList.map (·.2)).map (ev env) := by rw [ho]; simp [Op.operands]
  obtain ⟨f1, f2⟩ := hH.fresh
  have hr := ZeR (P := P) (w := w) ht hs hz hzs hn hf
  rw [Zh4, hvs', <- hmap, ZgG] at hr
  have hcv : ∀ c ∈ cells, Zar w (σ.free Z) c := ZdV _ _ _ _ hf (by
   intro c hc
   simp only [List.mem_map] at hc
   obtain ⟨i, _, rfl⟩ := hc
   exact Zdc _) fun p hp' => by
    have := (List.of_mem_zip hp').2
    rw [hvs'] at this
    simp only [List.mem_map] at this
    obtain ⟨x, _, hx⟩ := this
    rw [<- hx]; exact (hval _).2
  have hlen : cells.length = n * sz := by
   have := Zf7 _ _ _ _ hf
   simpa using this
  refine Zc9 (r := .lst (some ⟨w.heap.size, 0, none⟩) n n cells) ?_ (hK _ f1 f2) (by rw [<- hlen]; exact hH.alloc_tail e cells cells.length (Nat.le_refl _)) ?_ (Grow.alloc hH _ _)
  ·have : (Array.map (fun x => (x.1, a.eval x.2)) parts) = (parts.toList.map fun x => (x.1, a.eval x.2)).toArray := by apply Array.ext'; simp
   simp only [execOp, ho]
   rw [show (parts.map fun (x : Nat × Operand) => match x with | (i, x) => (i, a.eval x)) = (parts.toList.map fun x => (x.1, a.eval x.2)).toArray from this]
   simp [hr]
  ·unfold Zar
   refine ⟨Nat.le_refl _, fun h => by (cases h), fun ad had => ?_⟩
   injection had with had
   subst had
   exact Zh3 hH e cells _ hcv (by omega) _
 ·-- load
  rename_i t _ x ho
  simp only [ho, Op.operands, List.map_cons, List.map_nil, List.cons.injEq, and_true] at hvs
  subst hvs
  obtain ⟨r, h1, h2⟩ := h
  obtain ⟨h3, h4⟩ := ZgF hH (hval _).2 h1
  exact ZbP hH (by simp [execOp, ho, (hval _).1, h3]) h2 h4
 ·-- store
  rename_i t _ _ x y ho
  simp only [ho, Op.operands, List.map_cons, List.map_nil, List.cons.injEq, and_true] at hvs
  obtain ⟨rfl, rfl⟩ := hvs
  obtain ⟨σ', h1, h2⟩ := h
  obtain ⟨w', h3, h4, h5⟩ := ZiF hH (hval _).2 h1
  exact ZgH (by simp [execOp, ho, (hval _).1, h3]) h2 h4 h5
 ·-- nilCheck
  rename_i _ x ho
  simp only [ho, Op.operands, List.map_cons, List.map_nil, List.cons.injEq, and_true] at hvs
  subst hvs
  obtain ⟨h1, h2⟩ := h
  refine ZbP hH ?_ h2 (hval _).2
  simp only [execOp, ho, (hval _).1]
  unfold Zh2 at h1
  split at h1
  ·rename_i he; rw [he]; simp
  ·rename_i he; rw [he]; simp
  ·rename_i he; rw [he]; simp
  ·cases h1
 ·-- extract
  rename_i _ i l ho
  simp only [ho, Op.operands, List.map_cons, List.map_nil, List.cons.injEq, and_true] at hvs
  obtain ⟨r, h1, h2⟩ := h
  refine ZbP hH ?_ h2 ?_
  ·simp [execOp, ho, (hval _).1, hvs, Instr.extract, h1]
  ·have := (hval ‹Operand›).2
   rw [hvs] at this
   unfold Zar at this
   exact ZaY.iff.1 this r (List.mem_of_getElem? h1)
 ·-- fieldAddr, of an element
  rename_i t _ f ad cells ho
  simp only [ho, Op.operands, List.map_cons, List.map_nil, List.cons.injEq, and_true] at hvs
  obtain ⟨l, off, n, g, h1, h2, h3⟩ := h
  refine ZbP hH ?_ h3 ?_
  ·simp [execOp, ho, (hval _).1, hvs, ZgI h1 h2]
  ·have := (hval ‹Operand›).2
   rw [hvs] at this
   unfold Zar at this ⊢
   exact this.drop off
 ·rename_i t _ f ad ho
  simp only [ho, Op.operands, List.map_cons, List.map_nil, List.cons.injEq, and_true] at hvs
  obtain ⟨l, off, n, g, h1, h2, h3⟩ := h
  refine ZbP hH ?_ h3 (by unfold Zar; trivial)
  simp [execOp, ho, (hval _).1, hvs, ZgI h1 h2]
 ·-- field
  rename_i t _ f cells ho
  simp only [ho, Op.operands, List.map_cons, List.map_nil, List.cons.injEq, and_true] at hvs
  obtain ⟨l, off, n, g, r, h1, h2, h3, h4⟩ := h
  refine ZbP hH ?_ h4 ?_
  ·have := ZlP (P := P) (w := w) h1 h2 h3
   simp only [execOp, ho, (hval _).1, hvs, Sem.run_bind, this, Result.andThen_ok]
   rfl
  ·have := (hval ‹Operand›).2
   rw [hvs] at this
   unfold Zar at this
   exact ZdU h3 (ZaY.iff.1 this)
 ·-- indexAddr
  rename_i t _ _ ad n c cells i ho
  simp only [ho, Op.operands, List.map_cons, List.map_nil, List.cons.injEq, and_true] at hvs
  obtain ⟨hx, rfl⟩ := hvs
  obtain ⟨e, sz, k, j, h1, h2, h3, h4, h5⟩ := h
  rename_i ox oi
  have hv := (hval ox).2
  rw [hx] at hv
  unfold Zar at hv
  obtain ⟨hv1, hv2, hv3⟩ := hv
  refine ZbP hH ?_ h5 ?_
  ·simp [execOp, ho, (hval _).1, hx, h3, ZgJ h1 h2 h4]
  ·unfold Zar
   exact (hv3 ad rfl).drop _
 ·-- slice
  rename_i t _ lo hi mx x ix ho
  rename_i ox
  have hops : o.op.operands.toList = ox :: (lo.toArray ++ hi.toArray ++ mx.toArray).toList := by rw [ho]; simp [Op.operands]
  rw [hops, List.map_cons] at hvs
  injection hvs with hx hix
  split at h
  ·rename_i A n c cells
   obtain ⟨e, sz, h1, h2, l, h', m, h3, h4, h5, h6, h7⟩ := h
   have hv := (hval ox).2
   rw [hx] at hv
   unfold Zar at hv
   obtain ⟨hv1, hv2, hv3⟩ := hv
   refine ZbP hH ?_ h7 ?_
   ·have := ZgL (P := P) (w := w) (A := A) h1 h2 (by rw [hmap, hix]) h3 h4 h5 h6
    simp only [execOp, ho, (hval _).1, hx, AV.val_lst, Sem.run_bind, this, Result.andThen_ok]
    rfl
   ·unfold Zar
    refine ⟨by omega, fun hn => ?_, fun ad had => ?_⟩
    ·split at hn
     ·subst hn
      obtain ⟨g1, g2, g3⟩ := hv2 rfl
      subst g1 g2 g3
      refine ⟨by omega, by omega, by simp⟩
     ·cases A with
      | none =>
       obtain ⟨g1, g2, g3⟩ := hv2 rfl
       subst g1 g2 g3
       refine ⟨by omega, by omega, by simp⟩
      | some ad => cases hn
    ·split at had
     ·rw [if_pos ‹_›]; unfold ZaS; trivial
     ·rw [if_neg ‹_›]
      cases A with
      | none => cases had
      | some ad' =>
       injection had with had
       subst had
       exact (hv3 ad' rfl).drop _
  ·obtain ⟨v, h1, h2⟩ := h
   exact hpure v h1 h2
 ·-- call
  rename_i vs c ho
  split at h
  ·rename_i fo f args hc
   obtain ⟨g, first, cap, h1, h2⟩ := h
   have hops : o.op.operands.toList = fo :: c.args.toList := by rw [ho]; simp [Op.operands, Call.operands, hc]
   rw [hops, List.map_cons] at hvs
   injection hvs with hx hix
   have hev : a.eval fo = .func (.func g) first cap := by rw [(hval _).1, hx, h1]
   refine h2.sound hH ?_ ?_ ho hc hev
   ·intro x hx'
    simp only [List.mem_append, List.mem_map] at hx'
    rcases hx' with (⟨v, _, rfl⟩ | hx') | ⟨v, _, rfl⟩
    ·unfold Zar; trivial
    ·rw [<- hix] at hx'
     simp only [List.mem_map] at hx'
     obtain ⟨y, _, rfl⟩ := hx'
     exact (hval _).2
    ·unfold Zar; trivial
   ·apply Array.ext'
    simp only [Array.toList_append, Array.toList_map, List.map_append, List.map_map]
    rw [<- hix, <- hmap]
    simp [Function.comp_def]
  ·rcases h with ⟨v, h1, h2⟩ | ⟨_, h⟩
   ·exact hpure v h1 h2
   ·exact hexec h
 ·rcases h with ⟨v, h1, h2⟩ | ⟨_, h⟩
  ·exact hpure v h1 h2
  ·exact hexec h
end
end Go.Proofs.YtiienjjhlibopaaGreatDoor
namespace Go.Proofs.YtiienjjhlibopaaGreatDoor
open Go.RowKit
set_option maxRecDepth 100000
set_option linter.unusedVariables false
def ZaE (ops : Array Oper) (env : Env) (j : Nat) : Option Bool := match (ops[j]?).bind (·.dst) with
 | some t => match (env t).val with
  | .bool b => some b
  | _ => none
 | none => none
def aOp (P : Program) (ops : Array Oper) (o : Oper) (env : Env) (σ : St) (K : Env -> St -> Prop) : Prop :=
 if Region.wanted o (ZaE ops env) then Zc6 P o (o.op.operands.toList.map (ev env)) σ (fun r σ' => K (env.put o.dst r) σ') else K (env.put o.dst (.raw undef)) σ
def Zr4 (P : Program) (ops : Array Oper) (o : Oper) (env : Env) (σ : St) (K : Env -> St -> Prop) : Prop :=
 Region.wanted o (ZaE ops env) = true /\ ∃ t n parts e sz z cells, o.op = .buildSlice t n parts /\ ZaW P t = some e /\ ZaU P e = some sz /\ Zba P e = some z /\ z.cells.size = sz /\ n * sz <= 16777216 /\
  Zcz (fun i => some (i * sz, sz)) ((List.range (n * sz)).map fun i => .ofV (z.cells[i % sz]!)) ((parts.toList.map (·.1)).zip (o.op.operands.toList.map (ev env))) = some cells /\
  ∀ b, ¬ σ.used b -> σ.blk b = none -> K (env.put o.dst (.raw (.slice (some ⟨b, 0, none⟩) n n))) (σ.put b (.own e cells))
def St.use (σ : St) (b : Nat) : St := ⟨σ.blk, fun x => σ.used x \/ x = b, by
 obtain ⟨n, h⟩ := σ.fin
 refine ⟨n + b + 1, fun x hx => ?_⟩
 obtain ⟨h1, h2⟩ := h x (by omega)
 have hne : x ≠ b := by omega
 exact ⟨fun hu => hu.elim h1 hne, h2⟩⟩
def ZsL (P : Program) (ops : Array Oper) (o : Oper) (env : Env) (σ : St) (K : Env -> St -> Prop) : Prop :=
 Region.wanted o (ZaE ops env) = true /\ ∃ (t t' : TypeId) (x : Operand) (e : TypeId) (bs : List UInt8), o.op = .convert t t' x /\ P.underlying t = some .string /\ P.underlying t' = some (.slice e) /\ P.underlying e = some (.int .u8) /\ (ev env x).val = .string ⟨bs.toArray⟩ /\ bs.length <= 140737488355328 /\
  ∀ b c, ¬ σ.used b -> σ.blk b = none -> bs.length <= c -> c <= maxLen -> K (env.put o.dst (.lst (some ⟨b, 0, none⟩) bs.length c (bs.map fun u => AV.raw (.int .u8 (u.toNat : Int))))) (σ.use b)
def ZsM (P : Program) (ops : Array Oper) (o : Oper) (env : Env) (σ : St) (K : Env -> St -> Prop) : Prop :=
 Region.wanted o (ZaE ops env) = true /\ ZgD P o (o.op.operands.toList.map (ev env)) σ fun r σ' => K (env.put o.dst r) σ'
def Zbz (P : Program) (ops : Array Oper) : List Oper -> Env -> St -> (Env -> St -> Prop) -> Prop
 | [], env, σ, K => K env σ
 | o :: rest, env, σ, K => aOp P ops o env σ (fun env' σ' => Zbz P ops rest env' σ' K) \/ Zr4 P ops o env σ (fun env' σ' => Zbz P ops rest env' σ' K) \/ ZsL P ops o env σ (fun env' σ' => Zbz P ops rest env' σ' K) \/ ZsM P ops o env σ (fun env' σ' => Zbz P ops rest env' σ' K)
def ZfM (nt : Nat) (ops : List Oper) : Bool := ops.all fun o => match o.dst with
 | some d => d < nt
 | none => true
structure ZdI (D : List Deferred) (nt : Nat) (w : World) (σ : St) (Z : Nat -> Prop) (env : Env) (a : Act) : Prop where
 heap : ZaG w σ Z
 defers : a.defers = D
 size : a.tmps.size = nt
 val : ∀ i, a.tmps.getD i undef = (env i).val
 valid : ∀ i, Zar w (σ.free Z) (env i)
section
variable {P : Program} {w : World} {σ : St} {Z : Nat -> Prop} {o : Oper} {a : Act} {env : Env} {nt : Nat} {D : List Deferred}
theorem ZdI.eval (h : ZdI D nt w σ Z env a) (x : Operand) : a.eval x = (ev env x).val /\ Zar w (σ.free Z) (ev env x) := by
 cases x with
 | tmp t => exact ⟨h.val t, h.valid t⟩
 | const v => exact ⟨by simp [Act.eval, ev], by unfold ev; exact Zdc v⟩
 | global g => exact ⟨by simp [Act.eval, ev, ptr], by unfold ev ptr Zar; trivial⟩
 | func f => exact ⟨by simp [Act.eval, ev], by unfold ev Zar; trivial⟩
theorem ZdI.put {w' : World} {σ' : St} {r : AV} {d : Option Nat} (h : ZdI D nt w σ Z env a) (hd : ∀ t, d = some t -> t < nt) (hH : ZaG w' σ' Z) (hG : Grow w σ w' σ') (hr : Zar w' (σ'.free Z) r) : ZdI D nt w' σ' Z (env.put d r) (a.put d r.val) := by
 cases d with
 | none => exact ⟨hH, h.defers, h.size, h.val, fun i => hG.valid (h.valid i)⟩
 | some t =>
  refine ⟨hH, h.defers, by simp [Act.put, h.size], fun i => ?_, fun i => ?_⟩
  ·show (a.tmps.setIfInBounds t r.val).getD i undef = (if i = t then r else env i).val
   by_cases hi : i = t
   ·subst hi
    rw [if_pos rfl]
    have : i < a.tmps.size := by rw [h.size]; exact hd i rfl
    simp [Array.getD, this]
   ·rw [if_neg hi]
    have := h.val i
    simp only [Array.getD_eq_getD_getElem?] at this ⊢
    rw [Array.getElem?_setIfInBounds_ne (Ne.symm hi)]
    exact this
  ·show Zar w' (σ'.free Z) (if i = t then r else env i)
   split
   ·exact hr
   ·exact hG.valid (h.valid i)
theorem ZdI.wanted (h : ZdI D nt w σ Z env a) {ops : Array Oper} (hok : ZfM nt ops.toList = true) (o : Oper) : Region.wanted o (yielded ops a.tmps) = Region.wanted o (ZaE ops env) := by
 have : yielded ops a.tmps = ZaE ops env := by
  funext j
  unfold yielded ZaE
  cases hj : ops[j]? with
  | none => rfl
  | some oj =>
   simp only [Option.bind_some]
   cases hd : oj.dst with
   | none => rfl
   | some t =>
    simp only [Option.bind_some]
    have hlt : t < a.tmps.size := by
     rw [h.size]
     have := List.all_eq_true.1 hok oj (by simpa using Array.mem_of_getElem? hj)
     rw [hd] at this
     simpa using this
    have hv := h.val t
    simp only [Array.getD, hlt, dif_pos] at hv
    have : a.tmps[t]? = some (env t).val := by rw [Array.getElem?_eq_getElem hlt]; exact congrArg some hv
    rw [this]
    cases (env t).val <;> rfl
 rw [this]
def ZeZ (D : List Deferred) (nt : Nat) (w : World) (σ : St) (Z : Nat -> Prop) (K : Env -> St -> Prop) (a' : Act) (w' : World) : Prop :=
 ∃ env' σ', K env' σ' /\ ZdI D nt w' σ' Z env' a' /\ Grow w σ w' σ'
theorem Zfj {ops : Array Oper} {K : Env -> St -> Prop} {Q : Exit -> Act -> World -> Prop} (hI : ZdI D nt w σ Z env a) (hok : ZfM nt ops.toList = true) (ho : ∀ t, o.dst = some t -> t < nt) (h : aOp P ops o env σ K) :
 if Region.wanted o (yielded ops a.tmps) then o.wp P a w (ZeZ D nt w σ Z K) Q \/ (o.asks P a w /\ LetsOut Q) else ZeZ D nt w σ Z K (a.put o.dst undef) w := by
 rw [hI.wanted hok]
 unfold aOp at h
 split
 ·rename_i hw
  rw [if_pos hw] at h
  left
  have := Zk5 (Q := Q) hI.heap hI.eval h
  refine Oper.wp_mono ?_ this
  rintro a' w' ⟨r, σ', hK, rfl, hH, hV, hG⟩
  exact ⟨_, σ', hK, hI.put ho hH hG hV, hG⟩
 ·rename_i hw
  rw [if_neg hw] at h
  exact ⟨_, σ, h, hI.put (r := .raw undef) ho hI.heap (Grow.refl _ _) (by unfold Zar; trivial), Grow.refl _ _⟩
theorem ZeC {ops : Array Oper} {K : Env -> St -> Prop} {Q : Exit -> Act -> World -> Prop} (hI : ZdI D nt w σ Z env a) (hok : ZfM nt ops.toList = true) (ho : ∀ t, o.dst = some t -> t < nt) (h : Zr4 P ops o env σ K) :
 if Region.wanted o (yielded ops a.tmps) then o.wp P a w (ZeZ D nt w σ Z K) Q \/ (o.asks P a w /\ LetsOut Q) else ZeZ D nt w σ Z K (a.put o.dst undef) w := by
 rw [hI.wanted hok]
 obtain ⟨hw, t, n, parts, e, sz, z, cells, hop, ht, hs, hz, hzs, hn, hf, hK⟩ := h
 rw [if_pos hw]
 left
 obtain ⟨d, op, ty, pos, af, g⟩ := o
 change op = _ at hop
 subst hop
 have hvs' : (Op.buildSlice t n parts).operands.toList.map (ev env) = (parts.toList.map (·.2)).map (ev env) := by simp [Op.operands]
 obtain ⟨f1, f2⟩ := hI.heap.fresh
 have hmap : (parts.toList.map (·.2)).map a.eval = ((parts.toList.map (·.2)).map (ev env)).map AV.val := by
  rw [List.map_map (f := ev env)]
  exact List.map_congr_left fun x _ => (hI.eval x).1
 have hr := ZeR (P := P) (w := w) ht hs hz hzs hn hf
 rw [Zh4] at hr
 change (Instr.buildSlice t n ((parts.toList.map (·.1)).zip (((Op.buildSlice t n parts).operands.toList.map (ev env)).map AV.val)).toArray).run P w = _ at hr
 rw [hvs', <- hmap, ZgG] at hr
 have hcv : ∀ c ∈ cells, Zar w (σ.free Z) c := ZdV _ _ _ _ hf (by
  intro c hc
  simp only [List.mem_map] at hc
  obtain ⟨i, _, rfl⟩ := hc
  exact Zdc _) fun p hp' => by
   have := (List.of_mem_zip hp').2
   change p.2 ∈ (Op.buildSlice t n parts).operands.toList.map (ev env) at this
   rw [hvs'] at this
   simp only [List.mem_map] at this
   obtain ⟨x, _, hx⟩ := this
   rw [<- hx]; exact (hI.eval _).2
 have hG : Grow w σ (w.alloc (.cells (cells.map AV.val).toArray e)) (σ.put w.heap.size (.own e cells)) := Grow.alloc hI.heap _ _
 refine Oper.wp_mono ?_ (Zc9 (K := fun r σ' => K (env.put d r) σ') (r := .raw (.slice (some ⟨w.heap.size, 0, none⟩) n n)) ?_ (hK _ f1 f2) (hI.heap.alloc_own e cells hcv) (by unfold Zar; trivial) hG)
 ·rintro a' w' ⟨r, σ', hK, rfl, hH, hV, hG⟩
  exact ⟨_, σ', hK, hI.put ho hH hG hV, hG⟩
 ·have : (Array.map (fun x => (x.1, a.eval x.2)) parts) = (parts.toList.map fun x => (x.1, a.eval x.2)).toArray := by apply Array.ext'; simp
  simp only [execOp]
  rw [show (parts.map fun (x : Nat × Operand) => match x with | (i, x) => (i, a.eval x)) = (parts.toList.map fun x => (x.1, a.eval x.2)).toArray from this]
  simp [hr]
theorem Zk6 {ops : Array Oper} {K : Env -> St -> Prop} {Q : Exit -> Act -> World -> Prop} (hI : ZdI D nt w σ Z env a) (hok : ZfM nt ops.toList = true) (ho : ∀ t, o.dst = some t -> t < nt) (h : ZsL P ops o env σ K) :
 if Region.wanted o (yielded ops a.tmps) then o.wp P a w (ZeZ D nt w σ Z K) Q \/ (o.asks P a w /\ LetsOut Q) else ZeZ D nt w σ Z K (a.put o.dst undef) w := by
 rw [hI.wanted hok]
 obtain ⟨hw, t, t', x, e, bs, hop, ht, ht', he, hx, hlen, hK⟩ := h
 rw [if_pos hw]
 left
 obtain ⟨d, op, ty, pos, af, g⟩ := o
 change op = _ at hop
 subst hop
 obtain ⟨f1, f2⟩ := hI.heap.fresh
 have hxv : a.eval x = .string ⟨bs.toArray⟩ := (hI.eval x).1.trans hx
 have hsz : (ByteArray.mk bs.toArray).size = bs.length := by show bs.toArray.size = _; simp
 have hr := Lib.run_convert_string_bytes (P := P) w t t' e ⟨bs.toArray⟩ ht ht' he
 have hge := grownCap_ge w (ByteArray.mk bs.toArray).size 0 e
 have hle := grownCap_le_maxLen w (ByteArray.mk bs.toArray).size 0 e (by rw [hsz]; unfold maxLen; omega)
 rw [hsz] at hr hge hle
 have hG : Grow w σ (Lib.bytesWorld w e ⟨bs.toArray⟩) (σ.use w.heap.size) := by
  refine ⟨?_, ?_, ?_, by rw [Lib.bytesWorld_size]; omega, fun b hb hu => ?_, fun b hb hn => ⟨Lib.bytesWorld_at_old w e _ b hb, hn⟩, fun b t k s hb ht => ⟨fun j v _ hv => by rw [Lib.bytesWorld_old w e _ _ hb]; exact hv, .inr ⟨t, k, s, ht, Nat.le_refl _⟩⟩, fun b hu => .inl hu⟩
  ·unfold Lib.bytesWorld World.freeze; split <;> rfl
  ·unfold Lib.bytesWorld World.freeze; split <;> rfl
  ·unfold Lib.bytesWorld World.freeze; split <;> rfl
  ·rcases hu with hu | rfl
   ·exact hu
   ·exact absurd hb (Nat.lt_irrefl _)
 have hH : ZaG (Lib.bytesWorld w e ⟨bs.toArray⟩) (σ.use w.heap.size) Z := by
  refine ⟨fun b hu => ?_, fun b hz => ?_, fun b t cs hb => ?_, fun b t k s hb => ?_, fun b es hb => ?_⟩
  ·rw [Lib.bytesWorld_size]
   rcases hu with hu | rfl
   ·have := hI.heap.used _ hu; omega
   ·omega
  ·obtain ⟨z1, z2⟩ := hI.heap.z _ hz
   exact ⟨Nat.lt_of_lt_of_le z1 hG.size, z2⟩
  ·obtain ⟨g1, g2, g3⟩ := hI.heap.own _ _ _ hb
   exact ⟨.inl g1, (Lib.bytesWorld_at_old w e _ b (hI.heap.used _ g1)).trans g2, fun c hc => hG.valid (g3 c hc)⟩
  ·obtain ⟨g1, cs, g2, g3⟩ := hI.heap.tail _ _ _ _ hb
   exact ⟨.inl g1, cs, (Lib.bytesWorld_at_old w e _ b (hI.heap.used _ g1)).trans g2, g3⟩
  ·obtain ⟨g1, a', c', g2, g3⟩ := hI.heap.map _ _ hb
   exact ⟨.inl g1, a', c', (Lib.bytesWorld_at_old w e _ b (hI.heap.used _ g1)).trans g2, g3⟩
 have hV : Zar (Lib.bytesWorld w e ⟨bs.toArray⟩) ((σ.use w.heap.size).free Z) (.lst (some ⟨w.heap.size, 0, none⟩) bs.length (grownCap w bs.length 0 e) (bs.map fun u => AV.raw (.int .u8 (u.toNat : Int)))) := by
  unfold Zar
  refine ⟨hge, (fun hq => by cases hq), fun ad' had' => ?_⟩
  injection had' with had'
  subst had'
  refine ZaS.mk fun j q hq => ?_
  rw [Nat.zero_add]
  rw [List.getElem?_map] at hq
  cases hj : bs[j]? with
  | none => rw [hj] at hq; cases hq
  | some u =>
   rw [hj] at hq
   injection hq with hq
   subst hq
   have hjl : j < bs.length := by
    rcases Nat.lt_or_ge j bs.length with h | h
    ·exact h
    ·rw [List.getElem?_eq_none h] at hj; cases hj
   have hcell := Lib.bytesWorld_cell w e ⟨bs.toArray⟩ j (by rw [hsz]; exact hjl)
   rw [show (bs.toArray.toList.getD j 0) = u from by simp [List.getD_eq_getElem?_getD, hj]] at hcell
   have e0 : (⟨w.heap.size, 0, none⟩ : Addr).add j = ⟨w.heap.size, j, none⟩ := by unfold Addr.add; split <;> simp_all
   refine ⟨by rw [e0]; exact hcell, ⟨fun hz => Nat.lt_irrefl _ (hI.heap.z _ hz).1, .inr rfl, ?_⟩, by unfold Zar; trivial⟩
   dsimp only
   rw [show (σ.use w.heap.size).blk w.heap.size = none from f2]
   trivial
 refine Oper.wp_mono ?_ (Zc9 (K := fun r σ' => K (env.put d r) σ') (r := .lst (some ⟨w.heap.size, 0, none⟩) bs.length (grownCap w bs.length 0 e) (bs.map fun u => AV.raw (.int .u8 (u.toNat : Int)))) ?_ (hK _ _ f1 f2 hge hle) hH hV hG)
 ·rintro a' w' ⟨r, σ', hK, rfl, hH, hV, hG⟩
  exact ⟨_, σ', hK, hI.put ho hH hG hV, hG⟩
 ·simp only [execOp]
  rw [hxv]
  simp [hr]
theorem Zk7 {ops : Array Oper} {K : Env -> St -> Prop} {Q : Exit -> Act -> World -> Prop} (hI : ZdI D nt w σ Z env a) (hok : ZfM nt ops.toList = true) (ho : ∀ t, o.dst = some t -> t < nt) (h : ZsM P ops o env σ K) :
 if Region.wanted o (yielded ops a.tmps) then o.wp P a w (ZeZ D nt w σ Z K) Q \/ (o.asks P a w /\ LetsOut Q) else ZeZ D nt w σ Z K (a.put o.dst undef) w := by
 rw [hI.wanted hok]
 obtain ⟨hw, h⟩ := h
 rw [if_pos hw]
 left
 have hmap : ∀ l : List Operand, l.map a.eval = (l.map (ev env)).map AV.val := fun l => by
  rw [List.map_map]
  exact List.map_congr_left fun x _ => (hI.eval x).1
 obtain ⟨r, σ', w', hr, hK, hH', hV', hG⟩ := h a.eval (hmap _) w Z hI.heap (fun v hv => by
  simp only [List.mem_map] at hv
  obtain ⟨x, _, rfl⟩ := hv
  exact (hI.eval x).2)
 rcases hr with hr | ⟨hr, rfl⟩
 ·refine Oper.wp_mono ?_ (Zc9 (K := fun r σ' => K (env.put o.dst r) σ') hr hK hH' hV' hG)
  rintro a' w' ⟨r, σ', hK, rfl, hH, hV, hG⟩
  exact ⟨_, σ', hK, hI.put ho hH hG hV, hG⟩
 ·refine Oper.wp_mono ?_ (ZgH (K := fun r σ' => K (env.put o.dst r) σ') hr hK hH' hG)
  rintro a' w' ⟨r, σ', hK, rfl, hH, hV, hG⟩
  exact ⟨_, σ', hK, hI.put ho hH hG hV, hG⟩
theorem Ze0 {ops : Array Oper} {Q : Exit -> Act -> World -> Prop} (hok : ZfM nt ops.toList = true) : ∀ (l : List Oper) (env : Env) (σ : St) (a : Act) (w : World) (K : Env -> St -> Prop), (∀ o ∈ l, o ∈ ops.toList) -> ZdI D nt w σ Z env a -> Zbz P ops l env σ K ->
 (∀ a' w', ZeZ D nt w σ Z K a' w' -> Q .normal a' w') -> wpList P ops Q l a w
 | [], env, σ, a, w, K, _, hI, h, hQ => hQ a w ⟨env, σ, h, hI, Grow.refl _ _⟩
 | o :: l, env, σ, a, w, K, hm, hI, h, hQ => by
  have ho : ∀ t, o.dst = some t -> t < nt := fun t ht => by
   have := List.all_eq_true.1 hok o (hm o (List.mem_cons_self))
   rw [ht] at this
   simpa using this
  have hs := h.elim (Zfj (Q := Q) hI hok ho) fun h => h.elim (ZeC (Q := Q) hI hok ho) fun h => h.elim (Zk6 (Q := Q) hI hok ho) (Zk7 (Q := Q) hI hok ho)
  have step : ∀ a' w', ZeZ D nt w σ Z (fun env' σ' => Zbz P ops l env' σ' K) a' w' -> wpList P ops Q l a' w' := by
   rintro a' w' ⟨env', σ', hK, hI', hG⟩
   refine Ze0 hok l env' σ' a' w' K (fun x hx => hm x (List.mem_cons_of_mem _ hx)) hI' hK ?_
   rintro a2 w2 ⟨env2, σ2, hK2, hI2, hG2⟩
   exact hQ a2 w2 ⟨env2, σ2, hK2, hI2, hG.trans hG2⟩
  unfold wpList
  split
  ·rename_i hw
   rw [if_pos hw] at hs
   rcases hs with hs | hs
   ·exact .inl (Oper.wp_mono step hs)
   ·exact .inr hs
  ·rename_i hw
   rw [if_neg hw] at hs
   exact step _ _ hs
end
end Go.Proofs.YtiienjjhlibopaaGreatDoor
namespace Go.Proofs.YtiienjjhlibopaaGreatDoor
open Go.RowKit
set_option maxRecDepth 100000
set_option linter.unusedVariables false
def Zgg (Pres : Nat -> Prop) (σ σ' : St) : Prop := ∀ b t cs, Pres b -> σ.blk b = some (.own t cs) -> σ'.blk b = some (.own t cs)
def ZeM (P : Program) (ops : Array Oper) (Pres : Nat -> Prop) (lf cf : Bool) (o : Oper) (env : Env) (σ : St) (K : AV -> St -> Prop) : Prop :=
 if Region.wanted o (ZaE ops env) then
  ((lf && ZbA o == .load) = true -> ∀ b o', o.op.operands.toList.map (ev env) = [ptr b o'] -> Pres b) /\
  Zc6 P o (o.op.operands.toList.map (ev env)) σ (fun r σ' => ((cf && ZbC o) = true -> Zgg Pres σ σ') /\ K r σ')
 else K (.raw undef) σ
def CXv (P : Program) (o : Oper) (vs : List AV) (n : Nat) (e : TypeId) (cells : List AV) : Prop :=
 ∃ t parts sz z, o.op = .buildSlice t n parts /\ ZaW P t = some e /\ ZaU P e = some sz /\ Zba P e = some z /\ z.cells.size = sz /\ n * sz <= 16777216 /\
  Zcz (fun i => some (i * sz, sz)) ((List.range (n * sz)).map fun i => .ofV (z.cells[i % sz]!)) ((parts.toList.map (·.1)).zip vs) = some cells
def CX (P : Program) (o : Oper) (env : Env) : Prop := ∃ n e cells, CXv P o (o.op.operands.toList.map (ev env)) n e cells
def Zr5 (P : Program) (o : Oper) (vs : List AV) (σ : St) (K : AV -> St -> Prop) : Prop :=
 ∃ n e cells, CXv P o vs n e cells /\ ∀ b, ¬ σ.used b -> σ.blk b = none -> K (.raw (.slice (some ⟨b, 0, none⟩) n n)) (σ.put b (.own e cells))
def ZdL (P : Program) (ops : Array Oper) (Pres : Nat -> Prop) (lf cf ow : Bool) (o : Oper) (env : Env) (σ : St) (K : AV -> St -> Prop) : Prop :=
 if ow = true then (if Region.wanted o (ZaE ops env) = true then Zr5 P o (o.op.operands.toList.map (ev env)) σ K else K (.raw undef) σ) else ZeM P ops Pres lf cf o env σ K
def Zbc (P : Program) (ops : Array Oper) (Pres : Nat -> Prop) (lf cf ow : Nat -> Bool) : List Nat -> Env -> St -> (Env -> St -> Prop) -> Prop
 | [], env, σ, K => K env σ
 | i :: rest, env, σ, K => match ops[i]? with
  | none => Zbc P ops Pres lf cf ow rest env σ K
  | some o => ZdL P ops Pres (lf i) (cf i) (ow i) o env σ fun r σ' => Zbc P ops Pres lf cf ow rest (env.put o.dst r) σ' K
section
variable {P : Program} {ops : Array Oper} {Pres : Nat -> Prop} {o p q : Oper} {env : Env} {σ : St} {lf cf lf' cf' : Bool}
theorem Zan.mono {f : FuncId} {args : List AV} {K K' : AV -> St -> Prop} (h : Zan P f args σ K) (hk : ∀ r σ', K r σ' -> K' r σ') : Zan P f args σ K' :=
 fun w Z hH hV => (h w Z hH hV).mono fun e w' ⟨r, σ', h1, h2, h3⟩ => ⟨r, σ', h1, hk _ _ h2, h3⟩
theorem ZgD.mono {vs : List AV} {K K' : AV -> St -> Prop} (h : ZgD P o vs σ K) (hk : ∀ r σ', K r σ' -> K' r σ') : ZgD P o vs σ K' := fun ρ hρ w Z hH hV => by
 obtain ⟨r, σ', w', h1, h2, h3⟩ := h ρ hρ w Z hH hV
 exact ⟨r, σ', w', h1, hk _ _ h2, h3⟩
theorem ZdM {vs : List AV} {K K' : AV -> St -> Prop} (hk : ∀ r σ', K r σ' -> K' r σ') (h : Zc6 P o vs σ K) : Zc6 P o vs σ K' := by
 unfold Zc6 at h ⊢
 split at h
 ·exact hk _ _ h
 ·exact hk _ _ h
 ·obtain ⟨t, h1, h2⟩ := h; exact ⟨t, h1, hk _ _ h2⟩
 ·obtain ⟨z, h1, h2⟩ := h; exact ⟨z, h1, fun b h3 h4 => hk _ _ (h2 b h3 h4)⟩
 ·exact fun b h3 h4 => hk _ _ (h b h3 h4)
 ·obtain ⟨z, pl, cells, h1, h2, h3, h4⟩ := h; exact ⟨z, pl, cells, h1, h2, h3, hk _ _ h4⟩
 ·obtain ⟨e, sz, z, cells, h1, h2, h3, h4, h5, h6, h7⟩ := h; exact ⟨e, sz, z, cells, h1, h2, h3, h4, h5, h6, fun b g1 g2 => hk _ _ (h7 b g1 g2)⟩
 ·obtain ⟨r, h1, h2⟩ := h; exact ⟨r, h1, hk _ _ h2⟩
 ·obtain ⟨σ', h1, h2⟩ := h; exact ⟨σ', h1, hk _ _ h2⟩
 ·exact ⟨h.1, hk _ _ h.2⟩
 ·obtain ⟨r, h1, h2⟩ := h; exact ⟨r, h1, hk _ _ h2⟩
 ·obtain ⟨l, off, n, g, h1, h2, h3⟩ := h; exact ⟨l, off, n, g, h1, h2, hk _ _ h3⟩
 ·obtain ⟨l, off, n, g, h1, h2, h3⟩ := h; exact ⟨l, off, n, g, h1, h2, hk _ _ h3⟩
 ·obtain ⟨l, off, n, g, r, h1, h2, h3, h4⟩ := h; exact ⟨l, off, n, g, r, h1, h2, h3, hk _ _ h4⟩
 ·obtain ⟨e, sz, k, j, h1, h2, h3, h4, h5⟩ := h; exact ⟨e, sz, k, j, h1, h2, h3, h4, hk _ _ h5⟩
 ·split at h
  ·obtain ⟨e, sz, h1, h2, l, h', m, h3, h4, h5, h6, h7⟩ := h; exact ⟨e, sz, h1, h2, l, h', m, h3, h4, h5, h6, hk _ _ h7⟩
  ·obtain ⟨v, h1, h2⟩ := h; exact ⟨v, h1, hk _ _ h2⟩
 ·split at h
  ·obtain ⟨g, first, cap, h1, h2⟩ := h; exact ⟨g, first, cap, h1, h2.mono hk⟩
  ·exact h.imp (fun ⟨v, h1, h2⟩ => ⟨v, h1, hk _ _ h2⟩) (fun ⟨h1, h2⟩ => ⟨h1, h2.mono hk⟩)
 ·exact h.imp (fun ⟨v, h1, h2⟩ => ⟨v, h1, hk _ _ h2⟩) (fun ⟨h1, h2⟩ => ⟨h1, h2.mono hk⟩)
theorem ZlQ {K K' : AV -> St -> Prop} (hk : ∀ r σ', K r σ' -> K' r σ') (h : ZeM P ops Pres lf cf o env σ K) : ZeM P ops Pres lf cf o env σ K' := by
 unfold ZeM at h ⊢
 split
 ·rename_i hw
  rw [if_pos hw] at h
  exact ⟨h.1, ZdM (fun r σ' h' => ⟨h'.1, hk _ _ h'.2⟩) h.2⟩
 ·rename_i hw
  rw [if_neg hw] at h
  exact hk _ _ h
theorem ZlR {K : AV -> St -> Prop} (h : ZeM P ops Pres lf cf o env σ K) : aOp P ops o env σ (fun env' σ' => ∃ r, env' = env.put o.dst r /\ K r σ') := by
 unfold ZeM at h
 unfold aOp
 split
 ·rename_i hw
  rw [if_pos hw] at h
  exact ZdM (fun r σ' h' => ⟨r, rfl, h'.2⟩) h.2
 ·rename_i hw
  rw [if_neg hw] at h
  exact ⟨_, rfl, h⟩
theorem Za0 : ZdL P ops Pres lf cf false o = ZeM P ops Pres lf cf o := by funext env σ K; unfold ZdL; rw [if_neg (by decide)]
theorem Zdd {ow : Bool} {K K' : AV -> St -> Prop} (hk : ∀ r σ', K r σ' -> K' r σ') (h : ZdL P ops Pres lf cf ow o env σ K) : ZdL P ops Pres lf cf ow o env σ K' := by
 unfold ZdL at h ⊢
 split
 ·rename_i ho
  rw [if_pos ho] at h
  split
  ·rename_i hw
   rw [if_pos hw] at h
   obtain ⟨n, e, cells, h1, h2⟩ := h
   exact ⟨n, e, cells, h1, fun b g1 g2 => hk _ _ (h2 b g1 g2)⟩
  ·rename_i hw
   rw [if_neg hw] at h
   exact hk _ _ h
 ·rename_i ho
  rw [if_neg ho] at h
  exact ZlQ hk h
theorem ZgM {ow : Bool} {K : AV -> St -> Prop} (h : ZdL P ops Pres lf cf ow o env σ K) : aOp P ops o env σ (fun env' σ' => ∃ r, env' = env.put o.dst r /\ K r σ') \/ Zr4 P ops o env σ (fun env' σ' => ∃ r, env' = env.put o.dst r /\ K r σ') := by
 unfold ZdL at h
 split at h
 ·split at h
  ·rename_i hw
   obtain ⟨n, e, cells, ⟨t, parts, sz, z, h1, h2, h3, h4, h5, h6, h7⟩, h8⟩ := h
   exact .inr ⟨hw, t, n, parts, e, sz, z, cells, h1, h2, h3, h4, h5, h6, h7, fun b g1 g2 => ⟨_, rfl, h8 b g1 g2⟩⟩
  ·rename_i hw
   left
   unfold aOp
   rw [if_neg hw]
   exact ⟨_, rfl, h⟩
 ·exact .inl (ZlR h)
def Zpp (M : St -> (AV -> St -> Prop) -> Prop) : Prop := ∃ F : AV -> Prop, ∀ σ K, M σ K ↔ ∃ r, F r /\ K r σ
def Zk8 (Pres : Nat -> Prop) (fl : Bool) (M : St -> (AV -> St -> Prop) -> Prop) : Prop := ∃ F : St -> AV -> Prop, (∀ σ K, M σ K ↔ ∃ r, F σ r /\ K r σ) /\
 (∀ σ b k r, F σ r -> σ.blk b = none -> F (σ.put b k) r) /\ (fl = true -> ∀ σ σ' r, F σ r -> Zgg Pres σ σ' -> F σ' r)
def NoF (M : St -> (AV -> St -> Prop) -> Prop) : Prop := ∀ σ K, M σ K ↔ K (.raw undef) σ
def ZhC (M : St -> (AV -> St -> Prop) -> Prop) : Prop := ∃ (C : Prop) (mk : Nat -> AV) (k : Bk), ∀ σ K, M σ K ↔ C /\ ∀ b, ¬ σ.used b -> σ.blk b = none -> K (mk b) (σ.put b k)
def Zkd (M0 : St -> (AV -> St -> Prop) -> Prop) : Prop := ∀ σ b t cs K, ¬ σ.used b -> σ.blk b = none -> M0 σ K -> M0 (σ.put b (.own t cs)) fun r τ => ∃ σ', ¬ σ'.used b /\ σ'.blk b = none /\ τ = σ'.put b (.own t cs) /\ K r σ'
def Zr6 (Pres : Nat -> Prop) (fl : Bool) (M : St -> (AV -> St -> Prop) -> Prop) : Prop := ∃ M0 : St -> (AV -> St -> Prop) -> Prop, (∀ σ K K', (∀ r σ', K r σ' -> K' r σ') -> M0 σ K -> M0 σ K') /\ ∀ σ K, M σ K ↔ M0 σ (fun r σ' => (fl = true -> Zgg Pres σ σ') /\ K r σ')
def FrF (Pres : Nat -> Prop) (fl : Bool) (M : St -> (AV -> St -> Prop) -> Prop) : Prop := ∃ M0 : St -> (AV -> St -> Prop) -> Prop, Zkd M0 /\ (∀ σ K K', (∀ r σ', K r σ' -> K' r σ') -> M0 σ K -> M0 σ K') /\ ∀ σ K, M σ K ↔ M0 σ (fun r σ' => (fl = true -> Zgg Pres σ σ') /\ K r σ')
theorem noF (hw : ¬ Region.wanted o (ZaE ops env) = true) : NoF (ZeM P ops Pres lf cf o env) := fun σ K => by unfold ZeM; rw [if_neg hw]
theorem ZiI (hk : ZbA o = .pure) (vs : List AV) : ∃ F : AV -> Prop, ∀ σ K, Zc6 P o vs σ K ↔ ∃ r, F r /\ K r σ := by
 have hne : ¬ ZbA o = .exec := by rw [hk]; simp
 unfold ZbA at hk
 unfold Zc6
 split
 ·rename_i x _
  exact ⟨fun r => r = x, fun σ K => by simp⟩
 ·rename_i x _
  exact ⟨fun r => r = x, fun σ K => by simp⟩
 ·rename_i c a b _
  refine ⟨fun r => ∃ t, c.val = .bool t /\ r = if t then a else b, fun σ K => ⟨fun ⟨t, h1, h2⟩ => ⟨_, ⟨t, h1, rfl⟩, h2⟩, fun ⟨r, ⟨t, h1, h2⟩, h3⟩ => ⟨t, h1, h2 ▸ h3⟩⟩⟩
 ·rename_i ho; rw [ho] at hk; cases hk
 ·rename_i ho; rw [ho] at hk; cases hk
 ·rename_i vs _ _ t parts _
  refine ⟨fun r => ∃ z pl cells, Zba P t = some z /\ ZbE P t = some pl /\ Zcz (fun i => pl[i]?) (AV.ofV z).cells ((parts.toList.map (·.1)).zip vs) = some cells /\ r = .agg cells, fun σ K => ⟨fun ⟨z, pl, cells, h1, h2, h3, h4⟩ => ⟨_, ⟨z, pl, cells, h1, h2, h3, rfl⟩, h4⟩, fun ⟨r, ⟨z, pl, cells, h1, h2, h3, h5⟩, h4⟩ => ⟨z, pl, cells, h1, h2, h3, h5 ▸ h4⟩⟩⟩
 ·rename_i ho; rw [ho] at hk; cases hk
 ·rename_i ho; rw [ho] at hk; cases hk
 ·rename_i ho; rw [ho] at hk; cases hk
 ·rename_i x _
  exact ⟨fun r => Zh2 x = true /\ r = x, fun σ K => ⟨fun ⟨h1, h2⟩ => ⟨_, ⟨h1, rfl⟩, h2⟩, fun ⟨r, ⟨h1, h2⟩, h3⟩ => ⟨h1, h2 ▸ h3⟩⟩⟩
 ·exact ⟨_, fun σ K => Iff.rfl⟩
 ·rename_i t _ f ad cells _
  exact ⟨fun r => ∃ l off n g, Za3 P t = some l /\ l[f]? = some (off, some (n + 1), g) /\ r = (.eptr (ad.add off) (cells.drop off)), fun σ K => ⟨fun ⟨l, off, n, g, h1, h2, h3⟩ => ⟨_, ⟨l, off, n, g, h1, h2, rfl⟩, h3⟩, fun ⟨r, ⟨l, off, n, g, h1, h2, h4⟩, h3⟩ => ⟨l, off, n, g, h1, h2, h4 ▸ h3⟩⟩⟩
 ·rename_i t _ f ad _
  exact ⟨fun r => ∃ l off n g, Za3 P t = some l /\ l[f]? = some (off, some (n + 1), g) /\ r = (.raw (.pointer (some (ad.add off)))), fun σ K => ⟨fun ⟨l, off, n, g, h1, h2, h3⟩ => ⟨_, ⟨l, off, n, g, h1, h2, rfl⟩, h3⟩, fun ⟨r, ⟨l, off, n, g, h1, h2, h4⟩, h3⟩ => ⟨l, off, n, g, h1, h2, h4 ▸ h3⟩⟩⟩
 ·rename_i t _ f cells _
  exact ⟨fun r => ∃ l off n g, Za3 P t = some l /\ l[f]? = some (off, n, g) /\ Zbi g n cells off = some r, fun σ K => ⟨fun ⟨l, off, n, g, r, h1, h2, h3, h4⟩ => ⟨r, ⟨l, off, n, g, h1, h2, h3⟩, h4⟩, fun ⟨r, ⟨l, off, n, g, h1, h2, h3⟩, h4⟩ => ⟨l, off, n, g, r, h1, h2, h3, h4⟩⟩⟩
 ·rename_i t _ _ ad n c cells i _
  exact ⟨fun r => ∃ (e : TypeId) (sz : Nat) (k : IntKind) (j : Nat), ZaW P t = some e /\ ZaU P e = some sz /\ i.val = .int k j /\ j < n /\ r = (.eptr (ad.add (j * sz)) (cells.drop (j * sz))), fun σ K => ⟨fun ⟨e, sz, k, j, h1, h2, h3, h4, h5⟩ => ⟨_, ⟨e, sz, k, j, h1, h2, h3, h4, rfl⟩, h5⟩, fun ⟨r, ⟨e, sz, k, j, h1, h2, h3, h4, h6⟩, h5⟩ => ⟨e, sz, k, j, h1, h2, h3, h4, h6 ▸ h5⟩⟩⟩
 ·rename_i t _ lo hi mx x ix _
  split
  ·rename_i A n c cells
   exact ⟨fun r => ∃ e sz, ZaW P t = some e /\ ZaU P e = some sz /\ ∃ l h m, Zcs n c lo.isSome hi.isSome mx.isSome ix l h m /\ l <= h /\ h <= m /\ m <= c /\ r = (.lst (if m = l then A else A.map (·.add (l * sz))) (h - l) (m - l) (if m = l then [] else cells.drop (l * sz))),
    fun σ K => ⟨fun ⟨e, sz, h1, h2, l, h, m, h3, h4, h5, h6, h7⟩ => ⟨_, ⟨e, sz, h1, h2, l, h, m, h3, h4, h5, h6, rfl⟩, h7⟩, fun ⟨r, ⟨e, sz, h1, h2, l, h, m, h3, h4, h5, h6, h8⟩, h7⟩ => ⟨e, sz, h1, h2, l, h, m, h3, h4, h5, h6, h8 ▸ h7⟩⟩⟩
  ·exact ⟨fun r => ∃ v, ZdC P o _ v /\ r = .raw v, fun σ K => ⟨fun ⟨v, h1, h2⟩ => ⟨_, ⟨v, h1, rfl⟩, h2⟩, fun ⟨r, ⟨v, h1, h3⟩, h2⟩ => ⟨v, h1, h3 ▸ h2⟩⟩⟩
 ·rename_i c vs ho
  rw [ho] at hk
  dsimp only at hk
  split
  ·rename_i hc
   rw [hc] at hk
   cases hk
  ·exact ⟨fun r => ∃ v, ZdC P o _ v /\ r = .raw v, fun σ K => ⟨fun h => h.elim (fun ⟨v, h1, h2⟩ => ⟨_, ⟨v, h1, rfl⟩, h2⟩) (fun h => absurd h.1 hne), fun ⟨r, ⟨v, h1, h3⟩, h2⟩ => .inl ⟨v, h1, h3 ▸ h2⟩⟩⟩
 ·exact ⟨fun r => ∃ v, ZdC P o _ v /\ r = .raw v, fun σ K => ⟨fun h => h.elim (fun ⟨v, h1, h2⟩ => ⟨_, ⟨v, h1, rfl⟩, h2⟩) (fun h => absurd h.1 hne), fun ⟨r, ⟨v, h1, h3⟩, h2⟩ => .inl ⟨v, h1, h3 ▸ h2⟩⟩⟩
theorem ZqU (hk : ZbA o = .pure) (hw : Region.wanted o (ZaE ops env) = true) : Zpp (ZeM P ops Pres lf cf o env) := by
 obtain ⟨F, hF⟩ := ZiI (P := P) hk (o.op.operands.toList.map (ev env))
 refine ⟨F, fun σ K => ?_⟩
 unfold ZeM
 rw [if_pos hw, hF]
 simp [hk, ZbC]
theorem ZiJ {t : TypeId} {a r : AV} {b : Nat} {k : Bk} (h : ZbU P t σ a = some r) (hb : σ.blk b = none) : ZbU P t (σ.put b k) a = some r := by
 unfold ZbU at h ⊢
 split at h
 ·rename_i b' o'
  have hne : b' ≠ b := by
   rintro rfl
   rw [hb] at h
   cases h
  have : (σ.put b k).blk b' = σ.blk b' := by
   show (if b' = b then _ else σ.blk b') = _
   rw [if_neg hne]
  rw [this]
  exact h
 ·exact h
 ·cases h
theorem Zjx {t : TypeId} {a r : AV} {σ' : St} (h : ZbU P t σ a = some r) (hp : ∀ b o', a = ptr b o' -> Pres b) (hk : Zgg Pres σ σ') : ZbU P t σ' a = some r := by
 unfold ZbU at h ⊢
 split at h
 ·rename_i b' o'
  split at h
  ·rename_i e cs hb
   rw [hk b' e cs (hp b' o' rfl) hb]
   exact h
  ·cases h
 ·exact h
 ·cases h
theorem ZiK (hk : ZbA o = .load) (hw : Region.wanted o (ZaE ops env) = true) : Zk8 Pres lf (ZeM P ops Pres lf cf o env) := by
 obtain ⟨t, x, ho⟩ : ∃ t x, o.op = .load t x := by
  unfold ZbA at hk
  split at hk <;> first | (cases hk; done) | skip
  ·exact ⟨_, _, ‹_›⟩
  ·split at hk <;> cases hk
 have hvs : o.op.operands.toList.map (ev env) = [ev env x] := by rw [ho]; simp [Op.operands]
 have hM : ∀ σ K, ZeM P ops Pres lf cf o env σ K ↔ ∃ r, ((lf = true -> ∀ b o', ev env x = ptr b o' -> Pres b) /\ ZbU P t σ (ev env x) = some r) /\ K r σ := by
  intro σ K
  unfold ZeM
  rw [if_pos hw, hvs]
  unfold Zc6
  rw [ho]
  dsimp only
  simp only [hk, ZbC]
  constructor
  ·rintro ⟨h1, r, h2, h3⟩
   exact ⟨r, ⟨fun hl b o' e => h1 (by simp [hl]) b o' (by rw [e]), h2⟩, h3.2⟩
  ·rintro ⟨r, ⟨h1, h2⟩, h3⟩
   exact ⟨fun hl b o' e => h1 (by simpa using hl) b o' (by simpa using e), r, h2, by simp, h3⟩
 refine ⟨_, hM, fun σ b k r h hb => ⟨h.1, ZiJ h.2 hb⟩, fun hl σ σ' r h hkp => ⟨h.1, Zjx h.2 (h.1 hl) hkp⟩⟩
theorem ZqV (hk : ZbA o = .alloc \/ ZbA o = .row) (hw : Region.wanted o (ZaE ops env) = true) : ZhC (ZeM P ops Pres lf cf o env) := by
 have hnl : (lf && ZbA o == .load) = false := by rcases hk with hk | hk <;> simp [hk]
 have hnc : (cf && ZbC o) = false := by rcases hk with hk | hk <;> simp [hk, ZbC]
 have hM : ∀ σ K, ZeM P ops Pres lf cf o env σ K ↔ Zc6 P o (o.op.operands.toList.map (ev env)) σ K := by
  intro σ K
  unfold ZeM
  rw [if_pos hw, hnl, hnc]
  simp
 have h3 : (∃ e, o.op = .alloc e) \/ (∃ e x, o.op = .box e x) \/ ∃ t n parts, o.op = .buildSlice t n parts := by
  unfold ZbA at hk
  split at hk <;> first | (rcases hk with hk | hk <;> cases hk; done) | skip
  ·exact .inl ⟨_, ‹_›⟩
  ·exact .inr (.inl ⟨_, _, ‹_›⟩)
  ·exact .inr (.inr ⟨_, _, _, ‹_›⟩)
  ·split at hk <;> (rcases hk with hk | hk <;> cases hk)
 rcases h3 with ⟨e, ho⟩ | ⟨e, x, ho⟩ | ⟨t, n, parts, ho⟩
 ·have hvs : o.op.operands.toList.map (ev env) = [] := by rw [ho]; simp [Op.operands]
  refine ⟨∃ z, Zba P e = some z, fun b => ptr b 0, .own e (AV.ofV ((Zba P e).getD undef)).cells, fun σ K => ?_⟩
  rw [hM, hvs]
  unfold Zc6
  rw [ho]
  dsimp only
  constructor
  ·rintro ⟨z, h1, h2⟩
   exact ⟨⟨z, h1⟩, by rw [h1]; exact h2⟩
  ·rintro ⟨⟨z, h1⟩, h2⟩
   rw [h1] at h2
   exact ⟨z, h1, h2⟩
 ·have hvs : o.op.operands.toList.map (ev env) = [ev env x] := by rw [ho]; simp [Op.operands]
  refine ⟨True, fun b => ptr b 0, .own e (ev env x).cells, fun σ K => ?_⟩
  rw [hM, hvs]
  unfold Zc6
  rw [ho]
  simp
 ·generalize hvs : o.op.operands.toList.map (ev env) = vs at hM
  by_cases hC : ∃ e sz z cells, ZaW P t = some e /\ ZaU P e = some sz /\ Zba P e = some z /\ z.cells.size = sz /\ n * sz <= 16777216 /\ Zcz (fun i => some (i * sz, sz)) ((List.range (n * sz)).map fun i => .ofV (z.cells[i % sz]!)) ((parts.toList.map (·.1)).zip vs) = some cells
  ·obtain ⟨e, sz, z, cells, h1, h2, h3, h4, h5, h6⟩ := hC
   refine ⟨True, fun b => .lst (some ⟨b, 0, none⟩) n n cells, .tail e (n * sz) (n * sz), fun σ K => ?_⟩
   rw [hM]
   unfold Zc6
   rw [ho]
   dsimp only
   constructor
   ·rintro ⟨e', sz', z', cells', g1, g2, g3, g4, g5, g6, g7⟩
    rw [h1] at g1; injection g1 with g1; subst g1
    rw [h2] at g2; injection g2 with g2; subst g2
    rw [h3] at g3; injection g3 with g3; subst g3
    rw [h6] at g6; injection g6 with g6; subst g6
    exact ⟨trivial, g7⟩
   ·rintro ⟨_, g7⟩
    exact ⟨e, sz, z, cells, h1, h2, h3, h4, h5, h6, g7⟩
  ·refine ⟨False, fun _ => .raw undef, .own 0 [], fun σ K => ?_⟩
   rw [hM]
   unfold Zc6
   rw [ho]
   dsimp only
   constructor
   ·rintro ⟨e', sz', z', cells', g1, g2, g3, g4, g5, g6, g7⟩
    exact absurd ⟨e', sz', z', cells', g1, g2, g3, g4, g5, g6⟩ hC
   ·rintro ⟨h, _⟩
    exact h.elim
theorem Zbo (σ : St) (b : Nat) (k : Bk) : (σ.put b k).blk b = some k := by show (if b = b then some k else σ.blk b) = some k; rw [if_pos rfl]
theorem ZaX (σ : St) {b x : Nat} (k : Bk) (h : x ≠ b) : (σ.put b k).blk x = σ.blk x := by show (if x = b then some k else σ.blk x) = _; rw [if_neg h]
theorem Zke {σ : St} {Z : Nat -> Prop} {b : Nat} {t : TypeId} {cs : List AV} (x o : Nat) : (σ.put b (.own t cs)).free Z x o ↔ σ.free (fun x => Z x \/ x = b) x o := by
 unfold St.free
 by_cases hx : x = b
 ·subst hx
  rw [Zbo]
  simp
 ·rw [ZaX _ _ hx]
  have : (σ.put b (.own t cs)).used x ↔ σ.used x := by show (σ.used x \/ x = b) ↔ _; simp [hx]
  simp [hx, this]
theorem ZiL {w : World} {Z : Nat -> Prop} {b : Nat} {t : TypeId} {cs : List AV} (hu : ¬ σ.used b) (hb : σ.blk b = none) (hH : ZaG w (σ.put b (.own t cs)) Z) :
 ZaG w σ (fun x => Z x \/ x = b) /\ (∀ c, Zar w ((σ.put b (.own t cs)).free Z) c -> Zar w (σ.free (fun x => Z x \/ x = b)) c) /\
 ∀ (K : AV -> St -> Prop) w' r σ', K r σ' -> ZaG w' σ' (fun x => Z x \/ x = b) -> Zar w' (σ'.free (fun x => Z x \/ x = b)) r -> Grow w σ w' σ' ->
  ∃ τ, (∃ σ', ¬ σ'.used b /\ σ'.blk b = none /\ τ = σ'.put b (.own t cs) /\ K r σ') /\ ZaG w' τ Z /\ Zar w' (τ.free Z) r /\ Grow w (σ.put b (.own t cs)) w' τ := by
 have sub : ∀ {τ : St} {w : World} {c : AV}, Zar w ((τ.put b (.own t cs)).free Z) c -> Zar w (τ.free (fun x => Z x \/ x = b)) c := fun hv => hv.sub fun x o hx => (Zke x o).1 hx
 have bus : ∀ {τ : St} {w : World} {c : AV}, Zar w (τ.free (fun x => Z x \/ x = b)) c -> Zar w ((τ.put b (.own t cs)).free Z) c := fun hv => hv.sub fun x o hx => (Zke x o).2 hx
 have blt : b < w.heap.size := hH.used b (.inr rfl)
 obtain ⟨_, hbh, hbv⟩ := hH.own b t cs (Zbo _ _ _)
 have hne : ∀ x y, σ.blk x = some y -> x ≠ b := fun x y hx e => by rw [e, hb] at hx; cases hx
 have hH0 : ZaG w σ (fun x => Z x \/ x = b) := by
  refine ⟨fun x hx => hH.used x (.inl hx), fun x hx => ?_, fun x t' cs' hx => ?_, fun x t' k' s' hx => ?_, fun x es hx => ?_⟩
  ·rcases hx with hx | rfl
   ·obtain ⟨h1, h2⟩ := hH.z x hx
    refine ⟨h1, ?_⟩
    by_cases hxb : x = b
    ·subst hxb; exact hb
    ·rwa [ZaX _ _ hxb] at h2
   ·exact ⟨blt, hb⟩
  ·have hxb := hne _ _ hx
   obtain ⟨h1, h2, h3⟩ := hH.own x t' cs' (by rw [ZaX _ _ hxb]; exact hx)
   exact ⟨h1.resolve_right hxb, h2, fun c hc => sub (h3 c hc)⟩
  ·have hxb := hne _ _ hx
   obtain ⟨h1, h2⟩ := hH.tail x t' k' s' (by rw [ZaX _ _ hxb]; exact hx)
   exact ⟨h1.resolve_right hxb, h2⟩
  ·have hxb := hne _ _ hx
   obtain ⟨h1, h2⟩ := hH.map x es (by rw [ZaX _ _ hxb]; exact hx)
   exact ⟨h1.resolve_right hxb, h2⟩
 refine ⟨hH0, fun c hc => sub hc, fun K w' r σ' hK hH' hV' hG => ?_⟩
 have hnu : ¬ σ'.used b := fun hx => hu (hG.used b blt hx)
 obtain ⟨hb1, hb2⟩ := hG.rest b blt hb
 have hne' : ∀ x y, σ'.blk x = some y -> x ≠ b := fun x y hx e => by rw [e, hb2] at hx; cases hx
 refine ⟨σ'.put b (.own t cs), ⟨σ', hnu, hb2, rfl, hK⟩, ?_, bus hV', ?_⟩
 ·refine ⟨fun x hx => ?_, fun x hx => ?_, fun x t' cs' hx => ?_, fun x t' k' s' hx => ?_, fun x es hx => ?_⟩
  ·rcases hx with hx | rfl
   ·exact hH'.used x hx
   ·exact Nat.lt_of_lt_of_le blt hG.size
  ·obtain ⟨h1, h2⟩ := hH'.z x (.inl hx)
   refine ⟨h1, ?_⟩
   have hxb : x ≠ b := by
    rintro rfl
    have := (hH.z x hx).2
    rw [Zbo] at this
    cases this
   rw [ZaX _ _ hxb]; exact h2
  ·by_cases hxb : x = b
   ·subst hxb
    rw [Zbo] at hx
    injection hx with hx
    injection hx with e1 e2
    subst e1 e2
    exact ⟨.inr rfl, hb1.trans hbh, fun c hc => bus (hG.valid (sub (hbv c hc)))⟩
   ·rw [ZaX _ _ hxb] at hx
    obtain ⟨h1, h2, h3⟩ := hH'.own x t' cs' hx
    exact ⟨.inl h1, h2, fun c hc => bus (h3 c hc)⟩
  ·by_cases hxb : x = b
   ·subst hxb
    rw [Zbo] at hx
    injection hx with hx
    cases hx
   ·rw [ZaX _ _ hxb] at hx
    obtain ⟨h1, h2⟩ := hH'.tail x t' k' s' hx
    exact ⟨.inl h1, h2⟩
  ·by_cases hxb : x = b
   ·subst hxb
    rw [Zbo] at hx
    injection hx with hx
    cases hx
   ·rw [ZaX _ _ hxb] at hx
    obtain ⟨h1, h2⟩ := hH'.map x es hx
    exact ⟨.inl h1, h2⟩
 ·refine ⟨hG.os, hG.tape, hG.output, hG.size, fun x hx hu' => ?_, fun x hx hn => ?_, fun x t' k' s' hx ht => ?_, fun x hx => hx.elim (fun hx => .inl (hG.more x hx)) .inr⟩
  ·rcases hu' with hu' | rfl
   ·exact .inl (hG.used x hx hu')
   ·exact .inr rfl
  ·have hxb : x ≠ b := by
    rintro rfl
    rw [Zbo] at hn
    cases hn
   rw [ZaX _ _ hxb] at hn ⊢
   exact hG.rest x hx hn
  ·have hxb : x ≠ b := by
    rintro rfl
    rw [Zbo] at ht
    cases ht
   rw [ZaX _ _ hxb] at ht
   simp only [ZaX _ _ hxb]
   exact hG.tail x t' k' s' hx ht
theorem Zan.framed (f : FuncId) (args : List AV) : Zkd (Zan P f args) := by
 intro σ b t cs K hu hb h
 intro w Z hH hV
 obtain ⟨h1, h2, h3⟩ := ZiL hu hb hH
 refine (h w _ h1 (fun a ha => h2 _ (hV a ha))).mono ?_
 rintro e w' ⟨r, σ', rfl, hK, hH', hV', hG⟩
 obtain ⟨τ, g1, g2, g3, g4⟩ := h3 K w' r σ' hK hH' hV' hG
 exact ⟨r, τ, rfl, g1, g2, g3, g4⟩
theorem ZgD.framed (o : Oper) (vs : List AV) : Zkd (ZgD P o vs) := by
 intro σ b t cs K hu hb h ρ hρ w Z hH hV
 obtain ⟨h1, h2, h3⟩ := ZiL hu hb hH
 obtain ⟨r, σ', w', hr, hK, hH', hV', hG⟩ := h ρ hρ w _ h1 (fun a ha => h2 _ (hV a ha))
 obtain ⟨τ, g1, g2, g3, g4⟩ := h3 K w' r σ' hK hH' hV' hG
 exact ⟨r, τ, w', hr, g1, g2, g3, g4⟩
theorem ZsN (hk : ZbC o = true) (hw : Region.wanted o (ZaE ops env) = true) (K : AV -> St -> Prop) : ZeM P ops Pres lf cf o env σ K ↔ Zc6 P o (o.op.operands.toList.map (ev env)) σ (fun r σ' => (cf = true -> Zgg Pres σ σ') /\ K r σ') := by
 have hnl : (lf && ZbA o == .load) = false := by
  unfold ZbC at hk
  split at hk <;> first | (cases hk; done) | (rename_i h; simp [h])
 unfold ZeM
 rw [if_pos hw, hnl, hk]
 simp
theorem ZrQ (hk : ZbC o = true) (hw : Region.wanted o (ZaE ops env) = true) : Zr6 Pres cf (ZeM P ops Pres lf cf o env) :=
 ⟨fun σ K => Zc6 P o (o.op.operands.toList.map (ev env)) σ K, fun σ K K' h => ZdM h, fun σ K => ZsN hk hw K⟩
theorem ZlS {b1 b2 : Nat} (k1 k2 : Bk) (h : b1 ≠ b2) : (σ.put b1 k1).put b2 k2 = (σ.put b2 k2).put b1 k1 := by
 refine St.ext' (fun x => ?_) (fun x => ?_)
 ·by_cases h1 : x = b1
  ·subst h1
   rw [Zbo, ZaX _ _ h, Zbo]
  ·by_cases h2 : x = b2
   ·subst h2
    rw [Zbo, ZaX _ _ h1, Zbo]
   ·rw [ZaX _ _ h2, ZaX _ _ h1, ZaX _ _ h1, ZaX _ _ h2]
 ·show ((σ.used x \/ x = b1) \/ x = b2) ↔ ((σ.used x \/ x = b2) \/ x = b1)
  constructor <;> rintro ((h | h) | h) <;> simp [h]
theorem Zgm {b1 b2 : Nat} {k : Bk} : ¬ (σ.put b1 k).used b2 ↔ ¬ σ.used b2 /\ b2 ≠ b1 := by
 show ¬ (σ.used b2 \/ b2 = b1) ↔ _
 simp
theorem Zpq {b b' : Nat} (k k' : Bk) (h : b' ≠ b) : (σ.put b k).set b' k' = (σ.set b' k').put b k := by
 refine St.ext' (fun x => ?_) (fun x => Iff.rfl)
 show (if x = b' then some k' else if x = b then some k else σ.blk x) = (if x = b then some k else if x = b' then some k' else σ.blk x)
 by_cases h1 : x = b'
 ·subst h1; rw [if_pos rfl, if_neg h, if_pos rfl]
 ·rw [if_neg h1, if_neg h1]
theorem Zk9 (vs : List AV) : Zkd (Zc6 P o vs) := by
 intro σ b t cs K hu hb h
 have now : ∀ {r : AV}, K r σ -> ∃ σ', ¬ σ'.used b /\ σ'.blk b = none /\ σ.put b (.own t cs) = σ'.put b (.own t cs) /\ K r σ' := fun hk => ⟨σ, hu, hb, rfl, hk⟩
 have new : ∀ {b' : Nat} {r : AV} {k : Bk}, ¬ (σ.put b (.own t cs)).used b' -> (σ.put b (.own t cs)).blk b' = none -> (¬ σ.used b' -> σ.blk b' = none -> K r (σ.put b' k)) ->
  ∃ σ', ¬ σ'.used b /\ σ'.blk b = none /\ (σ.put b (.own t cs)).put b' k = σ'.put b (.own t cs) /\ K r σ' := by
  intro b' r k h1 h2 h3
  obtain ⟨h1, hne⟩ := Zgm.1 h1
  rw [ZaX _ _ hne] at h2
  exact ⟨σ.put b' k, Zgm.2 ⟨hu, Ne.symm hne⟩, by rw [ZaX _ _ (Ne.symm hne)]; exact hb, ZlS _ _ (Ne.symm hne), h3 h1 h2⟩
 unfold Zc6 at h ⊢
 split at h
 ·exact now h
 ·exact now h
 ·obtain ⟨t, h1, h2⟩ := h; exact ⟨t, h1, now h2⟩
 ·obtain ⟨z, h1, h2⟩ := h; exact ⟨z, h1, fun b' h3 h4 => new h3 h4 (h2 b')⟩
 ·exact fun b' h3 h4 => new h3 h4 (h b')
 ·obtain ⟨z, pl, cells, h1, h2, h3, h4⟩ := h; exact ⟨z, pl, cells, h1, h2, h3, now h4⟩
 ·obtain ⟨e, sz, z, cells, h1, h2, h3, h4, h5, h6, h7⟩ := h; exact ⟨e, sz, z, cells, h1, h2, h3, h4, h5, h6, fun b' g1 g2 => new g1 g2 (h7 b')⟩
 ·obtain ⟨r, h1, h2⟩ := h; exact ⟨r, ZiJ h1 hb, now h2⟩
 ·obtain ⟨σ', h1, h2⟩ := h
  unfold ZgE at h1
  split at h1
  ·rename_i b0 o0
   unfold Zfh at h1
   split at h1
   ·rename_i e' cs' n hb0 hn
    have hne : b0 ≠ b := fun e => by rw [e, hb] at hb0; cases hb0
    split at h1
    ·rename_i hc
     injection h1 with h1
     subst h1
     refine ⟨_, ?_, σ.set b0 (.own e' (ZaR cs' o0 _)), hu, ?_, Zpq _ _ hne, h2⟩
     ·unfold ZgE Zfh
      dsimp only
      rw [ZaX _ _ hne, hb0, hn]
      dsimp only
      rw [if_pos hc]
     ·show (if b = b0 then _ else σ.blk b) = none
      rw [if_neg (Ne.symm hne)]
      exact hb
    ·cases h1
   ·cases h1
  ·cases h1
 ·exact ⟨h.1, now h.2⟩
 ·obtain ⟨r, h1, h2⟩ := h; exact ⟨r, h1, now h2⟩
 ·obtain ⟨l, off, n, g, h1, h2, h3⟩ := h; exact ⟨l, off, n, g, h1, h2, now h3⟩
 ·obtain ⟨l, off, n, g, h1, h2, h3⟩ := h; exact ⟨l, off, n, g, h1, h2, now h3⟩
 ·obtain ⟨l, off, n, g, r, h1, h2, h3, h4⟩ := h; exact ⟨l, off, n, g, r, h1, h2, h3, now h4⟩
 ·obtain ⟨e, sz, k, j, h1, h2, h3, h4, h5⟩ := h; exact ⟨e, sz, k, j, h1, h2, h3, h4, now h5⟩
 ·split at h
  ·obtain ⟨e, sz, h1, h2, l, h', m, h3, h4, h5, h6, h7⟩ := h; exact ⟨e, sz, h1, h2, l, h', m, h3, h4, h5, h6, now h7⟩
  ·obtain ⟨v, h1, h2⟩ := h; exact ⟨v, h1, now h2⟩
 ·split at h
  ·obtain ⟨g, first, cap, h1, h2⟩ := h; exact ⟨g, first, cap, h1, Zan.framed g _ σ b t cs K hu hb h2⟩
  ·exact h.imp (fun ⟨v, h1, h2⟩ => ⟨v, h1, now h2⟩) (fun ⟨h1, h2⟩ => ⟨h1, ZgD.framed o _ σ b t cs K hu hb h2⟩)
 ·exact h.imp (fun ⟨v, h1, h2⟩ => ⟨v, h1, now h2⟩) (fun ⟨h1, h2⟩ => ⟨h1, ZgD.framed o _ σ b t cs K hu hb h2⟩)
theorem frF (he : ZbC o = true) (hw : Region.wanted o (ZaE ops env) = true) : FrF Pres cf (ZeM P ops Pres lf cf o env) := by
 exact ⟨fun σ K => Zc6 P o (o.op.operands.toList.map (ev env)) σ K, Zk9 _, fun σ K K' h => ZdM h, fun σ K => ZsN he hw K⟩
theorem Zkf (σ : St) : ∃ b, ¬ σ.used b /\ σ.blk b = none := by
 obtain ⟨n, h⟩ := σ.fin
 exact ⟨n, h n (Nat.le_refl _)⟩
end
section
variable {P : Program} {Pres : Nat -> Prop} {σ : St} {M N : St -> (AV -> St -> Prop) -> Prop} {G : AV -> AV -> St -> Prop} {fl fc : Bool}
abbrev ZqW (M : St -> (AV -> St -> Prop) -> Prop) : Prop := ∀ σ K K', (∀ r σ', K r σ' -> K' r σ') -> M σ K -> M σ K'
theorem ZiM (hM : NoF M) (hN : ZqW N) (h : M σ fun r σ1 => N σ1 fun s σ2 => G r s σ2) : N σ fun s σ1 => M σ1 fun r σ2 => G r s σ2 := by
 rw [hM] at h
 exact hN _ _ _ (fun s σ2 hg => (hM _ _).2 hg) h
theorem Zh5 (hN : NoF N) (hM : ZqW M) (h : M σ fun r σ1 => N σ1 fun s σ2 => G r s σ2) : N σ fun s σ1 => M σ1 fun r σ2 => G r s σ2 := by
 rw [hN]
 exact hM _ _ _ (fun r σ1 hg => (hN _ _).1 hg) h
theorem ZlT (hM : Zpp M) (hN : ZqW N) (h : M σ fun r σ1 => N σ1 fun s σ2 => G r s σ2) : N σ fun s σ1 => M σ1 fun r σ2 => G r s σ2 := by
 obtain ⟨F, hF⟩ := hM
 rw [hF] at h
 obtain ⟨r, h1, h2⟩ := h
 exact hN _ _ _ (fun s σ2 hg => (hF _ _).2 ⟨r, h1, hg⟩) h2
theorem Zhv (hM : Zk8 Pres fl M) (hN : Zpp N) (h : M σ fun r σ1 => N σ1 fun s σ2 => G r s σ2) : N σ fun s σ1 => M σ1 fun r σ2 => G r s σ2 := by
 obtain ⟨F, hF, _⟩ := hM
 obtain ⟨F', hF'⟩ := hN
 rw [hF] at h
 obtain ⟨r, h1, h2⟩ := h
 rw [hF'] at h2
 obtain ⟨s, h3, h4⟩ := h2
 exact (hF' _ _).2 ⟨s, h3, (hF _ _).2 ⟨r, h1, h4⟩⟩
theorem Zhw (hM : Zk8 Pres fl M) (hN : Zk8 Pres fc N) (h : M σ fun r σ1 => N σ1 fun s σ2 => G r s σ2) : N σ fun s σ1 => M σ1 fun r σ2 => G r s σ2 := by
 obtain ⟨F, hF, _⟩ := hM
 obtain ⟨F', hF', _⟩ := hN
 rw [hF] at h
 obtain ⟨r, h1, h2⟩ := h
 rw [hF'] at h2
 obtain ⟨s, h3, h4⟩ := h2
 exact (hF' _ _).2 ⟨s, h3, (hF _ _).2 ⟨r, h1, h4⟩⟩
theorem Zee (hM : Zk8 Pres fl M) (hN : ZhC N) (h : M σ fun r σ1 => N σ1 fun s σ2 => G r s σ2) : N σ fun s σ1 => M σ1 fun r σ2 => G r s σ2 := by
 obtain ⟨F, hF, hS, _⟩ := hM
 obtain ⟨C, mk, k, hN⟩ := hN
 rw [hF] at h
 obtain ⟨r, h1, h2⟩ := h
 rw [hN] at h2
 exact (hN _ _).2 ⟨h2.1, fun b hu hb => (hF _ _).2 ⟨r, hS _ _ _ _ h1 hb, h2.2 b hu hb⟩⟩
theorem ZdW (hM : Zk8 Pres true M) (hN : Zr6 Pres true N) (h : M σ fun r σ1 => N σ1 fun s σ2 => G r s σ2) : N σ fun s σ1 => M σ1 fun r σ2 => G r s σ2 := by
 obtain ⟨F, hF, _, hS⟩ := hM
 rw [hF] at h
 obtain ⟨r, h1, h2⟩ := h
 obtain ⟨M0, hm, hN⟩ := hN
 rw [hN] at h2 ⊢
 exact hm _ _ _ (fun s σ2 ⟨g1, g2⟩ => ⟨g1, (hF _ _).2 ⟨r, hS rfl _ _ _ h1 (g1 rfl), g2⟩⟩) h2
theorem Zcj (hM : ZhC M) (hN : ZhC N) (h : M σ fun r σ1 => N σ1 fun s σ2 => G r s σ2) : N σ fun s σ1 => M σ1 fun r σ2 => G r s σ2 := by
 obtain ⟨C, mk, k, hM⟩ := hM
 obtain ⟨C', mk', k', hN⟩ := hN
 rw [hM] at h
 obtain ⟨hc, h⟩ := h
 obtain ⟨b0, hb0, hb0'⟩ := Zkf σ
 have hc' : C' := ((hN _ _).1 (h b0 hb0 hb0')).1
 refine (hN _ _).2 ⟨hc', fun b2 hu2 hn2 => (hM _ _).2 ⟨hc, fun b1 hu1 hn1 => ?_⟩⟩
 obtain ⟨hu1, hne⟩ := Zgm.1 hu1
 rw [ZaX _ _ hne] at hn1
 have := ((hN _ _).1 (h b1 hu1 hn1)).2 b2 (Zgm.2 ⟨hu2, Ne.symm hne⟩) (by rw [ZaX _ _ (Ne.symm hne)]; exact hn2)
 rw [ZlS _ _ hne] at this
 exact this
theorem ZeS {C : Prop} {mk : Nat -> AV} {t : TypeId} {cs : List AV} (hC : C) (hM : FrF Pres fl M) (hN : ∀ σ K, N σ K ↔ C /\ ∀ b, ¬ σ.used b -> σ.blk b = none -> K (mk b) (σ.put b (.own t cs))) (h : M σ fun r σ1 => N σ1 fun s σ2 => G r s σ2) : N σ fun s σ1 => M σ1 fun r σ2 => G r s σ2 := by
 obtain ⟨M0, hfr, hm, hM⟩ := hM
 rw [hM] at h
 refine (hN _ _).2 ⟨hC, fun b hu hb => (hM _ _).2 ?_⟩
 refine hm _ _ _ ?_ (hfr _ b t cs _ hu hb h)
 rintro r τ ⟨σ', h1, h2, rfl, h3, h4⟩
 refine ⟨fun hfl x t' cs' hp hx => ?_, ((hN _ _).1 h4).2 b h1 h2⟩
 by_cases hxb : x = b
 ·subst hxb; rw [Zbo] at hx ⊢; exact hx
 ·rw [ZaX _ _ hxb] at hx ⊢
  exact h3 hfl x t' cs' hp hx
end
end Go.Proofs.YtiienjjhlibopaaGreatDoor
namespace Go.Proofs.YtiienjjhlibopaaGreatDoor
open Go.RowKit
set_option maxRecDepth 100000
set_option linter.unusedVariables false
def Zjy (P : Program) (o : Oper) : Bool := match o.op with
 | .alloc e => (Zba P e).isSome
 | .box _ _ => true
 | _ => false
def Zjz (o : Oper) : Bool := match o.op with
 | .build _ _ | .move _ | .assign _ => true
 | _ => false
def ZlU (ow : Bool) (o : Oper) : Bool := !ow || ZbA o == .row
def ZeT (P : Program) (ops : Array Oper) (l c wp wi : Bool) (p i : Oper) : Bool := p.apart ops i && (ZlU wp p && (ZlU wi i && match ZbA p, ZbA i with
 | .pure, _ => true
 | .load, .pure | .load, .load | .load, .alloc | .load, .row => true
 | .load, .call | .load, .exec | .load, .store => l && c
 | .alloc, .alloc | .alloc, .row | .row, .alloc | .row, .row => true
 | .alloc, .pure | .row, .pure => Zjz i
 | .call, .alloc | .exec, .alloc | .store, .alloc => Zjy P i
 | .call, .row | .exec, .row | .store, .row => wi
 | .call, .pure | .exec, .pure | .store, .pure => Zjz i
 | _, _ => false))
section
variable {P : Program} {ops : Array Oper} {Pres : Nat -> Prop} {o p i : Oper} {env : Env} {σ : St} {lp cp li ci : Bool}
theorem Env.put_comm (env : Env) {x y : Option Nat} (v u : AV) (h : ∀ d, x = some d -> y ≠ some d) : (env.put x v).put y u = (env.put y u).put x v := by
 cases x with
 | none => rfl
 | some d =>
  cases y with
  | none => rfl
  | some d' =>
   have hne : d' ≠ d := fun e => h d rfl (by rw [e])
   funext t
   show (if t = d' then u else if t = d then v else env t) = (if t = d then v else if t = d' then u else env t)
   by_cases h1 : t = d'
   ·subst h1; rw [if_pos rfl, if_neg hne, if_pos rfl]
   ·rw [if_neg h1, if_neg h1]
theorem ZqX {x : Operand} {dst : Option Nat} {v : AV} (h : ∀ d, dst = some d -> x ≠ .tmp d) : ev (env.put dst v) x = ev env x := by
 cases dst with
 | none => rfl
 | some d =>
  cases x with
  | tmp t =>
   show (if t = d then v else env t) = env t
   rw [if_neg]
   rintro rfl
   exact h t rfl rfl
  | _ => rfl
theorem Zkg {dst : Option Nat} {v : AV} (h : ∀ d, dst = some d -> d ∉ o.looksAt ops) : o.op.operands.toList.map (ev (env.put dst v)) = o.op.operands.toList.map (ev env) := by
 refine List.map_congr_left fun x hx => ZqX fun d hd e => ?_
 subst e
 exact h d hd (List.mem_append_left _ (List.mem_filterMap.2 ⟨.tmp d, hx, rfl⟩))
theorem ZfN {dst : Option Nat} {v : AV} (h : ∀ d, dst = some d -> d ∉ o.looksAt ops) : Region.wanted o (ZaE ops (env.put dst v)) = Region.wanted o (ZaE ops env) := by
 unfold Region.wanted
 cases hg : o.guard with
 | none => rfl
 | some g =>
  obtain ⟨j, want⟩ := g
  dsimp only
  have : ZaE ops (env.put dst v) j = ZaE ops env j := by
   unfold ZaE
   cases hj : (ops[j]?).bind (·.dst) with
   | none => rfl
   | some t =>
    dsimp only
    have : (env.put dst v) t = env t := by
     cases dst with
     | none => rfl
     | some d =>
      show (if t = d then v else env t) = env t
      rw [if_neg]
      rintro rfl
      refine h t rfl (List.mem_append_right _ ?_)
      rw [hg]
      dsimp only
      rw [hj]
      simp
    rw [this]
  rw [this]
theorem Zgn {ow : Bool} {dst : Option Nat} {v : AV} (h : ∀ d, dst = some d -> d ∉ o.looksAt ops) : ZdL P ops Pres lp cp ow o (env.put dst v) = ZdL P ops Pres lp cp ow o env := by
 have h1 := Zkg (v := v) (env := env) h
 have h2 := ZfN (v := v) (env := env) h
 funext σ K
 unfold ZdL ZeM
 rw [h1, h2]
theorem ZoX {dst : Option Nat} {v : AV} (h : ∀ d, dst = some d -> d ∉ o.looksAt ops) : CX P o (env.put dst v) ↔ CX P o env := by
 unfold CX
 rw [Zkg (v := v) (env := env) h]
theorem ZsO {lf cf ow : Bool} (hw : ¬ Region.wanted o (ZaE ops env) = true) : NoF (ZdL P ops Pres lf cf ow o env) := fun σ K => by
 unfold ZdL
 by_cases h : ow = true
 ·rw [if_pos h, if_neg hw]
 ·rw [if_neg h]; exact noF (lf := lf) (cf := cf) hw σ K
theorem Zpr {vs : List AV} {n n' : Nat} {e e' : TypeId} {cells cells' : List AV} (h : CXv P o vs n e cells) (h' : CXv P o vs n' e' cells') : n = n' /\ e = e' /\ cells = cells' := by
 obtain ⟨t, parts, sz, z, h1, h2, h3, h4, h5, h6, h7⟩ := h
 obtain ⟨t', parts', sz', z', g1, g2, g3, g4, g5, g6, g7⟩ := h'
 rw [h1] at g1
 injection g1 with e1 e2 e3
 subst e1 e2 e3
 rw [h2] at g2; injection g2 with g2; subst g2
 rw [h3] at g3; injection g3 with g3; subst g3
 rw [h4] at g4; injection g4 with g4; subst g4
 rw [h7] at g7; injection g7 with g7
 exact ⟨rfl, rfl, g7⟩
theorem Zkh {lf cf : Bool} (hw : Region.wanted o (ZaE ops env) = true) (hc : CX P o env) :
 ∃ (mk : Nat -> AV) (t : TypeId) (cs : List AV), ∀ σ K, ZdL P ops Pres lf cf true o env σ K ↔ True /\ ∀ b, ¬ σ.used b -> σ.blk b = none -> K (mk b) (σ.put b (.own t cs)) := by
 obtain ⟨n, e, cells, hc⟩ := hc
 refine ⟨fun b => .raw (.slice (some ⟨b, 0, none⟩) n n), e, cells, fun σ K => ?_⟩
 unfold ZdL
 rw [if_pos rfl, if_pos hw]
 constructor
 ·rintro ⟨n', e', cells', h1, h2⟩
  obtain ⟨rfl, rfl, rfl⟩ := Zpr hc h1
  exact ⟨trivial, h2⟩
 ·rintro ⟨_, h2⟩
  exact ⟨n, e, cells, hc, h2⟩
theorem ZcZ {lf cf ow : Bool} (hr : ZlU ow o = true) (hk : ZbA o = .alloc \/ ZbA o = .row) (hw : Region.wanted o (ZaE ops env) = true) : ZhC (ZdL P ops Pres lf cf ow o env) := by
 cases ow with
 | false => rw [Za0]; exact ZqV hk hw
 | true =>
  by_cases hc : CX P o env
  ·obtain ⟨mk, t, cs, h⟩ := Zkh (Pres := Pres) (lf := lf) (cf := cf) hw hc
   exact ⟨True, mk, _, h⟩
  ·refine ⟨False, fun _ => .raw undef, .own 0 [], fun σ K => ?_⟩
   unfold ZdL
   rw [if_pos rfl, if_pos hw]
   constructor
   ·rintro ⟨n, e, cells, h1, _⟩
    exact absurd ⟨n, e, cells, h1⟩ hc
   ·rintro ⟨h, _⟩
    exact h.elim
theorem Zbv {ow : Bool} (h : ZlU ow o = true) (hk : ZbA o ≠ .row) : ow = false := by
 cases ow with
 | false => rfl
 | true =>
  unfold ZlU at h
  simp at h
  exact absurd h hk
theorem Zla {lf cf : Bool} (hk : ZbA o = .alloc) (hok : Zjy P o = true) (hw : Region.wanted o (ZaE ops env) = true) :
 ∃ (mk : Nat -> AV) (t : TypeId) (cs : List AV), ∀ σ K, ZeM P ops Pres lf cf o env σ K ↔ True /\ ∀ b, ¬ σ.used b -> σ.blk b = none -> K (mk b) (σ.put b (.own t cs)) := by
 have hM : ∀ σ K, ZeM P ops Pres lf cf o env σ K ↔ Zc6 P o (o.op.operands.toList.map (ev env)) σ K := by
  intro σ K
  unfold ZeM
  rw [if_pos hw]
  simp [hk, ZbC]
 unfold Zjy at hok
 split at hok
 ·rename_i e ho
  have hvs : o.op.operands.toList.map (ev env) = [] := by rw [ho]; simp [Op.operands]
  obtain ⟨z, hz⟩ := Option.isSome_iff_exists.1 hok
  refine ⟨fun b => ptr b 0, e, (AV.ofV z).cells, fun σ K => ?_⟩
  rw [hM, hvs]
  unfold Zc6
  rw [ho]
  dsimp only
  rw [hz]
  constructor
  ·rintro ⟨z', h1, h2⟩
   injection h1 with h1
   subst h1
   exact ⟨trivial, h2⟩
  ·rintro ⟨_, h2⟩
   exact ⟨z, rfl, h2⟩
 ·rename_i e x ho
  have hvs : o.op.operands.toList.map (ev env) = [ev env x] := by rw [ho]; simp [Op.operands]
  refine ⟨fun b => ptr b 0, e, (ev env x).cells, fun σ K => ?_⟩
  rw [hM, hvs]
  unfold Zc6
  rw [ho]
  simp
 ·cases hok
def Zr7 (M : St -> (AV -> St -> Prop) -> Prop) : Prop := ∃ (C : Prop) (r : AV), ∀ σ K, M σ K ↔ C /\ K r σ
theorem ZeU {M N : St -> (AV -> St -> Prop) -> Prop} {G : AV -> AV -> St -> Prop} (hM : ZhC M) (hN : Zr7 N) (h : M σ fun r σ1 => N σ1 fun s σ2 => G r s σ2) : N σ fun s σ1 => M σ1 fun r σ2 => G r s σ2 := by
 obtain ⟨C, mk, k, hM⟩ := hM
 obtain ⟨C', r0, hN⟩ := hN
 rw [hM] at h
 obtain ⟨hc, h⟩ := h
 obtain ⟨b0, hb0, hb0'⟩ := Zkf σ
 exact (hN _ _).2 ⟨((hN _ _).1 (h b0 hb0 hb0')).1, (hM _ _).2 ⟨hc, fun b hu hn => ((hN _ _).1 (h b hu hn)).2⟩⟩
theorem ZiN {fl : Bool} {M N : St -> (AV -> St -> Prop) -> Prop} {G : AV -> AV -> St -> Prop} (hM : Zr6 Pres fl M) (hN : Zr7 N) (hex : ∃ σ K, N σ K) (h : M σ fun r σ1 => N σ1 fun s σ2 => G r s σ2) : N σ fun s σ1 => M σ1 fun r σ2 => G r s σ2 := by
 obtain ⟨M0, hm, hM⟩ := hM
 obtain ⟨C, r0, hN⟩ := hN
 obtain ⟨σ', K', hex⟩ := hex
 refine (hN _ _).2 ⟨((hN _ _).1 hex).1, (hM _ _).2 ?_⟩
 rw [hM] at h
 exact hm _ _ _ (fun r τ ⟨g1, g2⟩ => ⟨g1, ((hN _ _).1 g2).2⟩) h
theorem Zr8 {lf cf : Bool} (hd : Zjz o = true) (hw : Region.wanted o (ZaE ops env) = true) : Zr7 (ZeM P ops Pres lf cf o env) := by
 have hM : ZbA o = .pure -> ∀ σ K, ZeM P ops Pres lf cf o env σ K ↔ Zc6 P o (o.op.operands.toList.map (ev env)) σ K := by
  intro hk σ K
  unfold ZeM
  rw [if_pos hw]
  simp [hk, ZbC]
 unfold Zjz at hd
 split at hd
 ·rename_i t parts ho
  have hk : ZbA o = .pure := by unfold ZbA; rw [ho]
  generalize o.op.operands.toList.map (ev env) = vs at hM
  cases hz : Zba P t with
  | none =>
   refine ⟨False, .raw undef, fun σ K => ?_⟩
   rw [hM hk]
   unfold Zc6
   rw [ho]
   simp [hz]
  | some z => cases hp : ZbE P t with
   | none =>
    refine ⟨False, .raw undef, fun σ K => ?_⟩
    rw [hM hk]
    unfold Zc6
    rw [ho]
    simp [hp]
   | some pl => cases hf : Zcz (fun i => pl[i]?) (AV.ofV z).cells ((parts.toList.map (·.1)).zip vs) with
    | none =>
     refine ⟨False, .raw undef, fun σ K => ?_⟩
     rw [hM hk]
     unfold Zc6
     rw [ho]
     simp [hz, hp, hf]
    | some cells =>
     refine ⟨True, .agg cells, fun σ K => ?_⟩
     rw [hM hk]
     unfold Zc6
     rw [ho]
     simp [hz, hp, hf]
 ·rename_i x ho
  have hk : ZbA o = .pure := by unfold ZbA; rw [ho]
  have hvs : o.op.operands.toList.map (ev env) = [ev env x] := by rw [ho]; simp [Op.operands]
  refine ⟨True, ev env x, fun σ K => ?_⟩
  rw [hM hk, hvs]
  unfold Zc6
  rw [ho]
  simp
 ·rename_i x ho
  have hk : ZbA o = .pure := by unfold ZbA; rw [ho]
  have hvs : o.op.operands.toList.map (ev env) = [ev env x] := by rw [ho]; simp [Op.operands]
  refine ⟨True, ev env x, fun σ K => ?_⟩
  rw [hM hk, hvs]
  unfold Zc6
  rw [ho]
  simp
 ·cases hd
theorem Zr9 {K : Env -> St -> Prop} {wp wi : Bool} (hok : ZeT P ops lp ci wp wi p i = true) (hCX : wi = true -> Region.wanted i (ZaE ops env) = true -> CX P i env) (hDX : Zjz i = true -> ∃ σ' K', ZdL P ops Pres li ci wi i env σ' K')
 (h : ZdL P ops Pres lp cp wp p env σ fun r σ1 => ZdL P ops Pres li ci wi i (env.put p.dst r) σ1 fun s σ2 => K ((env.put p.dst r).put i.dst s) σ2) :
 ZdL P ops Pres li ci wi i env σ fun s σ1 => ZdL P ops Pres lp cp wp p (env.put i.dst s) σ1 fun r σ2 => K ((env.put i.dst s).put p.dst r) σ2 := by
 unfold ZeT at hok
 simp only [Bool.and_eq_true] at hok
 obtain ⟨hap, rp, ri, hk⟩ := hok
 obtain ⟨a1, a2, a3⟩ := Oper.apart_spec hap
 have e1 : ∀ r, ZdL P ops Pres li ci wi i (env.put p.dst r) = ZdL P ops Pres li ci wi i env := fun r => Zgn a1
 have e2 : ∀ s, ZdL P ops Pres lp cp wp p (env.put i.dst s) = ZdL P ops Pres lp cp wp p env := fun s => Zgn a3
 have e3 : ∀ r s, (env.put i.dst s).put p.dst r = (env.put p.dst r).put i.dst s := fun r s => (Env.put_comm env r s a2).symm
 simp only [e1] at h
 simp only [e2, e3]
 have mp : ZqW (ZdL P ops Pres lp cp wp p env) := fun σ K K' hk h => Zdd hk h
 have mi : ZqW (ZdL P ops Pres li ci wi i env) := fun σ K K' hk h => Zdd hk h
 by_cases wwp : Region.wanted p (ZaE ops env) = true
 ·by_cases wwi : Region.wanted i (ZaE ops env) = true
  ·split at hk
   ·rename_i k1
    obtain rfl := Zbv rp (by rw [k1]; decide)
    rw [Za0] at h ⊢
    exact ZlT (ZqU k1 wwp) mi h
   ·rename_i k1 k2
    obtain rfl := Zbv rp (by rw [k1]; decide)
    obtain rfl := Zbv ri (by rw [k2]; decide)
    rw [Za0, Za0] at h ⊢
    exact Zhv (ZiK (lf := lp) k1 wwp) (ZqU k2 wwi) h
   ·rename_i k1 k2
    obtain rfl := Zbv rp (by rw [k1]; decide)
    obtain rfl := Zbv ri (by rw [k2]; decide)
    rw [Za0, Za0] at h ⊢
    exact Zhw (ZiK (lf := lp) k1 wwp) (ZiK (lf := li) k2 wwi) h
   ·rename_i k1 k2
    obtain rfl := Zbv rp (by rw [k1]; decide)
    rw [Za0] at h ⊢
    exact Zee (ZiK (lf := lp) k1 wwp) (ZcZ ri (.inl k2) wwi) h
   ·rename_i k1 k2
    obtain rfl := Zbv rp (by rw [k1]; decide)
    rw [Za0] at h ⊢
    exact Zee (ZiK (lf := lp) k1 wwp) (ZcZ ri (.inr k2) wwi) h
   ·rename_i k1 k2
    obtain rfl := Zbv rp (by rw [k1]; decide)
    obtain rfl := Zbv ri (by rw [k2]; decide)
    rw [Za0, Za0] at h ⊢
    simp only [Bool.and_eq_true] at hk
    obtain ⟨rfl, rfl⟩ := hk
    exact ZdW (ZiK (lf := true) k1 wwp) (ZrQ (by unfold ZbC; rw [k2]) wwi) h
   ·rename_i k1 k2
    obtain rfl := Zbv rp (by rw [k1]; decide)
    obtain rfl := Zbv ri (by rw [k2]; decide)
    rw [Za0, Za0] at h ⊢
    simp only [Bool.and_eq_true] at hk
    obtain ⟨rfl, rfl⟩ := hk
    exact ZdW (ZiK (lf := true) k1 wwp) (ZrQ (by unfold ZbC; rw [k2]) wwi) h
   ·rename_i k1 k2
    obtain rfl := Zbv rp (by rw [k1]; decide)
    obtain rfl := Zbv ri (by rw [k2]; decide)
    rw [Za0, Za0] at h ⊢
    simp only [Bool.and_eq_true] at hk
    obtain ⟨rfl, rfl⟩ := hk
    exact ZdW (ZiK (lf := true) k1 wwp) (ZrQ (by unfold ZbC; rw [k2]) wwi) h
   ·rename_i k1 k2
    exact Zcj (ZcZ rp (.inl k1) wwp) (ZcZ ri (.inl k2) wwi) h
   ·rename_i k1 k2
    exact Zcj (ZcZ rp (.inl k1) wwp) (ZcZ ri (.inr k2) wwi) h
   ·rename_i k1 k2
    exact Zcj (ZcZ rp (.inr k1) wwp) (ZcZ ri (.inl k2) wwi) h
   ·rename_i k1 k2
    exact Zcj (ZcZ rp (.inr k1) wwp) (ZcZ ri (.inr k2) wwi) h
   ·rename_i k1 k2
    obtain rfl := Zbv ri (by rw [k2]; decide)
    rw [Za0] at h ⊢
    exact ZeU (ZcZ rp (.inl k1) wwp) (Zr8 hk wwi) h
   ·rename_i k1 k2
    obtain rfl := Zbv ri (by rw [k2]; decide)
    rw [Za0] at h ⊢
    exact ZeU (ZcZ rp (.inr k1) wwp) (Zr8 hk wwi) h
   iterate 3
    ·rename_i k1 k2
     obtain rfl := Zbv rp (by rw [k1]; decide)
     obtain rfl := Zbv ri (by rw [k2]; decide)
     rw [Za0, Za0] at h ⊢
     obtain ⟨mk, t, cs, hN⟩ := Zla (Pres := Pres) (lf := li) (cf := ci) k2 hk wwi
     exact ZeS trivial (frF (by unfold ZbC; rw [k1]) wwp) hN h
   iterate 3
    ·rename_i k1 k2
     obtain rfl := Zbv rp (by rw [k1]; decide)
     subst hk
     obtain ⟨mk, t, cs, hN⟩ := Zkh (Pres := Pres) (lf := li) (cf := ci) wwi (hCX rfl wwi)
     rw [Za0] at h ⊢
     exact ZeS trivial (frF (by unfold ZbC; rw [k1]) wwp) hN h
   iterate 3
    ·rename_i k1 k2
     obtain rfl := Zbv rp (by rw [k1]; decide)
     obtain rfl := Zbv ri (by rw [k2]; decide)
     obtain ⟨σ', K', hex⟩ := hDX hk
     rw [Za0] at hex
     rw [Za0, Za0] at h ⊢
     exact ZiN (ZrQ (by unfold ZbC; rw [k1]) wwp) (Zr8 hk wwi) ⟨σ', K', hex⟩ h
   ·cases hk
  ·exact Zh5 (ZsO wwi) mp h
 ·exact ZiM (ZsO wwp) mi h
theorem ZfO {lf cf ow : Nat -> Bool} : ∀ (l : List Nat) {env : Env} {σ : St} {K K' : Env -> St -> Prop}, (∀ env' σ', K env' σ' -> K' env' σ') -> Zbc P ops Pres lf cf ow l env σ K -> Zbc P ops Pres lf cf ow l env σ K'
 | [], env, σ, K, K', hk, h => hk _ _ h
 | j :: l, env, σ, K, K', hk, h => by
  unfold Zbc at h ⊢
  split
  ·rename_i ho
   rw [ho] at h
   exact ZfO l hk h
  ·rename_i o ho
   rw [ho] at h
   exact Zdd (fun r σ' h' => ZfO l hk h') h
theorem ZsP {lf cf ow : Nat -> Bool} {x : Nat} {ox : Oper} (hx : ops[x]? = some ox) : ∀ (l l2 : List Nat) {env : Env} {σ : St} {K : Env -> St -> Prop}, (∀ j oj, j ∈ l -> ops[j]? = some oj -> ZeT P ops (lf j) (cf x) (ow j) (ow x) oj ox = true) -> (ow x = true -> Region.wanted ox (ZaE ops env) = true -> CX P ox env) -> (Zjz ox = true -> ∃ σ' K', ZdL P ops Pres (lf x) (cf x) (ow x) ox env σ' K') ->
 Zbc P ops Pres lf cf ow (l ++ x :: l2) env σ K -> Zbc P ops Pres lf cf ow (x :: (l ++ l2)) env σ K
 | [], l2, env, σ, K, _, _, _, h => h
 | j :: l, l2, env, σ, K, hok, hCX, hDX, h => by
  rw [List.cons_append] at h ⊢
  have ih := fun {env : Env} {σ : St} {K : Env -> St -> Prop} (hc : ow x = true -> Region.wanted ox (ZaE ops env) = true -> CX P ox env) (hd : Zjz ox = true -> ∃ σ' K', ZdL P ops Pres (lf x) (cf x) (ow x) ox env σ' K') => ZsP hx l l2 (env := env) (σ := σ) (K := K) (fun j' oj h1 h2 => hok j' oj (List.mem_cons_of_mem _ h1) h2) hc hd
  unfold Zbc at h
  cases hj : ops[j]? with
  | none =>
   rw [hj] at h
   have := ih hCX hDX h
   unfold Zbc at this ⊢
   rw [hx] at this ⊢
   dsimp only at this ⊢
   refine Zdd (fun r σ' h' => ?_) this
   unfold Zbc
   rw [hj]
   exact h'
  | some oj =>
   rw [hj] at h
   dsimp only at h
   have hap := (Oper.apart_spec (by have := hok j oj List.mem_cons_self hj; unfold ZeT at this; simp only [Bool.and_eq_true] at this; exact this.1)).1
   have h2 := Zdd (fun r σ' h' => ih (fun hw hwt => (ZoX hap).2 (hCX hw (by rw [ZfN hap] at hwt; exact hwt))) (fun hd => by rw [Zgn hap]; exact hDX hd) h') h
   have h3 : ZdL P ops Pres (lf j) (cf j) (ow j) oj env σ fun r σ1 => ZdL P ops Pres (lf x) (cf x) (ow x) ox (env.put oj.dst r) σ1 fun s σ2 => Zbc P ops Pres lf cf ow (l ++ l2) ((env.put oj.dst r).put ox.dst s) σ2 K := by
    refine Zdd (fun r σ' h' => ?_) h2
    unfold Zbc at h'
    rw [hx] at h'
    exact h'
   have h4 := Zr9 (K := fun env' σ' => Zbc P ops Pres lf cf ow (l ++ l2) env' σ' K) (hok j oj (List.mem_cons_self) hj) hCX hDX h3
   unfold Zbc
   rw [hx]
   dsimp only
   refine Zdd (fun r σ' h' => ?_) h4
   unfold Zbc
   rw [hj]
   exact h'
def ZgN (P : Program) (ops : Array Oper) (order : List Nat) (anc : Nat -> List Nat) (lf cf ow : Nat -> Bool) : Bool :=
 (List.range ops.size).all (fun i => order.contains i) && order.all (fun i => decide (i < ops.size)) && decide order.Nodup &&
 (List.range ops.size).all (fun i => match ops[i]? with
  | some o => o.after.all (fun e => !Region.binds .any e || decide (e.on < i)) && (anc i).all fun p => o.after.any fun e => Region.binds .any e && (e.on == p || (anc e.on).contains p)
  | none => false) &&
 pairs order
where
 pairs : List Nat -> Bool
  | [] => true
  | p :: rest => rest.all (fun i => (anc i).contains p || match ops[p]?, ops[i]? with
   | some op, some oi => ZeT P ops (lf p) (cf i) (ow p) (ow i) op oi
   | _, _ => false) && pairs rest
theorem ZgN.pairs_spec {anc : Nat -> List Nat} {lf cf ow : Nat -> Bool} : ∀ {l : List Nat}, ZgN.pairs P ops anc lf cf ow l = true ->
 l.Pairwise fun p i => p ∈ anc i \/ ∃ op oi, ops[p]? = some op /\ ops[i]? = some oi /\ ZeT P ops (lf p) (cf i) (ow p) (ow i) op oi = true
 | [], _ => List.Pairwise.nil
 | p :: l, h => by
  unfold ZgN.pairs at h
  simp only [Bool.and_eq_true] at h
  refine List.Pairwise.cons (fun i hi => ?_) (ZgN.pairs_spec h.2)
  have := List.all_eq_true.1 h.1 i hi
  simp only [Bool.or_eq_true] at this
  rcases this with h1 | h1
  ·exact .inl (by simpa using h1)
  ·right
   split at h1
   ·rename_i op oi h2 h3
    exact ⟨op, oi, h2, h3, h1⟩
   ·cases h1
def ZhD (P : Program) (ops : Array Oper) (env : Env) (σ : St) (K : Env -> St -> Prop) : Prop :=
 ∃ (order : List Nat) (anc : List (List Nat)) (Pres : Nat -> Prop) (lf cf ow : List Nat), ZgN P ops order (anc.getD · []) lf.contains cf.contains ow.contains = true /\ Zbc P ops Pres lf.contains cf.contains ow.contains order env σ K
theorem ZdI.drew {w : World} {Z : Nat -> Prop} {a : Act} {nt : Nat} {D : List Deferred} (h : ZdI D nt w σ Z env a) : ZdI D nt { w with drawn := w.drawn + 1 } σ Z env a := by
 have hv : ∀ {c : AV}, Zar w (σ.free Z) c -> Zar { w with drawn := w.drawn + 1 } (σ.free Z) c := fun hc => Zar.keep (w := w) (w' := { w with drawn := w.drawn + 1 }) (B := σ.free Z) (B' := σ.free Z) (fun ad v h1 h2 => ⟨h1, h2⟩) (fun _ _ _ h1 h2 => ⟨h1, h2⟩) _ hc
 refine ⟨⟨h.heap.used, h.heap.z, fun b t cs hb => ?_, h.heap.tail, h.heap.map⟩, h.defers, h.size, h.val, fun i => hv (h.valid i)⟩
 obtain ⟨h1, h2, h3⟩ := h.heap.own b t cs hb
 exact ⟨h1, h2, fun c hc => hv (h3 c hc)⟩
theorem ZqY {o : Oper} {a : Act} {w : World} {next : Act -> World -> Prop} (h : o.wp P a w next (fun _ _ _ => False)) : ∃ a' w', next a' w' := by
 unfold Oper.wp at h
 unfold Oper.upon at h
 split at h
 ·exact ⟨_, _, h⟩
 ·exact ⟨_, _, h⟩
 ·exact ⟨_, _, h⟩
 ·obtain ⟨e, w', fr, hR, _⟩ := h []
  cases e with
  | returned v => exact ⟨_, _, hR⟩
  | panicked c => exact hR.elim
  | outgrown => obtain ⟨_, _, h⟩ := hR; exact h.elim
 ·obtain ⟨v, w2, hR, _⟩ := h (Frame.ofRow P "" #[] .normal) []
  exact ⟨_, _, hR⟩
 ·exact h.elim
 ·exact h.elim
theorem ZjA {x : Nat} {ox : Oper} {nt : Nat} {D : List Deferred} {Z : Nat -> Prop} {lf cf ow : Nat -> Bool} (hok : ZfM nt ops.toList = true) (hx : ops[x]? = some ox) (hwx : ow x = true) : ∀ (l l2 : List Nat) {env : Env} {σ : St} {K : Env -> St -> Prop} {a : Act} {w : World}, (∀ j oj, j ∈ l -> ops[j]? = some oj -> oj.apart ops ox = true) ->
 ZdI D nt w σ Z env a -> Zbc P ops Pres lf cf ow (l ++ x :: l2) env σ K -> Region.wanted ox (ZaE ops env) = true -> CX P ox env
 | [], l2, env, σ, K, a, w, _, hI, h, hw => by
  rw [List.nil_append] at h
  unfold Zbc at h
  rw [hx] at h
  dsimp only at h
  unfold ZdL at h
  rw [if_pos hwx, if_pos hw] at h
  obtain ⟨n, e, cells, h1, _⟩ := h
  exact ⟨n, e, cells, h1⟩
 | j :: l, l2, env, σ, K, a, w, hap, hI, h, hw => by
  rw [List.cons_append] at h
  unfold Zbc at h
  have hap' : ∀ j' oj, j' ∈ l -> ops[j']? = some oj -> oj.apart ops ox = true := fun j' oj h1 h2 => hap j' oj (List.mem_cons_of_mem _ h1) h2
  cases hj : ops[j]? with
  | none =>
   rw [hj] at h
   exact ZjA hok hx hwx l l2 hap' hI h hw
  | some oj =>
   rw [hj] at h
   dsimp only at h
   have hd := (Oper.apart_spec (hap j oj List.mem_cons_self hj)).1
   have hdst : ∀ t, oj.dst = some t -> t < nt := fun t ht => by
    have := List.all_eq_true.1 hok oj (by simpa using Array.mem_of_getElem? hj)
    rw [ht] at this
    simpa using this
   have hs := (ZgM h).elim (Zfj (Q := fun _ _ _ => False) hI hok hdst) (ZeC (Q := fun _ _ _ => False) hI hok hdst)
   have hex : ∃ a' w', ZeZ D nt w σ Z (fun env' σ' => ∃ r, env' = env.put oj.dst r /\ Zbc P ops Pres lf cf ow (l ++ x :: l2) (env.put oj.dst r) σ' K) a' w' := by
    split at hs
    ·rcases hs with hs | ⟨_, _, _, hf⟩
     ·exact ZqY hs
     ·exact hf.elim
    ·exact ⟨_, _, hs⟩
   obtain ⟨a', w', env', σ', ⟨r, rfl, hr⟩, hI', _⟩ := hex
   have := ZjA hok hx hwx l l2 hap' hI' hr (by rw [ZfN hd]; exact hw)
   exact (ZoX hd).1 this
theorem ZjB {x : Nat} {ox : Oper} {nt : Nat} {D : List Deferred} {Z : Nat -> Prop} {lf cf ow : Nat -> Bool} (hok : ZfM nt ops.toList = true) (hx : ops[x]? = some ox) : ∀ (l l2 : List Nat) {env : Env} {σ : St} {K : Env -> St -> Prop} {a : Act} {w : World}, (∀ j oj, j ∈ l -> ops[j]? = some oj -> oj.apart ops ox = true) ->
 ZdI D nt w σ Z env a -> Zbc P ops Pres lf cf ow (l ++ x :: l2) env σ K -> ∃ σ' K', ZdL P ops Pres (lf x) (cf x) (ow x) ox env σ' K'
 | [], l2, env, σ, K, a, w, _, hI, h => by
  rw [List.nil_append] at h
  unfold Zbc at h
  rw [hx] at h
  exact ⟨_, _, h⟩
 | j :: l, l2, env, σ, K, a, w, hap, hI, h => by
  rw [List.cons_append] at h
  unfold Zbc at h
  have hap' : ∀ j' oj, j' ∈ l -> ops[j']? = some oj -> oj.apart ops ox = true := fun j' oj h1 h2 => hap j' oj (List.mem_cons_of_mem _ h1) h2
  cases hj : ops[j]? with
  | none =>
   rw [hj] at h
   exact ZjB hok hx l l2 hap' hI h
  | some oj =>
   rw [hj] at h
   dsimp only at h
   have hd := (Oper.apart_spec (hap j oj List.mem_cons_self hj)).1
   have hdst : ∀ t, oj.dst = some t -> t < nt := fun t ht => by
    have := List.all_eq_true.1 hok oj (by simpa using Array.mem_of_getElem? hj)
    rw [ht] at this
    simpa using this
   have hs := (ZgM h).elim (Zfj (Q := fun _ _ _ => False) hI hok hdst) (ZeC (Q := fun _ _ _ => False) hI hok hdst)
   have hex : ∃ a' w', ZeZ D nt w σ Z (fun env' σ' => ∃ r, env' = env.put oj.dst r /\ Zbc P ops Pres lf cf ow (l ++ x :: l2) (env.put oj.dst r) σ' K) a' w' := by
    split at hs
    ·rcases hs with hs | ⟨_, _, _, hf⟩
     ·exact ZqY hs
     ·exact hf.elim
    ·exact ⟨_, _, hs⟩
   obtain ⟨a', w', env', σ', ⟨r, rfl, hr⟩, hI', _⟩ := hex
   have := ZjB hok hx l l2 hap' hI' hr
   rw [Zgn hd] at this
   exact this
theorem ZhE {Z : Nat -> Prop} {nt : Nat} {D : List Deferred} {K : Env -> St -> Prop} {Q : Exit -> Act -> World -> Prop} {anc : Nat -> List Nat} {lf cf ow : Nat -> Bool} (hok : ZfM nt ops.toList = true)
 (hanc : ∀ i o, ops[i]? = some o -> (∀ e ∈ o.after, Region.binds .any e = true -> e.on < i) /\ ∀ p ∈ anc i, ∃ e ∈ o.after, Region.binds .any e = true /\ (e.on = p \/ p ∈ anc e.on)) :
 ∀ (n : Nat) (order : List Nat) (listed : Array Bool) (env : Env) (σ : St) (a : Act) (w : World), order.length = n -> listed.size = ops.size ->
  (∀ i, i ∈ order ↔ i < ops.size /\ listed.getD i true = false) -> order.Nodup ->
  order.Pairwise (fun p i => p ∈ anc i \/ ∃ op oi, ops[p]? = some op /\ ops[i]? = some oi /\ ZeT P ops (lf p) (cf i) (ow p) (ow i) op oi = true) ->
  (∀ i, listed.getD i false = true -> ∀ p ∈ anc i, listed.getD p false = true) ->
  ZdI D nt w σ Z env a -> Zbc P ops Pres lf cf ow order env σ K -> (∀ a' w', ZeZ D nt w σ Z K a' w' -> Q .normal a' w') -> wpAny P .any ops Q n listed a w
 | 0, order, listed, env, σ, a, w, hn, hs, hm, hnd, hp, hc, hI, h, hQ => by
  obtain rfl : order = [] := List.eq_nil_of_length_eq_zero hn
  refine ⟨?_, hQ a w ⟨env, σ, h, hI, Grow.refl _ _⟩⟩
  refine List.eq_nil_iff_forall_not_mem.2 fun i hi => ?_
  obtain ⟨h1, o, h2, _⟩ := mem_ready.1 hi
  have := (hm i).2 ⟨(Array.getElem?_eq_some_iff.1 h2).1, h1⟩
  cases this
 | n + 1, order, listed, env, σ, a, w, hn, hs, hm, hnd, hp, hc, hI, h, hQ => by
  have hff : ∀ i, i < ops.size -> (listed.getD i true = false ↔ listed.getD i false = false) := fun i hi => by
   have : i < listed.size := by omega
   simp [Array.getD, this]
  refine ⟨fun hr => ?_, fun i hi => ?_⟩
  ·exfalso
   have hne : order ≠ [] := by rintro rfl; simp at hn
   have hex : ∃ i, i ∈ order := by
    cases order with
    | nil => exact absurd rfl hne
    | cons x l => exact ⟨x, List.mem_cons_self⟩
   obtain ⟨m, hm1, hm2⟩ := exists_least hex
   obtain ⟨hlt, hun⟩ := (hm m).1 hm1
   have : m ∈ Region.ready .any ops listed := by
    refine mem_ready.2 ⟨hun, ops[m], Array.getElem?_eq_getElem hlt, fun e he hb => ?_⟩
    have hlt2 := (hanc m _ (Array.getElem?_eq_getElem hlt)).1 e he hb
    cases hl : listed.getD e.on false with
    | true => rfl
    | false =>
     have := (hm e.on).2 ⟨by omega, (hff _ (by omega)).2 hl⟩
     have := hm2 _ this
     omega
   rw [hr] at this
   cases this
  ·obtain ⟨hun, o, ho, hdeps⟩ := mem_ready.1 hi
   have hlt : i < ops.size := (Array.getElem?_eq_some_iff.1 ho).1
   have himem := (hm i).2 ⟨hlt, hun⟩
   obtain ⟨l1, l2, rfl⟩ := List.append_of_mem himem
   have hnl : ∀ p ∈ anc i, listed.getD p false = true := fun p hpi => by
    obtain ⟨e, he, hb, hor⟩ := (hanc i o ho).2 p hpi
    have hle := hdeps e he hb
    rcases hor with rfl | hor
    ·exact hle
    ·exact hc _ hle p hor
   have hsw : ∀ j oj, j ∈ l1 -> ops[j]? = some oj -> ZeT P ops (lf j) (cf i) (ow j) (ow i) oj o = true := fun j oj hj hoj => by
    have := (List.pairwise_append.1 hp).2.2 j hj i List.mem_cons_self
    rcases this with h1 | ⟨op, oi, h1, h2, h3⟩
    ·have h4 := hnl j h1
     have h5 := (hm j).1 (List.mem_append_left _ hj)
     rw [(hff j h5.1)] at h5
     rw [h5.2] at h4
     cases h4
    ·rw [hoj] at h1
     injection h1 with h1
     rw [ho] at h2
     injection h2 with h2
     subst h1 h2
     exact h3
   have hrun := ZsP ho l1 l2 hsw (fun hwi hwt => ZjA hok ho hwi l1 l2 (fun j oj hj hoj => by have := hsw j oj hj hoj; unfold ZeT at this; simp only [Bool.and_eq_true] at this; exact this.1) hI h hwt) (fun _ => ZjB hok ho l1 l2 (fun j oj hj hoj => by have := hsw j oj hj hoj; unfold ZeT at this; simp only [Bool.and_eq_true] at this; exact this.1) hI h) h
   unfold Zbc at hrun
   rw [ho] at hrun
   dsimp only at hrun
   have hop := ZgM hrun
   have hdst : ∀ t, o.dst = some t -> t < nt := fun t ht => by
    have := List.all_eq_true.1 hok o (by simpa using Array.mem_of_getElem? ho)
    rw [ht] at this
    simpa using this
   have hs2 := hop.elim (Zfj (Q := Q) hI hok hdst) (ZeC (Q := Q) hI hok hdst)
   have hndp := List.nodup_append.1 hnd
   have hnd2 := List.nodup_cons.1 hndp.2.1
   have hni : i ∉ l1 ++ l2 := fun hx => by
    rcases List.mem_append.1 hx with hx | hx
    ·exact hndp.2.2 i hx i List.mem_cons_self rfl
    ·exact hnd2.1 hx
   have step : ∀ a' w', ZeZ D nt w σ Z (fun env' σ' => ∃ r, env' = env.put o.dst r /\ Zbc P ops Pres lf cf ow (l1 ++ l2) (env.put o.dst r) σ' K) a' w' -> wpAny P .any ops Q n (listed.setIfInBounds i true) a' w' := by
    rintro a' w' ⟨env', σ', ⟨r, rfl, hK⟩, hI', hG⟩
    have hset : ∀ j, j ≠ i -> ∀ d, (listed.setIfInBounds i true).getD j d = listed.getD j d := fun j hj d => by
     simp only [Array.getD_eq_getD_getElem?]
     rw [Array.getElem?_setIfInBounds_ne (Ne.symm hj)]
    have hseti : ∀ d, (listed.setIfInBounds i true).getD i d = true := fun d => by
     have : i < listed.size := by omega
     simp [Array.getD, this]
    refine ZhE hok hanc n (l1 ++ l2) (listed.setIfInBounds i true) (env.put o.dst r) σ' a' w' (by simp at hn ⊢; omega) (by simp [hs]) ?_ ?_ ?_ ?_ hI' hK ?_
    ·intro j
     by_cases hj : j = i
     ·subst hj
      constructor
      ·exact fun hx => absurd hx hni
      ·rintro ⟨_, h2⟩
       rw [hseti] at h2
       cases h2
     ·rw [hset j hj]
      rw [<- hm j]
      simp [hj]
    ·exact List.Sublist.nodup (List.Sublist.append (List.Sublist.refl _) (List.sublist_cons_self i l2)) hnd
    ·exact List.Pairwise.sublist (List.Sublist.append (List.Sublist.refl _) (List.sublist_cons_self i l2)) hp
    ·intro j hj p hpj
     by_cases hji : j = i
     ·subst hji
      by_cases hpj' : p = j
      ·subst hpj'; exact hseti _
      ·rw [hset p hpj']; exact hnl p hpj
     ·rw [hset j hji] at hj
      by_cases hpi : p = i
      ·subst hpi; exact hseti _
      ·rw [hset p hpi]; exact hc j hj p hpj
    ·rintro a2 w2 ⟨env2, σ2, g1, g2, g3⟩
     exact hQ a2 w2 ⟨env2, σ2, g1, g2, hG.trans g3⟩
   unfold wpOp
   rw [ho]
   dsimp only
   split
   ·rename_i hw
    rw [if_pos hw] at hs2
    rcases hs2 with hs2 | hs2
    ·exact .inl (Oper.wp_mono step hs2)
    ·exact .inr hs2
   ·rename_i hw
    rw [if_neg hw] at hs2
    exact step _ _ hs2
theorem ZiO {w : World} {Z : Nat -> Prop} {a : Act} {nt : Nat} {D : List Deferred} {K : Env -> St -> Prop} {Q : Exit -> Act -> World -> Prop} {id : Nat} (hm : P.follows .mixedOrders = true) (hok : ZfM nt ops.toList = true) (hI : ZdI D nt w σ Z env a) (h : ZhD P ops env σ K)
 (hQ : ∀ a' w', ZeZ D nt w σ Z K a' w' -> Q .normal a' w') : (Code.region id ops true).wp P Q a w := by
 obtain ⟨order, anc, Pres, lf, cf, ow, hd, hr⟩ := h
 unfold ZgN at hd
 simp only [Bool.and_eq_true, decide_eq_true_eq] at hd
 obtain ⟨⟨⟨⟨h1, h2⟩, h3⟩, h4⟩, h5⟩ := hd
 have hmem : ∀ i, i ∈ order ↔ i < ops.size /\ (Array.replicate ops.size false).getD i true = false := fun i => by
  constructor
  ·intro hi
   have := List.all_eq_true.1 h2 i hi
   have hlt : i < ops.size := by simpa using this
   exact ⟨hlt, by simp [Array.getD, hlt]⟩
  ·rintro ⟨hlt, _⟩
   have := List.all_eq_true.1 h1 i (List.mem_range.2 hlt)
   simpa using this
 have hlen : order.length = ops.size := by
  have hp : order.Perm (List.range ops.size) := by
   refine (List.perm_ext_iff_of_nodup h3 List.nodup_range).2 fun i => ?_
   rw [hmem i, List.mem_range]
   constructor
   ·exact fun h => h.1
   ·exact fun h => ⟨h, by simp [Array.getD, h]⟩
  rw [hp.length_eq, List.length_range]
 refine wp_region_any hm ?_
 refine ZhE (Z := Z) (K := K) (Pres := Pres) (anc := (anc.getD · [])) (lf := lf.contains) (cf := cf.contains) (ow := ow.contains) hok ?_ ops.size order _ env σ a _ hlen (by simp) hmem h3 (ZgN.pairs_spec h5) ?_ hI.drew hr ?_
 ·intro i o ho
  have hlt : i < ops.size := (Array.getElem?_eq_some_iff.1 ho).1
  have := List.all_eq_true.1 h4 i (List.mem_range.2 hlt)
  rw [ho] at this
  simp only [Bool.and_eq_true] at this
  obtain ⟨g1, g2⟩ := this
  refine ⟨fun e he hb => ?_, fun p hp => ?_⟩
  ·have := Array.all_eq_true_iff_forall_mem.1 g1 e he
   simpa [hb] using this
  ·have := List.all_eq_true.1 g2 p hp
   obtain ⟨e, he, hx⟩ := Array.any_eq_true'.1 this
   simp only [Bool.and_eq_true, Bool.or_eq_true, beq_iff_eq] at hx
   exact ⟨e, he, hx.1, hx.2.imp (fun h => h) (fun h => by simpa using h)⟩
 ·intro i hi
  exfalso
  have : (Array.replicate ops.size false).getD i false = false := by
   simp only [Array.getD_eq_getD_getElem?, Array.getElem?_replicate]
   split <;> rfl
  rw [this] at hi
  cases hi
 ·rintro a' w' ⟨env', σ', g1, g2, g3⟩
  exact hQ a' w' ⟨env', σ', g1, g2, ⟨g3.os, g3.tape, g3.output, g3.size, g3.used, g3.rest, g3.tail, g3.more⟩⟩
end
end Go.Proofs.YtiienjjhlibopaaGreatDoor
namespace Go.Proofs.YtiienjjhlibopaaGreatDoor
open Go.RowKit
set_option maxRecDepth 100000
set_option linter.unusedVariables false
mutual
def AV.Blks (p : Nat -> Prop) : AV -> Prop
 | .raw _ => True
 | .lst A _ _ cells => (∀ ad, A = some ad -> cells ≠ [] -> p ad.block) /\ AV.BlksL p cells
 | .eptr ad cells => (cells ≠ [] -> p ad.block) /\ AV.BlksL p cells
 | .agg l => AV.BlksL p l
 | .tup l => AV.BlksL p l
 | .mp b _ vs => p b /\ AV.BlksL p vs
def AV.BlksL (p : Nat -> Prop) : List AV -> Prop
 | [] => True
 | a :: l => a.Blks p /\ AV.BlksL p l
end
theorem AV.BlksL_iff {p : Nat -> Prop} {l : List AV} : AV.BlksL p l ↔ ∀ a ∈ l, a.Blks p := by
 induction l with
 | nil => simp [AV.BlksL]
 | cons a l ih => simp [AV.BlksL, ih]
@[simp] theorem AV.Blks_raw (p : Nat -> Prop) (v : Value) : (AV.raw v).Blks p := by unfold AV.Blks; trivial
@[simp] theorem AV.Blks_agg (p : Nat -> Prop) (l : List AV) : (AV.agg l).Blks p ↔ AV.BlksL p l := by unfold AV.Blks; rfl
@[simp] theorem AV.Blks_tup (p : Nat -> Prop) (l : List AV) : (AV.tup l).Blks p ↔ AV.BlksL p l := by unfold AV.Blks; rfl
@[simp] theorem AV.Blks_lst (p : Nat -> Prop) (A : Option Addr) (n c : Nat) (l : List AV) : (AV.lst A n c l).Blks p ↔ (∀ ad, A = some ad -> l ≠ [] -> p ad.block) /\ AV.BlksL p l := by
 conv => lhs; unfold AV.Blks
@[simp] theorem AV.BlksL_nil (p : Nat -> Prop) : AV.BlksL p [] := by unfold AV.BlksL; trivial
@[simp] theorem AV.BlksL_cons (p : Nat -> Prop) (a : AV) (l : List AV) : AV.BlksL p (a :: l) ↔ a.Blks p /\ AV.BlksL p l := by
 conv => lhs; unfold AV.BlksL
mutual
theorem AV.Blks.mono {p q : Nat -> Prop} (h : ∀ b, p b -> q b) : (a : AV) -> a.Blks p -> a.Blks q
 | .raw _, _ => by simp
 | .lst A n c cells, hb => by
  unfold AV.Blks at hb ⊢
  exact ⟨fun ad ha hc => h _ (hb.1 ad ha hc), AV.BlksL.mono h cells hb.2⟩
 | .eptr ad cells, hb => by
  unfold AV.Blks at hb ⊢
  exact ⟨fun hc => h _ (hb.1 hc), AV.BlksL.mono h cells hb.2⟩
 | .agg l, hb => by unfold AV.Blks at hb ⊢; exact AV.BlksL.mono h l hb
 | .tup l, hb => by unfold AV.Blks at hb ⊢; exact AV.BlksL.mono h l hb
 | .mp b ks l, hb => by unfold AV.Blks at hb ⊢; exact ⟨h _ hb.1, AV.BlksL.mono h l hb.2⟩
theorem AV.BlksL.mono {p q : Nat -> Prop} (h : ∀ b, p b -> q b) : (l : List AV) -> AV.BlksL p l -> AV.BlksL q l
 | [], _ => by simp
 | a :: l, hb => by
  unfold AV.BlksL at hb ⊢
  exact ⟨AV.Blks.mono h a hb.1, AV.BlksL.mono h l hb.2⟩
end
mutual
theorem Zar.and {w : World} {B : Nat -> Nat -> Prop} {p : Nat -> Prop} : (a : AV) -> Zar w B a -> a.Blks p -> Zar w (fun b o => B b o /\ p b) a
 | .raw _, _, _ => by unfold Zar; trivial
 | .lst A n c cells, h, hb => by
  unfold Zar at h ⊢
  unfold AV.Blks at hb
  refine ⟨h.1, h.2.1, fun ad e => ?_⟩
  cases cells with
  | nil => unfold ZaS; trivial
  | cons d r => exact ZaS.and ad 0 (d :: r) (hb.1 ad e (by simp)) (h.2.2 ad e) hb.2
 | .eptr ad cells, h, hb => by
  unfold Zar at h ⊢
  unfold AV.Blks at hb
  cases cells with
  | nil => unfold ZaS; trivial
  | cons d r => exact ZaS.and ad 0 (d :: r) (hb.1 (by simp)) h hb.2
 | .agg l, h, hb => by unfold Zar at h ⊢; unfold AV.Blks at hb; exact ZaY.and l h hb
 | .tup l, h, hb => by unfold Zar at h ⊢; unfold AV.Blks at hb; exact ZaY.and l h hb
 | .mp b ks l, h, hb => by unfold Zar at h ⊢; unfold AV.Blks at hb; exact ⟨fun o => ⟨h.1 o, hb.1⟩, h.2.1, ZaY.and l h.2.2 hb.2⟩
theorem ZaS.and {w : World} {B : Nat -> Nat -> Prop} {p : Nat -> Prop} (ad : Addr) : (j : Nat) -> (l : List AV) -> p ad.block -> ZaS w B ad j l -> AV.BlksL p l -> ZaS w (fun b o => B b o /\ p b) ad j l
 | _, [], _, _, _ => by unfold ZaS; trivial
 | j, d :: r, hp, h, hb => by
  unfold ZaS at h ⊢
  unfold AV.BlksL at hb
  exact ⟨⟨h.1.1, ⟨h.1.2.1, hp⟩, Zar.and d h.1.2.2 hb.1⟩, ZaS.and ad (j + 1) r hp h.2 hb.2⟩
theorem ZaY.and {w : World} {B : Nat -> Nat -> Prop} {p : Nat -> Prop} : (l : List AV) -> ZaY w B l -> AV.BlksL p l -> ZaY w (fun b o => B b o /\ p b) l
 | [], _, _ => by unfold ZaY; trivial
 | d :: r, h, hb => by unfold ZaY at h ⊢; unfold AV.BlksL at hb; exact ⟨Zar.and d h.1 hb.1, ZaY.and r h.2 hb.2⟩
end
mutual
theorem Zar.blks {w : World} {B : Nat -> Nat -> Prop} {p : Nat -> Prop} (hB : ∀ b o, B b o -> p b) : (a : AV) -> Zar w B a -> a.Blks p
 | .raw _, _ => by simp
 | .lst A n c cells, h => by
  unfold Zar at h
  unfold AV.Blks
  cases A with
  | none => obtain ⟨_, _, hc⟩ := h.2.1 rfl; subst hc; exact ⟨(fun ad e => by cases e), by simp⟩
  | some ad =>
   have h2 := h.2.2 ad rfl
   refine ⟨fun ad' e hc => ?_, ZaS.blks hB ad 0 cells h2⟩
   injection e with e
   subst e
   cases cells with
   | nil => exact absurd rfl hc
   | cons d r => unfold ZaS at h2; exact hB _ _ h2.1.2.1
 | .eptr ad cells, h => by
  unfold Zar at h
  unfold AV.Blks
  refine ⟨fun hc => ?_, ZaS.blks hB ad 0 cells h⟩
  cases cells with
  | nil => exact absurd rfl hc
  | cons d r => unfold ZaS at h; exact hB _ _ h.1.2.1
 | .agg l, h => by unfold Zar at h; unfold AV.Blks; exact ZaY.blks hB l h
 | .tup l, h => by unfold Zar at h; unfold AV.Blks; exact ZaY.blks hB l h
 | .mp b ks l, h => by unfold Zar at h; unfold AV.Blks; exact ⟨hB _ _ (h.1 0), ZaY.blks hB l h.2.2⟩
theorem ZaS.blks {w : World} {B : Nat -> Nat -> Prop} {p : Nat -> Prop} (hB : ∀ b o, B b o -> p b) (ad : Addr) : (j : Nat) -> (l : List AV) -> ZaS w B ad j l -> AV.BlksL p l
 | _, [], _ => by simp
 | j, d :: r, h => by unfold ZaS at h; unfold AV.BlksL; exact ⟨Zar.blks hB d h.1.2.2, ZaS.blks hB ad (j + 1) r h.2⟩
theorem ZaY.blks {w : World} {B : Nat -> Nat -> Prop} {p : Nat -> Prop} (hB : ∀ b o, B b o -> p b) : (l : List AV) -> ZaY w B l -> AV.BlksL p l
 | [], _ => by simp
 | d :: r, h => by unfold ZaY at h; unfold AV.BlksL; exact ⟨Zar.blks hB d h.1, ZaY.blks hB r h.2⟩
end
mutual
noncomputable def AV.wk (G : Nat -> Prop) : AV -> AV
 | .raw v => .raw v
 | .lst A n c cells => open Classical in if (AV.lst A n c cells).Blks (fun b => ¬ G b) then .lst A n c cells else .raw (.slice A n c)
 | .eptr ad cells => open Classical in if (AV.eptr ad cells).Blks (fun b => ¬ G b) then .eptr ad cells else .raw (.pointer (some ad))
 | .agg l => .agg (AV.wkL G l)
 | .tup l => .tup (AV.wkL G l)
 | .mp b ks vs => open Classical in if (AV.mp b ks vs).Blks (fun b => ¬ G b) then .mp b ks vs else .raw (.map (some b))
noncomputable def AV.wkL (G : Nat -> Prop) : List AV -> List AV
 | [] => []
 | a :: l => a.wk G :: AV.wkL G l
end
theorem AV.wkL_map (G : Nat -> Prop) (l : List AV) : AV.wkL G l = l.map (AV.wk G) := by
 induction l with
 | nil => simp [AV.wkL]
 | cons a l ih => simp [AV.wkL, ih]
@[simp] theorem AV.wk_raw (G : Nat -> Prop) (v : Value) : (AV.raw v).wk G = .raw v := by unfold AV.wk; rfl
@[simp] theorem AV.wk_agg (G : Nat -> Prop) (l : List AV) : (AV.agg l).wk G = .agg (l.map (AV.wk G)) := by unfold AV.wk; rw [AV.wkL_map]
@[simp] theorem AV.wk_tup (G : Nat -> Prop) (l : List AV) : (AV.tup l).wk G = .tup (l.map (AV.wk G)) := by unfold AV.wk; rw [AV.wkL_map]
mutual
theorem AV.wk_same {G : Nat -> Prop} : (a : AV) -> a.Blks (fun b => ¬ G b) -> a.wk G = a
 | .raw _, _ => by simp
 | .lst A n c cells, h => by unfold AV.wk; rw [if_pos h]
 | .eptr ad cells, h => by unfold AV.wk; rw [if_pos h]
 | .agg l, h => by unfold AV.Blks at h; unfold AV.wk; rw [AV.wkL_same l h]
 | .tup l, h => by unfold AV.Blks at h; unfold AV.wk; rw [AV.wkL_same l h]
 | .mp b ks l, h => by unfold AV.wk; rw [if_pos h]
theorem AV.wkL_same {G : Nat -> Prop} : (l : List AV) -> AV.BlksL (fun b => ¬ G b) l -> AV.wkL G l = l
 | [], _ => by unfold AV.wkL; rfl
 | a :: l, h => by unfold AV.BlksL at h; unfold AV.wkL; rw [AV.wk_same a h.1, AV.wkL_same l h.2]
end
mutual
theorem AV.wk_blks (G : Nat -> Prop) : (a : AV) -> (a.wk G).Blks (fun b => ¬ G b)
 | .raw _ => by simp
 | .lst A n c cells => by unfold AV.wk; split <;> simp_all
 | .eptr ad cells => by unfold AV.wk; split <;> simp_all
 | .agg l => by unfold AV.wk AV.Blks; exact AV.wkL_blks G l
 | .tup l => by unfold AV.wk AV.Blks; exact AV.wkL_blks G l
 | .mp b ks l => by unfold AV.wk; split <;> simp_all
theorem AV.wkL_blks (G : Nat -> Prop) : (l : List AV) -> AV.BlksL (fun b => ¬ G b) (AV.wkL G l)
 | [] => by unfold AV.wkL; simp
 | a :: l => by unfold AV.wkL AV.BlksL; exact ⟨AV.wk_blks G a, AV.wkL_blks G l⟩
end
mutual
theorem AV.wk_val (G : Nat -> Prop) : (a : AV) -> (a.wk G).val = a.val
 | .raw _ => by simp
 | .lst A n c cells => by unfold AV.wk; split <;> simp
 | .eptr ad cells => by unfold AV.wk; split <;> simp
 | .agg l => by unfold AV.wk AV.val; rw [AV.wkL_val G l]
 | .tup l => by unfold AV.wk AV.val; rw [AV.wkL_val G l]
 | .mp b ks l => by unfold AV.wk; split <;> simp
theorem AV.wkL_val (G : Nat -> Prop) : (l : List AV) -> AV.vals (AV.wkL G l) = AV.vals l
 | [] => by unfold AV.wkL; rfl
 | a :: l => by unfold AV.wkL AV.vals; rw [AV.wk_val G a, AV.wkL_val G l]
end
mutual
theorem Zar.wk {w : World} {B : Nat -> Nat -> Prop} (G : Nat -> Prop) : (a : AV) -> Zar w B a -> Zar w B (a.wk G)
 | .raw _, _ => by simp; unfold Zar; trivial
 | .lst A n c cells, h => by
  unfold AV.wk; split
  ·exact h
  ·unfold Zar; trivial
 | .eptr ad cells, h => by
  unfold AV.wk; split
  ·exact h
  ·unfold Zar; trivial
 | .agg l, h => by unfold AV.wk; unfold Zar at h ⊢; exact ZaY.wk G l h
 | .tup l, h => by unfold AV.wk; unfold Zar at h ⊢; exact ZaY.wk G l h
 | .mp b ks l, h => by
  unfold AV.wk; split
  ·exact h
  ·unfold Zar; trivial
theorem ZaY.wk {w : World} {B : Nat -> Nat -> Prop} (G : Nat -> Prop) : (l : List AV) -> ZaY w B l -> ZaY w B (AV.wkL G l)
 | [], _ => by unfold AV.wkL ZaY; trivial
 | a :: l, h => by unfold AV.wkL; unfold ZaY at h ⊢; exact ⟨Zar.wk G a h.1, ZaY.wk G l h.2⟩
end
structure ZqZ (σ : St) (env : Env) : Prop where
 env : ∀ i, (env i).Blks σ.used
 own : ∀ b t cs, σ.blk b = some (.own t cs) -> AV.BlksL σ.used cs
 used : ∀ b k, σ.blk b = some k -> σ.used b
def Zs4 (env : Env) (σ : St) (ad : Addr) (cells : List AV) : Prop := ∀ w B, (∀ i, Zar w B (env i)) -> (∀ b t cs, σ.blk b = some (.own t cs) -> ∀ c ∈ cs, Zar w B c) -> ZaS w B ad 0 cells
structure ZoY (env : Env) (σ : St) (G : Nat -> Prop) (σ' : St) : Prop where
 used : ∀ b, σ'.used b ↔ σ.used b
 none : ∀ b, σ.blk b = none -> σ'.blk b = none
 own : ∀ b t cs, σ.blk b = some (.own t cs) -> σ'.blk b = some (.own t (cs.map (AV.wk G)))
 tail : ∀ b t k s, ¬ G b -> σ.blk b = some (.tail t k s) -> σ'.blk b = some (.tail t k s)
 map : ∀ b es, σ.blk b = some (.map es) -> σ'.blk b = some (.map es)
 loose : ∀ g t k s, G g -> σ.blk g = some (.tail t k s) -> ∀ kn, Zs4 env σ ⟨g, 0, .none⟩ kn -> ∃ us : List Value, σ'.blk g = some (.own t (kn.map (fun d => .raw d.val) ++ us.map .raw)) /\ kn.length + us.length = s
def ZlV (O : Nat -> Prop) (env : Env) (σ : St) (K : Env -> St -> Prop) : Prop :=
 ZqZ σ env -> K env σ \/ ∃ G : Nat -> Prop, (∀ g, G g -> ¬ O g) /\ ∀ σ', ZoY env σ G σ' -> K (fun i => (env i).wk G) σ'
structure ZdX (O : Nat -> Prop) (w : World) (σ : St) (w' : World) (σ' : St) : Prop where
 os : w'.os = w.os
 tape : w'.tape = w.tape
 output : w'.output = w.output
 size : w.heap.size <= w'.heap.size
 used : ∀ b, b < w.heap.size -> σ'.used b -> σ.used b
 rest : ∀ b, b < w.heap.size -> σ.blk b = none -> w'.heap[b]? = w.heap[b]? /\ σ'.blk b = none
 tail : ∀ b t k s, O b -> b < w.heap.size -> σ.blk b = some (.tail t k s) -> (∀ j v, j < k -> w.cell? ⟨b, j, none⟩ = some v -> w'.cell? ⟨b, j, none⟩ = some v) /\ (σ'.blk b = none \/ ∃ t' k' s', σ'.blk b = some (.tail t' k' s') /\ k <= k')
 more : ∀ b, σ.used b -> σ'.used b
section
variable {O : Nat -> Prop} {w w' w'' : World} {σ σ' σ'' : St} {Z : Nat -> Prop} {env : Env} {a : Act} {nt : Nat} {D : List Deferred}
theorem Grow.toO (h : Grow w σ w' σ') : ZdX O w σ w' σ' := ⟨h.os, h.tape, h.output, h.size, h.used, h.rest, fun b t k s _ => h.tail b t k s, h.more⟩
theorem ZdX.refl (w : World) (σ : St) : ZdX O w σ w σ := (Grow.refl w σ).toO
theorem ZdX.trans (h : ZdX O w σ w' σ') (k : ZdX O w' σ' w'' σ'') : ZdX O w σ w'' σ'' := by
 refine ⟨k.os.trans h.os, k.tape.trans h.tape, k.output.trans h.output, Nat.le_trans h.size k.size, fun b hb hu => h.used b hb (k.used b (Nat.lt_of_lt_of_le hb h.size) hu), fun b hb hn => ?_, fun b t j s hO hb ht => ?_, fun b hu => k.more b (h.more b hu)⟩
 ·obtain ⟨h1, h2⟩ := h.rest b hb hn
  obtain ⟨h3, h4⟩ := k.rest b (Nat.lt_of_lt_of_le hb h.size) h2
  exact ⟨h3.trans h1, h4⟩
 ·obtain ⟨h1, h2⟩ := h.tail b t j s hO hb ht
  rcases h2 with h2 | ⟨t', k', s', h2, hle⟩
  ·obtain ⟨h3, h4⟩ := k.rest b (Nat.lt_of_lt_of_le hb h.size) h2
   refine ⟨fun i v hi hv => ?_, .inl h4⟩
   rw [World.cell?_of_block (w := w') h3]
   exact h1 i v hi hv
  ·obtain ⟨h3, h4⟩ := k.tail b t' k' s' hO (Nat.lt_of_lt_of_le hb h.size) h2
   refine ⟨fun i v hi hv => h3 i v (by omega) (h1 i v hi hv), ?_⟩
   rcases h4 with h4 | ⟨t2, k2, s2, h4, hle2⟩
   ·exact .inl h4
   ·exact .inr ⟨t2, k2, s2, h4, by omega⟩
theorem ZdX.full (hH : ZaG w σ Z) (h : ZdX σ.used w σ w' σ') : Grow w σ w' σ' :=
 ⟨h.os, h.tape, h.output, h.size, h.used, h.rest, fun b t k s hb ht => h.tail b t k s (hH.tail _ _ _ _ ht).1 hb ht, h.more⟩
theorem ZdI.known (hI : ZdI D nt w σ Z env a) : ZqZ σ env := by
 have hu : ∀ b o, σ.free Z b o -> σ.used b := fun b o h => h.2.1
 refine ⟨fun i => Zar.blks hu _ (hI.valid i), fun b t cs hb => AV.BlksL_iff.2 fun c hc => Zar.blks hu _ ((hI.heap.own _ _ _ hb).2.2 c hc), fun b k hb => ?_⟩
 cases k with
 | own t cs => exact (hI.heap.own _ _ _ hb).1
 | tail t k s => exact (hI.heap.tail _ _ _ _ hb).1
 | map es => exact (hI.heap.map _ _ hb).1
open Classical in
noncomputable def Zde (w : World) (σ : St) (G : Nat -> Prop) : St := ⟨fun b => match σ.blk b with
 | some (.tail t k s) => if G b then match w.heap[b]? with
  | some (.cells cs _ _) => some (.own t (cs.toList.map .raw))
  | _ => none
  else some (.tail t k s)
 | some (.own t cs) => some (.own t (cs.map (AV.wk G)))
 | some (.map es) => some (.map es)
 | none => none, σ.used, by
 obtain ⟨n, h⟩ := σ.fin
 refine ⟨n, fun b hb => ⟨(h b hb).1, ?_⟩⟩
 rw [(h b hb).2]⟩
theorem Zdf {G : Nat -> Prop} {b : Nat} (h : σ.blk b = none) : (Zde w σ G).blk b = none := by unfold Zde; dsimp only; rw [h]
theorem Zgo {G : Nat -> Prop} {b : Nat} {t : TypeId} {cs : List AV} (h : σ.blk b = some (.own t cs)) : (Zde w σ G).blk b = some (.own t (cs.map (AV.wk G))) := by unfold Zde; dsimp only; rw [h]
theorem ZdN {G : Nat -> Prop} {b : Nat} {t : TypeId} {k s : Nat} (hg : ¬ G b) (h : σ.blk b = some (.tail t k s)) : (Zde w σ G).blk b = some (.tail t k s) := by unfold Zde; dsimp only; rw [h]; dsimp only; rw [if_neg hg]
theorem Zgp {G : Nat -> Prop} {b : Nat} {es : List (Value × Value)} (h : σ.blk b = some (.map es)) : (Zde w σ G).blk b = some (.map es) := by unfold Zde; dsimp only; rw [h]
theorem ZeD {G : Nat -> Prop} {b : Nat} {t t' : TypeId} {k s : Nat} {cs : Array Value} {x : Nat × Nat} (hg : G b) (h : σ.blk b = some (.tail t k s)) (hw : w.heap[b]? = some (.cells cs t' x)) : (Zde w σ G).blk b = some (.own t (cs.toList.map .raw)) := by
 unfold Zde; dsimp only; rw [h]; dsimp only; rw [if_pos hg, hw]
theorem ZlW {G : Nat -> Prop} {b o : Nat} (hg : ¬ G b) (h : σ.free Z b o) : (Zde w σ G).free Z b o := by
 obtain ⟨h1, h2, h3⟩ := h
 refine ⟨h1, h2, ?_⟩
 cases hb : σ.blk b with
 | none => rw [Zdf hb]; trivial
 | some x =>
  rw [hb] at h3
  cases x with
  | own t cs => exact h3.elim
  | map es => exact h3.elim
  | tail t k s => rw [ZdN hg hb]; exact h3
theorem ZhF {G : Nat -> Prop} {c : AV} (h : Zar w (σ.free Z) c) : Zar w ((Zde w σ G).free Z) (c.wk G) :=
 ((h.wk G).and _ (AV.wk_blks G c)).sub fun b o hb => ZlW hb.2 hb.1
theorem ZdI.thaw (hI : ZdI D nt w σ Z env a) (G : Nat -> Prop) (hG : ∀ g, G g -> ¬ O g) :
 ZdI D nt w (Zde w σ G) Z (fun i => (env i).wk G) a /\ ZdX O w σ w (Zde w σ G) /\ ZoY env σ G (Zde w σ G) := by
 have hH := hI.heap
 refine ⟨⟨⟨hH.used, fun b hz => ⟨(hH.z b hz).1, Zdf (hH.z b hz).2⟩, fun b t cs hb => ?_, fun b t k s hb => ?_, fun b es hb => ?_⟩, hI.defers, hI.size, fun i => by rw [AV.wk_val]; exact hI.val i, fun i => ZhF (hI.valid i)⟩, ?_, ?_⟩
 ·cases hx : σ.blk b with
  | none => rw [Zdf hx] at hb; cases hb
  | some x =>
   cases x with
   | own t' cs' =>
    rw [Zgo hx] at hb
    injection hb with hb
    injection hb with e1 e2
    subst e1 e2
    obtain ⟨g1, g2, g3⟩ := hH.own _ _ _ hx
    refine ⟨g1, ?_, fun c hc => ?_⟩
    ·rw [g2]
     simp [Function.comp_def, AV.wk_val]
    ·obtain ⟨d, hd, rfl⟩ := List.mem_map.1 hc
     exact ZhF (g3 d hd)
   | tail t' k s =>
    by_cases hg : G b
    ·obtain ⟨g1, cs', g2, g3, g4⟩ := hH.tail _ _ _ _ hx
     rw [ZeD hg hx g2] at hb
     injection hb with hb
     injection hb with e1 e2
     subst e1 e2
     refine ⟨g1, by rw [g2]; simp [Function.comp_def], fun c hc => ?_⟩
     obtain ⟨d, hd, rfl⟩ := List.mem_map.1 hc
     unfold Zar; trivial
    ·rw [ZdN hg hx] at hb; cases hb
   | map es => rw [Zgp hx] at hb; cases hb
 ·cases hx : σ.blk b with
  | none => rw [Zdf hx] at hb; cases hb
  | some x =>
   cases x with
   | own t' cs' => rw [Zgo hx] at hb; cases hb
   | tail t' k' s' =>
    by_cases hg : G b
    ·obtain ⟨g1, cs', g2, g3, g4⟩ := hH.tail _ _ _ _ hx
     rw [ZeD hg hx g2] at hb
     cases hb
    ·rw [ZdN hg hx] at hb
     injection hb with hb
     injection hb with e1 e2 e3
     subst e1 e2 e3
     exact hH.tail _ _ _ _ hx
   | map es => rw [Zgp hx] at hb; cases hb
 ·cases hx : σ.blk b with
  | none => rw [Zdf hx] at hb; cases hb
  | some x =>
   cases x with
   | own t' cs' => rw [Zgo hx] at hb; cases hb
   | tail t' k' s' =>
    by_cases hg : G b
    ·obtain ⟨g1, cs', g2, g3, g4⟩ := hH.tail _ _ _ _ hx
     rw [ZeD hg hx g2] at hb
     cases hb
    ·rw [ZdN hg hx] at hb; cases hb
   | map es' =>
    rw [Zgp hx] at hb
    injection hb with hb
    injection hb with hb
    subst hb
    exact hH.map _ _ hx
 ·exact ⟨rfl, rfl, rfl, Nat.le_refl _, fun _ _ h => h, fun b _ hn => ⟨rfl, Zdf hn⟩, fun b t k s hO _ ht => ⟨fun _ _ _ h => h, .inr ⟨t, k, s, ZdN (fun hg => hG b hg hO) ht, Nat.le_refl _⟩⟩, fun _ h => h⟩
 ·refine ⟨fun b => Iff.rfl, fun b => Zdf, fun b t cs => Zgo, fun b t k s hg => ZdN hg, fun b es => Zgp, fun g t k s hg ht kn hkn => ?_⟩
  obtain ⟨g1, cs', g2, g3, g4⟩ := hH.tail _ _ _ _ ht
  have hv := hkn w (σ.free Z) hI.valid fun b t cs hb => (hH.own _ _ _ hb).2.2
  have hcell : ∀ (j : Nat) (d : AV), kn[j]? = some d -> cs'[j]? = some d.val := fun j d hd => by
   have := (hv.get hd).1
   rw [Nat.zero_add, Zci] at this
   simpa [World.cell?, g2] using this
  have hle : kn.length <= s := by
   rw [<- g3]
   by_cases h0 : kn.length = 0
   ·omega
   ·have := hcell (kn.length - 1) (kn[kn.length - 1]'(by omega)) (List.getElem?_eq_getElem _)
    have := (Array.getElem?_eq_some_iff.1 this).1
    omega
  refine ⟨cs'.toList.drop kn.length, ?_, by simp; omega⟩
  rw [ZeD hg ht g2]
  congr 2
  have : cs'.toList = kn.map AV.val ++ cs'.toList.drop kn.length := by
   conv => lhs; rw [<- List.take_append_drop kn.length cs'.toList]
   congr 1
   apply List.ext_getElem?
   intro j
   rw [List.getElem?_take, List.getElem?_map]
   split
   ·rename_i hj
    rw [Array.getElem?_toList, hcell j kn[j] (List.getElem?_eq_getElem hj), List.getElem?_eq_getElem hj]
    rfl
   ·rename_i hj
    rw [List.getElem?_eq_none (by omega : kn.length <= j)]
    rfl
  conv => lhs; rw [this]
  simp [Function.comp_def]
theorem ZlV.sound {K : Env -> St -> Prop} (hI : ZdI D nt w σ Z env a) (h : ZlV O env σ K) : ∃ env' σ', K env' σ' /\ ZdI D nt w σ' Z env' a /\ ZdX O w σ w σ' := by
 rcases h hI.known with h | ⟨G, hG, h⟩
 ·exact ⟨env, σ, h, hI, ZdX.refl _ _⟩
 ·obtain ⟨h1, h2, h3⟩ := hI.thaw G hG
  exact ⟨_, _, h _ h3, h1, h2⟩
end
end Go.Proofs.YtiienjjhlibopaaGreatDoor
