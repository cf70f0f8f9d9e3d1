/- Zs8: how many bytes all files have, in whatever order they come. -/
import Derived.Test.YtinpiaibhjmfaaaDm
import Derived.Test.YtinpiaibhjmfaaaChecked
import Derived.Laws.IdiomRangeMap
import Derived.Maps.RangeRun
import Derived.WalkKit
import Derived.WalkSpells
import Derived.WalkLawsBesides
import Derived.Deep.RegionHeld3
import Derived.BigRegion
namespace Go.Proofs.Ytinpiaibhjmfaaa
open Go.RowKit
open Go.ChangeMaps (setBlock)
set_option maxRecDepth 100000
set_option linter.unusedVariables false
def Zqp (w' w : World) : Prop := w'.heap = w.heap /\ w'.os = w.os /\ w'.output = w.output /\ w'.tape = w.tape
theorem Zqp.refl (w : World) : Zqp w w := ⟨rfl, rfl, rfl, rfl⟩
theorem Zqp.trans {a b c : World} (h : Zqp a b) (k : Zqp b c) : Zqp a c := ⟨h.1.trans k.1, h.2.1.trans k.2.1, h.2.2.1.trans k.2.2.1, h.2.2.2.trans k.2.2.2⟩
theorem ZfO (w : World) (a b : Obj) : setBlock (w.alloc a) w.heap.size b = w.alloc b := by
 unfold setBlock World.alloc
 congr 1
 apply Array.ext'
 simp
theorem ZqZ {P : Program} (w : World) (ty : TypeId) (bm since c0 : Nat) (seen : Array Nat) (es : Array MapEntry) (clock : Nat) (hb : w.heap[bm]? = some (.map es clock)) (hold : ∀ x ∈ es.toList, x.born < since) (hsc : since <= c0) :
 ((leftOf es seen).size = 0 /\ (Instr.next (.pointer (some ⟨w.heap.size, 0, none⟩)) false ty).run P (w.alloc (.mapIter (some bm) since seen c0)) = .ok (.tuple #[.bool false]) (w.alloc (.mapIter (some bm) since seen c0))) \/
 ∃ e ∈ (leftOf es seen).toList, ∃ w1 : World, Zqp w1 w /\ (Instr.next (.pointer (some ⟨w.heap.size, 0, none⟩)) false ty).run P (w.alloc (.mapIter (some bm) since seen c0)) = .ok (.tuple #[.bool true, e.key, e.val]) (w1.alloc (.mapIter (some bm) since (seen.push e.born) clock)) := by
 have hlt : bm < w.heap.size := by
  rcases Nat.lt_or_ge bm w.heap.size with h | h
  ·exact h
  ·simp [Array.getElem?_eq_none h] at hb
 have hb' : (w.alloc (.mapIter (some bm) since seen c0)).heap[bm]? = some (.map es clock) := by rw [heap_alloc_old w _ hlt, hb]
 rcases run_next_at (P := P) (w.alloc (.mapIter (some bm) since seen c0)) ty w.heap.size bm since c0 seen es clock (heap_alloc_new _ _) hb' hold hsc with h | ⟨e, he, w1, h1 | h1, h2⟩
 ·exact .inl h
 ·subst h1
  exact .inr ⟨e, he, w, .refl _, by rw [h2, ZfO]⟩
 ·subst h1
  refine .inr ⟨e, he, w.drew, ⟨rfl, rfl, rfl, rfl⟩, ?_⟩
  rw [h2]
  congr 1
  exact ZfO w.drew _ _
def Zk7 (w : World) : Value -> Int
 | .pointer (some ad) => match w.cell? ⟨ad.block, 0, none⟩ with
  | some (Value.slice _ n _) => (n : Int)
  | _ => 0
 | _ => 0
theorem ZjS {w : World} {fb n c : Nat} {A : Option Addr} (h : w.cell? ⟨fb, 0, none⟩ = some (.slice A n c)) : Zk7 w (.pointer (some ⟨fb, 0, none⟩)) = (n : Int) := by
 unfold Zk7
 dsimp only
 rw [h]
def Zk8 (w : World) (es : Array MapEntry) : List MapEntry := es.toList.map fun e => { e with val := .int .i32 (Zk7 w e.val) }
theorem Zpw (w : World) (es : Array MapEntry) : (Zk8 w es).map (·.born) = es.toList.map (·.born) := by
 unfold Zk8
 rw [List.map_map]
 rfl
theorem Zq0 {w : World} {es : Array MapEntry} {e : MapEntry} (h : e ∈ es.toList) : { e with val := .int .i32 (Zk7 w e.val) } ∈ Zk8 w es := List.mem_map.2 ⟨e, h, rfl⟩
theorem Zjf (l : List MapEntry) (seen : Array Nat) (h : ∀ e ∈ l, 0 <= valOf e.val) : 0 <= seenSum l seen /\ seenSum l seen <= (l.map fun e => valOf e.val).sum := by
 induction l with
 | nil => exact ⟨Int.le_refl _, Int.le_refl _⟩
 | cons x l ih =>
  obtain ⟨h1, h2⟩ := ih (fun e he => h e (List.mem_cons_of_mem _ he))
  have hx := h x List.mem_cons_self
  rw [List.map_cons, List.sum_cons]
  unfold seenSum
  split <;> omega
theorem Zjg {w : World} {o : Obj} {a : Addr} {v : Value} (h : w.cell? a = some v) : (w.alloc o).cell? a = some v := by
 have hb := World.block_lt_of_cell? w a h
 rw [World.cell?_of_block (w := w) (heap_alloc_old w o hb)]
 exact h
theorem Zk9 {w w' : World} (h : Zqp w' w) {a : Addr} {v : Value} (hc : w.cell? a = some v) : w'.cell? a = some v := by
 rw [World.cell?_of_block (w := w) (by rw [h.1])]
 exact hc
set_option maxHeartbeats 4000000 in
theorem Zq1 (bb mb : Nat) (lv : Value) (size more : Int) (es : Array MapEntry) (clock : Nat) (w : World)
 (hd1 : w.cell? ⟨bb, 1, none⟩ = some (.map (some mb))) (hd2 : w.cell? ⟨bb, 2, none⟩ = some (.int .i64 size)) (hm : w.heap[mb]? = some (.map es clock)) (hst : (∀ x ∈ es.toList, x.born < clock) /\ (es.toList.map (·.born)).Nodup)
 (hf : ∀ x ∈ es.toList, ∃ fb A n c, x.val = .pointer (some ⟨fb, 0, none⟩) /\ w.cell? ⟨fb, 0, none⟩ = some (.slice A n c))
 (h0 : 0 <= more) (hb : more + ((Zk8 w es).map fun e => valOf e.val).sum <= 1000000000000) :
 Calls Try.prog 37 #[.pointer (some ⟨bb, 0, none⟩), .int .i64 more] w fun e w' => e = .returned (.bool (decide (size < 1 \/ more + ((Zk8 w es).map fun e => valOf e.val).sum <= size))) /\ ∃ (w1 : World) (seen : Array Nat), Zqp w1 w /\ w' = w1.alloc (.mapIter (some mb) clock seen clock) := by
 have hpos : ∀ e ∈ Zk8 w es, 0 <= valOf e.val := fun e he => by
  obtain ⟨x, hx, rfl⟩ := List.mem_map.1 he
  obtain ⟨fb, A, n, c, h1, h2⟩ := hf x hx
  show 0 <= Zk7 w x.val
  rw [h1, ZjS h2]
  omega
 have hrg := run_range_map (P := Try.prog) w 63 9 76 mb es clock (by kernel_rfl) hm
 generalize hT : ((Zk8 w es).map fun e => valOf e.val).sum = T at hb ⊢
 go_enter Try.func37, Try.ntmps37
 go_wp2
 go_loopw [1] (fun s w' => ∃ (w1 : World) (seen : Array Nat), Zqp w1 w /\ w' = w1.alloc (.mapIter (some mb) clock seen clock) /\ s = .int .i64 (more + seenSum (Zk8 w es) seen)) (fun _ w' => (leftOf es (w'.iterSeen w.heap.size)).size)
 case atStart => exact ⟨w, #[], .refl _, rfl, by rw [seenSum_none, Int.add_zero]⟩
 case round =>
  obtain ⟨w1, seen, hal, rfl, rfl⟩ := hrel
  have hsz : w1.heap.size = w.heap.size := by rw [hal.1]
  have hb1 : w1.heap[mb]? = some (.map es clock) := by rw [hal.1]; exact hm
  have law := ZqZ (P := Try.prog) w1 0 mb clock clock seen es clock hb1 hst.1 (Nat.le_refl _)
  obtain ⟨hs1, hs2⟩ := Zjf (Zk8 w es) seen hpos
  rw [hT] at hs2
  rw [hsz] at law
  rcases law with ⟨h0', hrun⟩ | ⟨e, he, w2, hal2, hrun⟩
  ·have hnx : ∀ ty, (Instr.next (.pointer (some ⟨w.heap.size, 0, none⟩)) false ty).run Try.prog (w1.alloc (.mapIter (some mb) clock seen clock)) = _ := fun _ => hrun
   have hc2 : (w1.alloc (.mapIter (some mb) clock seen clock)).cell? ⟨bb, 2, none⟩ = some (.int .i64 size) := Zjg (Zk9 hal hd2)
   have hall : seenSum (Zk8 w es) seen = T := by
    rw [<- hT]
    refine seenSum_full seen _ fun x hx => ?_
    obtain ⟨y, hy, rfl⟩ := List.mem_map.1 hx
    cases hq : seen.contains y.born with
    | true => rfl
    | false =>
     exfalso
     have : y ∈ leftOf es seen := by
      unfold leftOf
      rw [Array.mem_filter]
      exact ⟨Array.mem_toList_iff.1 hy, by rw [hq]; rfl⟩
     have := Array.size_pos_of_mem this
     omega
   rw [hall]
   go_wp2
   ·go_ret
    exact ⟨by simp, w1, seen, hal, rfl⟩
   ·go_ret
    exact ⟨rfl, w1, hal, seen, rfl⟩
  ·obtain ⟨fb, A, n, c, hval, hfc⟩ := hf e (mem_left he).1
   rw [hval] at hrun
   have hnx : ∀ ty, (Instr.next (.pointer (some ⟨w.heap.size, 0, none⟩)) false ty).run Try.prog (w1.alloc (.mapIter (some mb) clock seen clock)) = _ := fun _ => hrun
   have hal3 := hal2.trans hal
   have hsz2 : w2.heap.size = w.heap.size := by rw [hal3.1]
   have hb2 : w2.heap[mb]? = some (.map es clock) := by rw [hal3.1]; exact hm
   have hen := run_entry_map (P := Try.prog) w2 mb clock seen es clock e hb2 (mem_left he).1 hst.2
   rw [hsz2, hval] at hen
   have hc2 : (w2.alloc (.mapIter (some mb) clock (seen.push e.born) clock)).cell? ⟨fb, 0, none⟩ = some (.slice A n c) := Zjg (Zk9 hal3 hfc)
   have hpush : seenSum (Zk8 w es) (seen.push e.born) = seenSum (Zk8 w es) seen + (n : Int) := by
    have := seenSum_push seen { e with val := .int .i32 (Zk7 w e.val) } (mem_left he).2 (Zk8 w es) (by rw [Zpw]; exact hst.2) (Zq0 (mem_left he).1)
    rw [hval, ZjS hfc] at this
    exact this
   obtain ⟨hs3, hs4⟩ := Zjf (Zk8 w es) (seen.push e.born) hpos
   rw [hT] at hs4
   go_wp2
   go_roundw
   case rel =>
    refine ⟨w2, seen.push e.born, hal3, rfl, ?_⟩
    rw [hpush, Int.add_assoc]
   case measure =>
    rw [<- hsz2, World.iterSeen_alloc, hsz2, <- hsz, World.iterSeen_alloc]
    exact left_shrinks es seen e he
end Go.Proofs.Ytinpiaibhjmfaaa
