/- A map that a function makes of what its text says, and tells: its contract. -/
import Derived.Test.YtaihdjknneiciaaGreatWr
import Derived.WalkKit
namespace Go.Proofs.YtaihdjknneiciaaGreat
open Go.RowKit
set_option linter.unusedSimpArgs false
set_option maxRecDepth 100000
set_option linter.unusedVariables false
theorem Zxy {P : Program} {t kt et : TypeId} {kd : IntKind} (ht : P.underlying t = some (.map kt et)) (hkt : P.underlying kt = some (.int kd)) {w : World} {r c : Nat} {es : Array MapEntry} {n : Int} {v : Value}
 (hb : w.heap[r]? = some (.map es c)) (hf : Instr.findNow (.int kd) (.int kd n) es.toList 0 = some none) :
 (Instr.mapUpdate t (.map (some r)) (.int kd n) v).run P w = .ok () { w with heap := w.heap.setIfInBounds r (.map (es.push { key := .int kd n, val := v, born := c }) (c + 1)) } := by
 have ho : (getObj r).run P w = .ok (.map es c) w := by simp [getObj, Sem.run, hb]
 have hs : ∀ o, (setObj r o).run P w = .ok () { w with heap := w.heap.setIfInBounds r o } := fun o => by simp [setObj, Sem.run, hb]
 have hck : (Instr.checkKey false 10000 kt (.int kd n)).run P w = .ok () w := by
  rw [show (10000 : Nat) = 9999 + 1 from rfl]
  unfold Instr.checkKey
  rw [Sem.run_bind, run_underlying hkt]
  rfl
 have hfk : (Instr.findKey kt (.int kd n) es.toList).run P w = .ok none w := by
  unfold Instr.findKey
  rw [Sem.run_bind, run_underlying hkt]
  dsimp only [Result.andThen]
  rw [hf]
  rfl
 unfold Instr.mapUpdate
 rw [Sem.run_bind, run_underlying ht]
 dsimp only [Result.andThen]
 rw [Sem.run_bind, ho]
 dsimp only [Result.andThen]
 rw [Sem.run_bind, hck]
 dsimp only [Result.andThen]
 rw [Sem.run_bind, hfk]
 dsimp only [Result.andThen]
 rw [hs]
structure Wy (w0 : World) (rows : List Obj) (es : Array MapEntry) (c : Nat) (w : World) : Prop where
 map : w.heap[w0.heap.size]? = some (.map es c)
 size : w.heap.size = w0.heap.size + 1 + rows.length
 old : ∀ b, b < w0.heap.size -> w.heap[b]? = w0.heap[b]?
 row : ∀ (i : Nat) o, rows[i]? = some o -> w.heap[w0.heap.size + 1 + i]? = some o
 os : w.os = w0.os
 tape : w.tape = w0.tape
 output : w.output = w0.output
theorem ZeY (w : World) (o : Obj) : (w.alloc o).heap = w.heap.push o := rfl
theorem Wy.new (w : World) : Wy w [] #[] 0 (w.alloc (.map #[] 0)) := by
 refine ⟨?_, ?_, fun b hb => ?_, fun i o h => by simp at h, rfl, rfl, rfl⟩
 ·rw [ZeY, Array.getElem?_push, if_pos rfl]
 ·rw [ZeY, Array.size_push]; rfl
 ·rw [ZeY, Array.getElem?_push, if_neg (by omega)]
theorem Wy.add {w0 w : World} {rows : List Obj} {es : Array MapEntry} {c : Nat} (h : Wy w0 rows es c w) (o : Obj) : Wy w0 (rows ++ [o]) es c (w.alloc o) := by
 have hs := h.size
 refine ⟨?_, ?_, fun b hb => ?_, fun i o' h' => ?_, h.os, h.tape, h.output⟩
 ·rw [ZeY, Array.getElem?_push, if_neg (by omega)]; exact h.map
 ·rw [ZeY, Array.size_push, List.length_append, List.length_singleton]; omega
 ·rw [ZeY, Array.getElem?_push, if_neg (by omega)]; exact h.old b hb
 ·rw [ZeY, Array.getElem?_push]
  by_cases hi : i < rows.length
  ·rw [List.getElem?_append_left hi] at h'
   rw [if_neg (by omega)]
   exact h.row i o' h'
  ·rw [List.getElem?_append_right (by omega)] at h'
   have hi0 : i - rows.length = 0 := by
    rcases Nat.eq_zero_or_pos (i - rows.length) with h0 | h0
    ·exact h0
    ·rw [List.getElem?_eq_none (by simp; omega)] at h'; cases h'
   rw [hi0] at h'
   injection h' with h'
   rw [if_pos (by omega), h']
theorem Wy.ins {w0 w : World} {rows : List Obj} {es es' : Array MapEntry} {c c' : Nat} (h : Wy w0 rows es c w) : Wy w0 rows es' c' { w with heap := w.heap.setIfInBounds w0.heap.size (.map es' c') } := by
 have hs := h.size
 refine ⟨?_, ?_, fun b hb => ?_, fun i o' h' => ?_, h.os, h.tape, h.output⟩
 ·show (w.heap.setIfInBounds w0.heap.size _)[w0.heap.size]? = _
  rw [Array.getElem?_setIfInBounds_self_of_lt (by omega)]
 ·show (w.heap.setIfInBounds w0.heap.size _).size = _
  rw [Array.size_setIfInBounds]; exact hs
 ·show (w.heap.setIfInBounds w0.heap.size _)[b]? = _
  rw [Array.getElem?_setIfInBounds_ne (by omega)]; exact h.old b hb
 ·show (w.heap.setIfInBounds w0.heap.size _)[_]? = _
  rw [Array.getElem?_setIfInBounds_ne (by omega)]; exact h.row i o' h'
theorem Zdk {P : Program} {w0 w : World} {rows : List Obj} {es : Array MapEntry} {c : Nat} (F : Wy w0 rows es c w) {ops : Array Oper} {rest : List Oper} {o : Oper} {a : Act} {Q : Exit -> Act -> World -> Prop}
 (hg : o.guard = none) (m x v : Operand) (t : TypeId) (hop : o.op = Op.insert t m x v) {kt et : TypeId} {kd : IntKind} (ht : P.underlying t = some (.map kt et)) (hkt : P.underlying kt = some (.int kd)) (hm : a.eval m = .map (some w0.heap.size)) (n : Int) (hx : a.eval x = .int kd n)
 (hf : Instr.findNow (.int kd) (.int kd n) es.toList 0 = some none)
 (hK : ∀ w', Wy w0 rows (es.push { key := .int kd n, val := a.eval v, born := c }) (c + 1) w' -> wpList P ops Q rest (a.put o.dst undef) w') :
 wpList P ops Q (o :: rest) a w := by
 refine wpList_plain hg fun K' hK' => ?_
 unfold Oper.wp
 simp [execOp, hop, hm, hx, Zxy ht hkt F.map hf, Result.andThen]
 exact hK' _ _ (hK _ F.ins)
section
variable {T : Nat -> Type} {C : Zaz T} {P : Program}
theorem ZBd {w : World} {B : Nat -> Nat -> Prop} {b n : Nat} {t : TypeId} {cs : List AV} (hb : w.heap[b]? = some (.cells (cs.map AV.val).toArray t (0, 0))) (hB : ∀ o, B b o) (hv : ∀ c ∈ cs, Zaj w B c) : Zaj w B (.lst (some ⟨b, 0, none⟩) n n cs) := by
 unfold Zaj
 refine ⟨Nat.le_refl _, (fun h => by cases h), fun ad had => ?_⟩
 injection had with had
 subst had
 refine Zay.mk fun i d hd => ⟨?_, hB _, hv d (List.mem_of_getElem? hd)⟩
 have hi : i < cs.length := Zaw hd
 have hd' : cs[i] = d := by rw [List.getElem?_eq_getElem hi] at hd; injection hd
 have ha : ((⟨b, 0, none⟩ : Addr).add (0 + i)) = ⟨b, i, none⟩ := by
  unfold Addr.add
  split <;> simp_all
 rw [ha]
 simp [World.cell?, hb, hi, hd']
def ZBJ (base i : Nat) (xs : List UInt8) : AV := .lst (some ⟨base + 1 + i, 0, none⟩) xs.length xs.length (xs.map fun b => AV.raw (.int .u8 (b.toNat : Int)))
theorem ZeZ {w : World} {B : Nat -> Nat -> Prop} {base i : Nat} {xs : List UInt8} {t : TypeId} (h : w.heap[base + 1 + i]? = some (.cells (xs.map fun b => Value.int .u8 (b.toNat : Int)).toArray t (0, 0)) /\ ∀ x, B (base + 1 + i) x) : Zaj w B (ZBJ base i xs) := by
 refine ZBd (t := t) (by rw [h.1]; simp [Function.comp_def]) h.2 fun c hc => ?_
 obtain ⟨b, _, rfl⟩ := List.mem_map.1 hc
 exact ZaK _
theorem Zv1 {N : Nat} {ρ : Nat -> AV} : ∀ xs : List UInt8, SVs C N ρ (xs.map fun b => XV.int .u8 (b.toNat : Int)) (xs.map fun b => AV.raw (.int .u8 (b.toNat : Int)))
 | [] => .none
 | x :: xs => .cons (Zax.2 rfl) (Zv1 xs)
theorem Wy.tr {f : FuncId} {E : Nat} {kk : IntKind} {tb : List (Int × List (T E))} {rows : List Obj} {mk : Nat -> Array MapEntry} {c : Nat} (hf : Zei P f = true)
 (hcall : ∀ w, Calls P f #[] w fun e w' => e = .returned (.map (some w.heap.size)) /\ Wy w rows (mk w.heap.size) c w')
 (hls : ∀ base, ∃ ls : List AV, (∀ N (ρ : Nat -> AV), SVs C N ρ (tb.map fun p => XV.sl E p.2 none) ls) /\ (mk base).toList.map (·.key) = tb.map (fun p => Value.int kk p.1) /\ (mk base).toList.map (·.val) = AV.vals ls /\
  ∀ (w' : World) (B : Nat -> Nat -> Prop), (∀ (i : Nat) o, rows[i]? = some o -> w'.heap[base + 1 + i]? = some o /\ ∀ x, B (base + 1 + i) x) -> ZaM w' B ls) :
 Tr C P (fun _ => True) f [] [] (.mp E kk tb) [] := by
 intro ρ σ vs hs H
 cases Zbq.1 hs
 refine fun w Z hH hV => .inl ⟨hf, ?_⟩
 refine Calls.mono (hcall w) ?_
 rintro e w' ⟨rfl, F⟩
 obtain ⟨ls, l1, l2, l3, l4⟩ := hls w.heap.size
 have hfr : ∀ b, w.heap.size <= b -> σ.blk b = none /\ ¬ Z b := fun b hb => by
  refine ⟨?_, fun hz => by have := (hH.z _ hz).1; omega⟩
  cases hq : σ.blk b with
  | none => rfl
  | some x =>
   exfalso
   cases x with
   | own t cs => have := hH.used _ (hH.own _ _ _ hq).1; omega
   | tail t k s => have := hH.used _ (hH.tail _ _ _ _ hq).1; omega
   | map es => have := hH.used _ (hH.map _ _ hq).1; omega
 obtain ⟨nf, hnf⟩ := σ.fin
 have hsz := F.size
 let σ' : St := ⟨σ.blk, fun x => σ.used x \/ (w.heap.size <= x /\ x < w'.heap.size), ⟨max nf w'.heap.size, fun b hb => ⟨fun hu => by
  rcases hu with hu | hu
  ·exact (hnf b (by omega)).1 hu
  ·omega, (hnf b (by omega)).2⟩⟩⟩
 have hg : Grow w σ w' σ' := by
  refine ⟨F.os, F.tape, F.output, by omega, fun b hb hu => ?_, fun b hb hn => ⟨F.old b hb, hn⟩, fun b t k s hb ht => ⟨fun j v _ hv => ?_, .inr ⟨t, k, s, ht, Nat.le_refl _⟩⟩, fun b hu => .inl hu⟩
  ·rcases hu with hu | hu
   ·exact hu
   ·omega
  ·rw [World.cell?_of_block (w := w) (F.old b hb)]
   exact hv
 have hH' : Zan w' σ' Z := by
  refine ⟨fun b hu => ?_, fun b hz => ?_, fun b t cs hb => ?_, fun b t k s hb => ?_, fun b es hb => ?_⟩
  ·rcases hu with hu | hu
   ·have := hH.used _ hu; omega
   ·omega
  ·obtain ⟨z1, z2⟩ := hH.z _ hz
   exact ⟨by omega, z2⟩
  ·obtain ⟨g1, g2, g3⟩ := hH.own _ _ _ hb
   exact ⟨.inl g1, (F.old b (hH.used _ g1)).trans g2, fun c hc => hg.valid (g3 c hc)⟩
  ·obtain ⟨g1, cs, g2, g3⟩ := hH.tail _ _ _ _ hb
   exact ⟨.inl g1, cs, (F.old b (hH.used _ g1)).trans g2, g3⟩
  ·obtain ⟨g1, a', c', g2, g3⟩ := hH.map _ _ hb
   exact ⟨.inl g1, a', c', (F.old b (hH.used _ g1)).trans g2, g3⟩
 have hfree : ∀ b o, w.heap.size <= b -> b < w'.heap.size -> σ'.free Z b o := fun b o h1 h2 => by
  refine ⟨(hfr b h1).2, .inr ⟨h1, h2⟩, ?_⟩
  show match σ.blk b with | none => True | some (.own _ _) => False | some (.tail _ k _) => o < k | some (.map _) => False
  rw [(hfr b h1).1]
  trivial
 have hval : Zaj w' (σ'.free Z) (.mp w.heap.size (tb.map fun p => Value.int kk p.1) ls) := by
  unfold Zaj
  refine ⟨fun o => hfree _ o (Nat.le_refl _) (by omega), ⟨_, _, F.map, l2, l3⟩, l4 w' _ fun i o ho => ?_⟩
  have hi := Zaw ho
  exact ⟨F.row i o ho, fun x => hfree _ x (by omega) (by omega)⟩
 refine ⟨.mp w.heap.size (tb.map fun p => Value.int kk p.1) ls, σ', by simp, ⟨ρ, ZBT.2 ⟨_, ls, rfl, l1 _ _⟩, ?_, ?_⟩, hH', hval, hg⟩
 ·refine ⟨fun i x hx => by simp at hx, fun i j x y b hx => by simp at hx⟩
 ·refine ⟨Nat.le_refl _, fun i hi => rfl, ?_, ?_⟩
  ·refine ⟨fun b k hn hk => hk, fun b hu => .inl hu⟩
  ·rintro b ⟨i, x, hx, _⟩
   simp at hx
end
end Go.Proofs.YtaihdjknneiciaaGreat
