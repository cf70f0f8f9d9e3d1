/- XNw, XDg, XDca, XDe, XDcb, XDz, XDcc in one. -/
import Derived.Test.YtinpiaibhjmfaaaMc
import Derived.Test.YtinpiaibhjmfaaaDc
import Derived.Test.YtinpiaibhjmfaaaSk
import Derived.Test.YtinpiaibhjmfaaaMh
import Derived.Test.YtinpiaibhjmfaaaMe
namespace Go.Proofs.Ytinpiaibhjmfaaa
open Go.RowKit
set_option linter.unusedSimpArgs false
set_option maxRecDepth 100000
set_option linter.unusedVariables false
section
variable {w w' : World} {σ : St} {Z : Nat -> Prop}
theorem Grow.below (h : Zau w σ Z) (hb : Below w.heap.size w w') {g : Nat} (hg : w.heap.size <= g) (k : Bk) : Grow w σ w' (σ.put g k) := by
 have hne : ∀ b, b < w.heap.size -> b ≠ g := fun b hb => by omega
 refine ⟨hb.os, hb.tape, hb.output, hb.size, fun b hl hu => ?_, fun b hl hn => ⟨hb.block b hl, ?_⟩, fun b t k' s hl ht => ⟨fun j v _ hv => ?_, .inr ⟨t, k', s, ?_, Nat.le_refl _⟩⟩, fun b hu => .inl hu⟩
 ·rcases hu with hu | hu
  ·exact hu
  ·exact absurd hu (hne b hl)
 ·show (if b = g then _ else σ.blk b) = _
  rw [if_neg (hne b hl)]; exact hn
 ·rw [World.cell?_of_block (w := w) (hb.block b hl)]; exact hv
 ·show (if b = g then _ else σ.blk b) = _
  rw [if_neg (hne b hl)]; exact ht
theorem Zau.new_own (h : Zau w σ Z) (hb : Below w.heap.size w w') {g : Nat} (hg : w.heap.size <= g) (t : TypeId) (cs : List AV) (hgh : w'.heap[g]? = some (.cells (cs.map AV.val).toArray t (0, 0))) (hv : ∀ c ∈ cs, ∃ v, c = .raw v) :
 Zau w' (σ.put g (.own t cs)) Z := by
 have hG := Grow.below h hb hg (.own t cs)
 have hgl : g < w'.heap.size := (Array.getElem?_eq_some_iff.1 hgh).1
 have hs := hb.size
 refine ⟨fun b hu => ?_, fun b hz => ?_, fun b t' cs' hb' => ?_, fun b t' k s hb' => ?_, fun b es hb' => ?_⟩
 ·rcases hu with hu | hu
  ·have := h.used _ hu; omega
  ·subst hu; exact hgl
 ·obtain ⟨h1, h2⟩ := h.z _ hz
  refine ⟨by omega, ?_⟩
  show (if b = g then _ else σ.blk b) = _
  rw [if_neg (by omega)]; exact h2
 ·change (if b = g then some (Bk.own t cs) else σ.blk b) = _ at hb'
  split at hb'
  ·rename_i e
   injection hb' with hb'
   injection hb' with e1 e2
   subst e1 e2 e
   refine ⟨.inr rfl, hgh, fun c hc => ?_⟩
   obtain ⟨v, rfl⟩ := hv c hc
   unfold Zap; trivial
  ·obtain ⟨h1, h2, h3⟩ := h.own _ _ _ hb'
   exact ⟨.inl h1, (hb.block _ (h.used _ h1)).trans h2, fun c hc => hG.valid (h3 c hc)⟩
 ·change (if b = g then some (Bk.own t cs) else σ.blk b) = _ at hb'
  split at hb'
  ·injection hb' with hb'; cases hb'
  ·obtain ⟨h1, cs', h2, h3⟩ := h.tail _ _ _ _ hb'
   exact ⟨.inl h1, cs', (hb.block _ (h.used _ h1)).trans h2, h3⟩
 ·change (if b = g then some (Bk.own t cs) else σ.blk b) = _ at hb'
  split at hb'
  ·injection hb' with hb'; cases hb'
  ·obtain ⟨h1, a', c', h2, h3⟩ := h.map _ _ hb'
   exact ⟨.inl h1, a', c', (hb.block _ (h.used _ h1)).trans h2, h3⟩
theorem Grow.below_same (h : Zau w σ Z) (hb : Below w.heap.size w w') : Grow w σ w' σ :=
 ⟨hb.os, hb.tape, hb.output, hb.size, fun b hl hu => hu, fun b hl hn => ⟨hb.block b hl, hn⟩, fun b t k' s hl ht => ⟨fun j v _ hv => by rw [World.cell?_of_block (w := w) (hb.block b hl)]; exact hv, .inr ⟨t, k', s, ht, Nat.le_refl _⟩⟩, fun b hu => hu⟩
theorem Zau.below_same (h : Zau w σ Z) (hb : Below w.heap.size w w') : Zau w' σ Z := by
 have hG := Grow.below_same h hb
 have hs := hb.size
 refine ⟨fun b hu => by have := h.used _ hu; omega, fun b hz => ?_, fun b t' cs' hb' => ?_, fun b t' k s hb' => ?_, fun b es hb' => ?_⟩
 ·obtain ⟨h1, h2⟩ := h.z _ hz
  exact ⟨by omega, h2⟩
 ·obtain ⟨h1, h2, h3⟩ := h.own _ _ _ hb'
  exact ⟨h1, (hb.block _ (h.used _ h1)).trans h2, fun c hc => hG.valid (h3 c hc)⟩
 ·obtain ⟨h1, cs', h2, h3⟩ := h.tail _ _ _ _ hb'
  exact ⟨h1, cs', (hb.block _ (h.used _ h1)).trans h2, h3⟩
 ·obtain ⟨h1, a', c', h2, h3⟩ := h.map _ _ hb'
  exact ⟨h1, a', c', (hb.block _ (h.used _ h1)).trans h2, h3⟩
theorem Zau.fresh_of (h : Zau w σ Z) {g : Nat} (hg : w.heap.size <= g) : ¬ σ.used g /\ σ.blk g = none := by
 have hu : ¬ σ.used g := fun hu => by have := h.used _ hu; omega
 refine ⟨hu, ?_⟩
 cases hx : σ.blk g with
 | none => rfl
 | some x => cases x with
  | own t cs => exact absurd (h.own _ _ _ hx).1 hu
  | tail t k s => exact absurd (h.tail _ _ _ _ hx).1 hu
  | map es => exact absurd (h.map _ _ hx).1 hu
end
end Go.Proofs.Ytinpiaibhjmfaaa
namespace Go.Proofs.Ytinpiaibhjmfaaa
open Go.RowKit Go.Maps Go.Sort
set_option maxRecDepth 100000
set_option linter.unusedVariables false
set_option linter.unusedSimpArgs false
theorem Zl6 {H : Type} (W : World) (Bm b nn : Nat) (D0 : DataW H) (R : Value -> Option (DataW H × List MemPlace)) (hB : Bm < W.heap.size) (hc : W.cell? ⟨Bm, 0, none⟩ = some (.map (some b))) (hown : W.ownsMap Try.prog 9 R b nn D0) (hmax : Maps.size D0 <= maxLen) (hbytes : Maps.size D0 * 16 <= 140737488355328) :
 CallsIn Fence.wide 5 Try.prog 59 #[.func (.func 77) #[] #[.pointer (some ⟨Bm, 0, none⟩)]] W fun e w' => ∃ (v : Value) (ss : List (List UInt8)), e = .returned v /\ ss.Perm (strKeys D0) /\
  w'.ownsRow W.heap.size 9 1 v ss.length ((ss.mergeSort (fun x y => decide (x <= y))).map encStr) /\ (v = .slice none 0 0 ↔ ss = []) /\ Below W.heap.size W w' := by
 have hseq : SeqGives Fence.wide 2 Try.prog 77 #[.pointer (some ⟨Bm, 0, none⟩)] encStr (fun ss => ss.Perm (strKeys D0)) (Maps.size D0) W :=
  AnyZ.keys_gives (ρ := Try.keys60_ren) { Try.keys60 with } Fence.wide _ trivial rfl (by omega) Bm b nn D0 _ hB hc hown
 exact AnyZ.sorted_in Try.sorted59 Fence.wide 5 trivial trivial trivial trivial rfl (by omega) (Try.sorts59 _) (enters_of Try.func76 (by kernel_rfl) rfl) 77 #[.pointer (some ⟨Bm, 0, none⟩)] trivial (enters_of Try.func77 (by kernel_rfl) rfl) _ _ hmax hbytes _ hseq
def srt (l : List (List UInt8)) : List (List UInt8) := l.mergeSort leB
theorem Zj9 (l : List (List UInt8)) : (srt l).Perm l := List.mergeSort_perm l leB
abbrev R0 : Value -> Option (DataW Unit × List MemPlace) := fun _ => some (.nil, [])
theorem ZpH {s : List UInt8} (h : s.length <= maxLen) : keyOf Try.prog 9 (sV s) = some (.string s) := by
 unfold keyOf mapKey
 rw [ZcW]
 dsimp only
 rw [if_pos (by simpa [ByteArray.size] using h)]
section
variable {σ : St} {bb mb : Nat} {S : Nat -> Prop} {fs : List Fl} {pcs : List (Nat × Nat)} {size : Int} {pv : AV} {K : AV -> St -> Prop}
theorem Zl7 (h : DAt σ bb S fs pcs size mb pv) (hnl : ∀ f ∈ fs, f.nm.length <= 1000000000) (hfl : fs.length <= 1000000000) {nb : Nat} (hnb : σ.blk nb = some (.own 63 [Zc2 mb])) (hnu : σ.used nb)
 (hK : ∀ v τ, Hd τ 9 1 v (srt (fs.map (·.nm))).length (ZeZ (srt (fs.map (·.nm)))) -> Ext σ τ -> (∀ c, hbk v = some c -> Za0 σ c) -> K v τ) : Zat Try.prog 59 [fnV 77 #[.pointer (some ⟨nb, 0, none⟩)]] σ K := by
 intro w Z hH hV
 refine .inl ⟨by kernel_rfl, ?_⟩
 obtain ⟨_, arr, c, hh, hM⟩ := hH.mapAt h.map (Zds _)
 have hkeys := Zj7 h hM
 have hcell : w.cell? ⟨nb, 0, none⟩ = some (.map (some mb)) := Zf3 hH hnb (j := 0) (d := Zc2 mb) rfl
 have hrd : ∀ x ∈ arr.toList, ∃ f ∈ fs, x.key = sV f.nm /\ WideElems.rd Try.prog 9 R0 x = some (.string f.nm, .nil) := fun x hx => by
  obtain ⟨f, hf, hk, _⟩ := Zj8 hM hx
  refine ⟨f, hf, hk, ?_⟩
  unfold WideElems.rd
  rw [hk, ZpH (by have := hnl f hf; unfold maxLen; omega)]
  rfl
 have hsz : arr.size = fs.length := by
  have := congrArg List.length hM.1
  simpa [Zea, Zbc] using this
 have hown : w.ownsMap Try.prog 9 R0 mb arr.size (.map ((arr.toList.map (WideElems.rg Try.prog 9 R0)).foldr DataW.insert [])) :=
  ⟨arr, c, hh, ⟨by rw [hsz]; unfold maxLen; omega, ⟨fun x hx => hM.2.1 _ (List.mem_map.2 ⟨x, hx, rfl⟩), hM.2.2, hkeys⟩, fun x hx => by
   obtain ⟨f, _, _, q⟩ := hrd x hx
   exact ⟨_, q⟩⟩, Nat.le_refl _, rfl⟩
 have hsk : (strKeys (.map ((arr.toList.map (WideElems.rg Try.prog 9 R0)).foldr DataW.insert [])) : List (List UInt8)).Perm (fs.map (·.nm)) := by
  have e1 : ((arr.toList.map (WideElems.rg Try.prog 9 R0)).map fun p => strOf p.1) = fs.map (·.nm) := by
   have e2 : (arr.toList.map (·.key)) = (fs.map (·.nm)).map sV := by
    have : arr.toList.map (·.key) = (arr.toList.map fun e : MapEntry => (e.key, e.val)).map (·.1) := by rw [List.map_map]; rfl
    rw [this, hM.1]
    unfold Zea Zbc
    rw [List.map_map, List.map_map, List.map_map]
    rfl
   have hrd2 := hrd
   generalize arr.toList = L at e2 hrd2 ⊢
   generalize fs.map (·.nm) = N at e2 ⊢
   clear hrd hown hkeys hcell hK hV hH hnb hnu hM h hsz hh
   induction L generalizing N with
   | nil => cases N with
    | nil => rfl
    | cons a N => simp at e2
   | cons x L ih => cases N with
    | nil => simp at e2
    | cons a N =>
     simp only [List.map_cons, List.cons.injEq] at e2 ⊢
     obtain ⟨f, _, hk, q⟩ := hrd2 x List.mem_cons_self
     refine ⟨?_, ih (fun y hy => hrd2 y (List.mem_cons_of_mem _ hy)) N e2.2⟩
     unfold WideElems.rg
     rw [q]
     have := e2.1
     rw [hk] at this
     show strOf (Lit.string f.nm) = a
     rw [<- Zj6 this]
     rfl
  rw [<- e1]
  exact (WideShapes.sorted_perm _).map _
 have hms : Maps.size (.map ((arr.toList.map (WideElems.rg Try.prog 9 R0)).foldr DataW.insert []) : DataW Unit) <= 1000000000 := by
  have : (strKeys (.map ((arr.toList.map (WideElems.rg Try.prog 9 R0)).foldr DataW.insert [])) : List (List UInt8)).length = fs.length := by
   rw [hsk.length_eq, List.length_map]
  have e : (strKeys (.map ((arr.toList.map (WideElems.rg Try.prog 9 R0)).foldr DataW.insert [])) : List (List UInt8)).length = Maps.size (.map ((arr.toList.map (WideElems.rg Try.prog 9 R0)).foldr DataW.insert []) : DataW Unit) := by
   unfold strKeys Maps.size
   simp
  omega
 have hcall := callsIn_wide.1 (Zl6 w nb mb arr.size _ R0 (hH.used _ hnu) hcell hown (by unfold maxLen; omega) (by omega))
 refine Calls.mono hcall ?_
 rintro e w' ⟨v, ss, rfl, hp, hrow, hnil, hbel⟩
 have hss : (ss.mergeSort fun x y => decide (x <= y)) = srt (fs.map (·.nm)) := mergeSort_of_perm (hp.trans hsk)
 rw [hss] at hrow
 have hlen : ss.length = (srt (fs.map (·.nm))).length := by rw [(Zj9 _).length_eq, (hp.trans hsk).length_eq]
 rw [hlen] at hrow
 generalize hL : srt (fs.map (·.nm)) = L at hrow hlen hK
 rcases hrow.2 with ⟨rfl, hz⟩ | ⟨g, cap, cur, rfl, hg, hgh, r1, r2, r3, r4⟩
 ·have hL0 : L = [] := List.eq_nil_of_length_eq_zero hz
  subst hL0
  exact ⟨.lst none 0 0 [], σ, rfl, hK _ σ ⟨rfl, by simp [ZeZ], .inl ⟨.inl rfl, rfl⟩⟩ (.refl _) (fun c hc => by cases hc), hH.below_same hbel, ZeT, Grow.below_same hH hbel⟩
 ·obtain ⟨f1, f2⟩ := hH.fresh_of hg
  rw [Nat.mul_one] at r3 r4
  have hcur : (ZeZ L ++ (cur.toList.drop L.length).map AV.raw).map AV.val = cur.toList := by
   conv => rhs; rw [<- List.take_append_drop L.length cur.toList, r4]
   simp [ZeZ, Function.comp_def, encStr]
  have hX : Ext σ (σ.put g (.own 9 (ZeZ L ++ (cur.toList.drop L.length).map AV.raw))) := Ext.put _ f2
  have hcl : (ZeZ L ++ (cur.toList.drop L.length).map AV.raw).length = cap * 1 := by
   have := congrArg List.length hcur
   rw [List.length_map] at this
   rw [this, Array.length_toList, r3, Nat.mul_one]
  refine ⟨hdr g L.length cap, _, rfl, hK _ _ ⟨by rw [Zdb, Nat.mul_one], fun a ha => ?_, ?_⟩ hX fun c hc => ?_, hH.new_own hbel hg 9 _ (by rw [hcur]; exact hgh) ?_, ZaY _, Grow.below hH hbel hg _⟩
  ·obtain ⟨s, _, rfl⟩ := List.mem_map.1 ha; rfl
  ·rcases Nat.eq_zero_or_pos cap with hc0 | hc0
   ·refine .inl ⟨.inr ⟨⟨g, 0, none⟩, ?_⟩, by omega⟩
    have : L.length = 0 := by omega
    unfold hdr
    rw [this, hc0]
   ·refine .inr ⟨g, cap, _, hc0, rfl, Za7 _ _ _, .inr rfl, hcl, ?_, r1, r2⟩
    rw [Nat.mul_one]
    exact List.take_left' (Zdb L)
  ·rw [<- ZdB hc]; exact ⟨f2, f1⟩
  ·intro c hc
   rcases List.mem_append.1 hc with hc | hc
   ·obtain ⟨s, _, rfl⟩ := List.mem_map.1 hc; exact ⟨_, rfl⟩
   ·obtain ⟨s, _, rfl⟩ := List.mem_map.1 hc; exact ⟨_, rfl⟩
theorem ZoC (hK : ∀ nb τ, τ.blk nb = some (.own 63 [Zc2 mb]) -> τ.used nb -> Ext σ τ -> K (fnV 77 #[.pointer (some ⟨nb, 0, none⟩)]) τ) : Zat Try.prog 60 [Zc2 mb] σ K := by
 refine Zam Zas Try.func60 rfl rfl rfl (Nat.le_of_ble_eq_true rfl) ?_
 refine Zbz 0 (v0 := Zc2 mb) rfl ?_
 intro e he
 repeat refine Zac ?_
 first|refine Zaa ?_|refine Zad ?_
 refine Zab ?_
 refine Zdq (cs := [Zc2 mb]) (v := Zc2 mb) he rfl fun nb τ hn hu hb hub hX => ?_
 refine Zab (Zae rfl (by simp only [EV,Nat.reduceEqDiff,↓reduceIte,he];try rfl) ?_)
 refine Zaf ?_
 apply Zbz 1
 ·simp only [EV,Nat.reduceEqDiff,↓reduceIte,he];try rfl
 clear he e
 intro e he
 repeat refine Zac ?_
 first|refine Zaa ?_|refine Zad ?_
 refine Zab ?_
 refine ZdS (vs := [ptr nb 0]) (by simp only [List.map_cons, List.map_nil, EV,Nat.reduceEqDiff,↓reduceIte,he];try rfl) ?_
 refine Zab (Zae rfl (by simp only [EV,Nat.reduceEqDiff,↓reduceIte,he];try rfl) ?_)
 refine Zaf ?_
 refine Zax ?_
 show ∃ r, Zaj _ _ _ _ r /\ _
 exact ⟨_, Zal rfl rfl, hK nb τ hb hub hX⟩
theorem Znj (h : DAt σ bb S fs pcs size mb pv) (hnl : ∀ f ∈ fs, f.nm.length <= 1000000000) (hfl : fs.length <= 1000000000)
 (hK : ∀ v τ, Hd τ 9 1 v (srt (fs.map (·.nm))).length (ZeZ (srt (fs.map (·.nm)))) -> Ext σ τ -> (∀ c, hbk v = some c -> Za0 σ c) -> K v τ) : Zat Try.prog 28 [ptr bb 0] σ K := by
 refine Zam Zas Try.func28 rfl rfl rfl (Nat.le_of_ble_eq_true rfl) ?_
 refine Zbz 0 (v0 := ptr bb 0) rfl ?_
 intro e he
 repeat refine Zac ?_
 first|refine Zaa ?_|refine Zad ?_
 refine Zab (Zae rfl (by simp only [EV,Nat.reduceEqDiff,↓reduceIte,he];try rfl) ?_)
 refine Zaf ?_
 apply Zbz 0
 ·simp only [EV,Nat.reduceEqDiff,↓reduceIte,he];try rfl
 clear he e
 intro e he
 repeat refine Zac ?_
 first|refine Zaa ?_|refine Zad ?_
 refine Zab (Zae rfl he ?_)
 refine Zab ?_
 refine Zao (vs := [ptr bb 0]) (by simp only [List.map_cons, List.map_nil, EV,Nat.reduceEqDiff,↓reduceIte,he];try rfl) ?_
 refine ZdU h ?_
 refine Zab ?_
 with_reducible apply ZbB
 case hx => simp only [EV,Nat.reduceEqDiff,↓reduceIte,he];try rfl
 refine Zaf ?_
 apply ZaK 0 5
 iterate 2 ·simp only [EV,Nat.reduceEqDiff,↓reduceIte,he];try rfl
 clear he e
 intro e he
 refine Zav (t := false) he.2 (fun hf => by cases hf) (fun _ => ?_)
 refine Zaz ?_
 repeat refine Zac ?_
 first|refine Zaa ?_|refine Zad ?_
 refine Zab (Zae rfl he.1 ?_)
 refine Zab ?_
 refine Zak (v := ptr bb 0) rfl rfl ?_
 refine Zab ?_
 refine Zag (b := bb) (o := 0) rfl Zbn rfl ?_
 refine Zab ?_
 refine Zar (b := bb) (o := 0 + 1) (r := Zc2 mb) rfl h.obj ZcH ZcG rfl ?_
 refine Zab ?_
 refine Zao (vs := [Zc2 mb]) (by simp only [List.map_cons, List.map_nil, EV,Nat.reduceEqDiff,↓reduceIte,he];try rfl) ?_
 refine ZoC fun nb τ hb hub hX => ?_
 refine Zab ?_
 refine Zao (vs := [fnV 77 #[.pointer (some ⟨nb, 0, none⟩)]]) (by simp only [List.map_cons, List.map_nil, EV,Nat.reduceEqDiff,↓reduceIte,he];try rfl) ?_
 refine Zl7 (h.ext hX) hnl hfl hb hub fun v τ2 hv hX2 hn => ?_
 refine Zab (Zae rfl (by simp only [EV,Nat.reduceEqDiff,↓reduceIte,he];try rfl) ?_)
 refine Zaf ?_
 refine Zax ?_
 show ∃ r, Zaj _ _ _ _ r /\ _
 exact ⟨_, Zal rfl rfl, hK v τ2 hv (hX.trans hX2) fun c hc => (hn c hc).of hX⟩
end
end Go.Proofs.Ytinpiaibhjmfaaa
namespace Go.Proofs.Ytinpiaibhjmfaaa
open Go.RowKit
set_option maxRecDepth 100000
set_option linter.unusedVariables false
set_option linter.unusedSimpArgs false
def ZkY (b : Nat) : Nat -> List (Nat × Nat) -> Nat
 | _, [] => 0
 | L, p :: ps => (if p.1 = b then min L p.2 else 0) + ZkY b (L - min L p.2) ps
theorem ZiO (b L : Nat) (p : Nat × Nat) (ps : List (Nat × Nat)) : ZkY b L (p :: ps) = (if p.1 = b then min L p.2 else 0) + ZkY b (L - min L p.2) ps := rfl
theorem Zka {g : Nat -> Nat} {b : Nat} : ∀ (ps : List (Nat × Nat)) (L : Nat), (∀ p ∈ ps, g p.1 = g b ↔ p.1 = b) -> ZkY (g b) L (ps.map fun p => (g p.1, p.2)) = ZkY b L ps
 | [], L, _ => rfl
 | p :: ps, L, h => by
  have h1 := h p List.mem_cons_self
  rw [List.map_cons]
  unfold ZkY
  rw [Zka ps _ fun q hq => h q (List.mem_cons_of_mem _ hq)]
  by_cases hb : p.1 = b
  ·rw [if_pos hb, if_pos (h1.2 hb)]
  ·rw [if_neg hb, if_neg fun e => hb (h1.1 e)]
theorem ZgM : ∀ (ps : List (Nat × Nat)) (L : Nat) (l : FD), Zcu L l ps = l.map fun f => (f.1, f.2.1, f.2.2.take (f.2.2.length - ZkY f.2.1 L ps))
 | [], L, l => by
  show l = _
  conv => lhs; rw [<- List.map_id l]
  refine List.map_congr_left fun f _ => ?_
  show f = (f.1, f.2.1, f.2.2.take (f.2.2.length - 0))
  rw [Nat.sub_zero, List.take_length]
 | p :: ps, L, l => by
  unfold Zcu
  rw [ZgM ps]
  unfold ZkW
  rw [List.map_map]
  refine List.map_congr_left fun f _ => ?_
  simp only [Function.comp]
  rw [ZiO]
  by_cases hb : f.2.1 = p.1
  ·rw [if_pos hb, if_pos hb.symm]
   dsimp only
   rw [List.length_take, List.take_take]
   congr 3
   omega
  ·rw [if_neg hb, if_neg fun e => hb e.symm, Nat.zero_add]
theorem ZiP {g : Nat -> Nat} {b : Nat} : ∀ (ps : List (Nat × Nat)), (∀ p ∈ ps, g p.1 = g b ↔ p.1 = b) -> Zcj (g b) (ps.map fun p => (g p.1, p.2)) = Zcj b ps
 | [], _ => rfl
 | p :: ps, h => by
  have h1 := h p List.mem_cons_self
  rw [List.map_cons, Zct, Zct, ZiP ps fun q hq => h q (List.mem_cons_of_mem _ hq)]
  by_cases hb : p.1 = b
  ·rw [if_pos hb, if_pos (h1.2 hb)]
  ·rw [if_neg hb, if_neg fun e => hb (h1.1 e)]
theorem Znk {g : Nat -> Nat} (ps : List (Nat × Nat)) : Zcy (ps.map fun p => (g p.1, p.2)) = Zcy ps := by
 unfold Zcy
 rw [List.map_map]
 rfl
section
variable {σ τ : St} {bb bb2 mb mb2 : Nat} {S S2 : Nat -> Prop} {fs fs2 : List Fl} {pcs pcs2 : List (Nat × Nat)} {size : Int} {pv pv2 : AV} {done : List (Fl × Fl)}
theorem Zfs : ∀ {done : List (Fl × Fl)}, (done.map fun q => q.1.b).Nodup -> ∀ q ∈ done, ZfU (prs done) q.1.b = some q.2.b
 | p :: l, hn, q, hq => by
  rw [List.map_cons, List.nodup_cons] at hn
  show (if q.1.b = p.1.b then some p.2.b else ZfU (prs l) q.1.b) = _
  rcases List.mem_cons.1 hq with rfl | hq
  ·rw [if_pos rfl]
  ·rw [if_neg fun e => hn.1 (List.mem_map.2 ⟨q, hq, e⟩), Zfs hn.2 q hq]
theorem ZgY.ren (h : DAt σ bb S fs pcs size mb pv) (h2 : DAt τ bb2 S2 fs2 pcs2 size mb2 pv2) (c : ZgY fs pcs fs2 pcs2 done) : ∀ f ∈ fs, ∃ f2 ∈ fs2, f2.nm = f.nm /\ f2.d = f.d /\ f2.b = (ZfU (prs done) f.b).getD 0 /\ ∀ p ∈ pcs, (ZfU (prs done) p.1).getD 0 = (ZfU (prs done) f.b).getD 0 ↔ p.1 = f.b := fun f hf => by
 have hnb : (done.map fun q => q.1.b).Nodup := by
  have : (done.map fun q => q.1.b) = (done.map (·.1)).map (·.b) := by rw [List.map_map]; rfl
  rw [this, (c.one.map _).nodup_iff]
  exact h.nd
 have hnb2 : (done.map fun q => q.2.b).Nodup := by
  have : (done.map fun q => q.2.b) = (done.map (·.2)).map (·.b) := by rw [List.map_map]; rfl
  rw [this, <- c.two]
  exact h2.nd
 have hfind : ∀ g ∈ fs, ∃ q ∈ done, q.1 = g := fun g hg => by
  obtain ⟨q, hq, e⟩ := List.mem_map.1 (c.one.mem_iff.2 hg)
  exact ⟨q, hq, e⟩
 obtain ⟨q, hq, rfl⟩ := hfind f hf
 have hg := Zfs hnb q hq
 refine ⟨q.2, by rw [c.two]; exact List.mem_map.2 ⟨q, hq, rfl⟩, (c.same q hq).1, (c.same q hq).2, by rw [hg]; rfl, fun p hp => ?_⟩
 obtain ⟨g, hg1, hg2⟩ := h.inn p hp
 obtain ⟨r, hr, rfl⟩ := hfind g hg1
 rw [<- hg2, hg, Zfs hnb r hr]
 show r.2.b = q.2.b ↔ _
 constructor
 ·intro e
  have : r = q := by
   clear hg hg1 hg2 hfind hp hf
   induction done with
   | nil => cases hq
   | cons a l ih =>
    rw [List.map_cons, List.nodup_cons] at hnb2
    rcases List.mem_cons.1 hr with e1 | e1 <;> rcases List.mem_cons.1 hq with e2 | e2
    ·rw [e1, e2]
    ·exact absurd (List.mem_map.2 ⟨q, e2, by rw [<- e, e1]⟩) hnb2.1
    ·exact absurd (List.mem_map.2 ⟨r, e1, by rw [e, e2]⟩) hnb2.1
    ·have hnd := hnb2.2
     have key : ∀ {l : List (Fl × Fl)}, (l.map fun q => q.2.b).Nodup -> ∀ r ∈ l, ∀ q ∈ l, r.2.b = q.2.b -> r = q := by
      intro l
      induction l with
      | nil => intro _ r hr; cases hr
      | cons a l ih =>
       intro hn r hr q hq e
       rw [List.map_cons, List.nodup_cons] at hn
       rcases List.mem_cons.1 hr with e1 | e1 <;> rcases List.mem_cons.1 hq with e2 | e2
       ·rw [e1, e2]
       ·exact absurd (List.mem_map.2 ⟨q, e2, by rw [<- e, e1]⟩) hn.1
       ·exact absurd (List.mem_map.2 ⟨r, e1, by rw [e, e2]⟩) hn.1
       ·exact ih hn.2 r e1 q e2 e
     exact key hnd r e1 q e2 e
  rw [this]
 ·intro e
  have := h.uniq hg1 hf e
  have hq2 : ZfU (prs done) r.1.b = some r.2.b := Zfs hnb r hr
  rw [this, Zfs hnb q hq] at hq2
  injection hq2 with hq2
  exact hq2.symm
theorem ZgY.wf (h : DAt σ bb S fs pcs size mb pv) (h2 : DAt τ bb2 S2 fs2 pcs2 size mb2 pv2) (c : ZgY fs pcs fs2 pcs2 done) (hw : Wf fs pcs) : Wf fs2 pcs2 /\ Zcy pcs2 = Zcy pcs /\ pcs2.length = pcs.length /\ fs2.length = fs.length /\ (∀ f2 ∈ fs2, ∃ f ∈ fs, f2.nm = f.nm /\ f2.d = f.d) := by
 have hall : ∀ f2 ∈ fs2, ∃ f ∈ fs, f2.nm = f.nm /\ f2.d = f.d := fun f2 hf2 => by
  rw [c.two] at hf2
  obtain ⟨q, hq, rfl⟩ := List.mem_map.1 hf2
  exact ⟨q.1, c.one.mem_iff.1 (List.mem_map.2 ⟨q, hq, rfl⟩), (c.same q hq).1, (c.same q hq).2⟩
 refine ⟨⟨fun p hp => ?_, fun f2 hf2 => ?_⟩, by rw [c.pcs, Znk (g := fun x => (ZfU (prs done) x).getD 0)], by rw [c.pcs, List.length_map], ?_, hall⟩
 ·rw [c.pcs] at hp
  obtain ⟨p', hp', rfl⟩ := List.mem_map.1 hp
  exact hw.pos p' hp'
 ·obtain ⟨f, hf, e1, e2⟩ := hall f2 hf2
  obtain ⟨g2, hg2, q1, q2, q3, q4⟩ := c.ren h h2 f hf
  have : f2 = g2 := h2.uniqN hf2 hg2 (by rw [e1, q1])
  subst this
  rw [q3, e2, c.pcs, ZiP (g := fun x => (ZfU (prs done) x).getD 0) pcs q4]
  exact hw.fit f hf
 ·rw [c.two, List.length_map]
  have := c.one.length_eq
  rwa [List.length_map] at this
theorem ZgY.crash (h : DAt σ bb S fs pcs size mb pv) (h2 : DAt τ bb2 S2 fs2 pcs2 size mb2 pv2) (c : ZgY fs pcs fs2 pcs2 done) {fs3 : List Fl} {L : Nat} (hd : dat fs3 = Zcu L (dat fs2) pcs2.reverse) : ∀ f ∈ fs, ∃ f3 ∈ fs3, f3.nm = f.nm /\ f3.d = f.d.take (f.d.length - ZkY f.b L pcs.reverse) := fun f hf => by
 obtain ⟨f2, hf2, q1, q2, q3, q4⟩ := c.ren h h2 f hf
 rw [ZgM] at hd
 have hm : (f2.nm, f2.b, f2.d.take (f2.d.length - ZkY f2.b L pcs2.reverse)) ∈ dat fs3 := by
  rw [hd]
  exact List.mem_map.2 ⟨_, Zb9 hf2, rfl⟩
 obtain ⟨f3, hf3, e⟩ := Zc0 hm
 injection e with e1 e
 injection e with e2 e3
 refine ⟨f3, hf3, by rw [<- e1, q1], ?_⟩
 rw [<- e3, q2, q3, c.pcs, <- List.map_reverse, Zka (g := fun x => (ZfU (prs done) x).getD 0) pcs.reverse L fun p hp => q4 p (List.mem_reverse.1 hp)]
end
end Go.Proofs.Ytinpiaibhjmfaaa
namespace Go.Proofs.Ytinpiaibhjmfaaa
open Go.RowKit
set_option linter.unusedSimpArgs false
set_option maxRecDepth 100000
set_option linter.unusedVariables false
abbrev ZpI := List (List UInt8 × AV)
def ZoY (es : ZpI) : List (Value × Value) := es.map fun p => (sV p.1, p.2.val)
def Zqa : ZpI -> List UInt8 -> AV -> ZpI
 | [], k, n => [(k, n)]
 | p :: es, k, n => if k = p.1 then (k, n) :: es else p :: Zqa es k n
section
variable {P : Program}
end
section
variable {P : Program} {ops : Array Oper} {env : Env} {σ τ : St} {K : Env -> St -> Prop} {d : Option Nat} {ty ty' t kt et : TypeId} {pos : String} {af : Array Edge} {x y z : Operand} {b n : Nat} {es : ZpI} {k : List UInt8}
end
end Go.Proofs.Ytinpiaibhjmfaaa
namespace Go.Proofs.Ytinpiaibhjmfaaa
open Go.RowKit
set_option maxRecDepth 100000
set_option linter.unusedVariables false
set_option linter.unusedSimpArgs false
theorem Hd.validV {σ : St} {e sz n : Nat} {v : AV} {cells : List AV} (h : Hd σ e sz v n cells) : ∀ w B, Zap w B v := fun w B => by
 rcases h.2.2 with ⟨rfl | ⟨ad, rfl⟩, _⟩ | ⟨b, c, all, _, rfl, _⟩
 ·exact ZeT
 ·exact ZaY _
 ·exact ZaY _
structure Rw where
 nm : List UInt8
 v : AV
 d : List UInt8
def ZkZ (l : List Rw) : ZpI := l.map fun r => (r.nm, r.v)
structure Zl8 (υ : St) (T : Nat -> Prop) (m : Nat) (l : List Rw) : Prop where
 map : υ.blk m = some (.map (ZoY (ZkZ l)))
 used : υ.used m
 row : ∀ r ∈ l, Hd υ 5 1 r.v r.d.length (bys r.d)
 nn : (l.map (·.nm)).Nodup
 own : T m /\ ∀ r ∈ l, ∀ x, hbk r.v = some x -> T x
theorem Zkb {k : List UInt8} {v : AV} : ∀ {l : List Rw}, (∀ r ∈ l, r.nm ≠ k) -> Zqa (ZkZ l) k v = ZkZ l ++ [(k, v)]
 | [], _ => rfl
 | a :: l, h => by
  show (if k = a.nm then (k, v) :: ZkZ l else (a.nm, a.v) :: Zqa (ZkZ l) k v) = _
  rw [if_neg fun e => h a List.mem_cons_self e.symm, Zkb fun r hr => h r (List.mem_cons_of_mem _ hr)]
  rfl
section
variable {σ υ τ : St} {T : Nat -> Prop} {m : Nat} {l : List Rw}
theorem Zl8.but {U : Nat -> Prop} (h : Zl8 υ T m l) (k : But U υ τ) (hU : ∀ c, T c -> ¬ U c) : Zl8 τ T m l :=
 ⟨k.keep _ _ (hU _ h.own.1) h.map, k.used _ h.used, fun r hr => (h.row r hr).but k fun b hb => hU _ (h.own.2 r hr b hb), h.nn, h.own⟩
theorem Zl8.ext (h : Zl8 υ T m l) (k : Ext υ τ) : Zl8 τ T m l := h.but (U := fun _ => False) k.but fun _ _ => id
theorem Zl8.valid (h : Zl8 υ T m l) : ∀ p ∈ ZkZ l, ∀ w B, Zap w B p.2 := fun p hp => by
 obtain ⟨r, hr, rfl⟩ := List.mem_map.1 hp
 exact (h.row r hr).validV
theorem Zl8.push {k d : List UInt8} {v : AV} (h : Zl8 υ T m l) (hv : Hd υ 5 1 v d.length (bys d)) (hne : ∀ r ∈ l, r.nm ≠ k) (hb : τ.blk m = some (.map (ZoY (Zqa (ZkZ l) k v)))) (k4 : But (fun c => c = m) υ τ) : Zl8 τ (fun c => T c \/ hbk v = some c) m (l ++ [⟨k, v, d⟩]) := by
 have hH : ∀ {u : AV} {n : Nat} {cs : List AV}, Hd υ 5 1 u n cs -> Hd τ 5 1 u n cs := fun {u n cs} hu => hu.but k4 fun c hc hq => by
  obtain ⟨all, hall⟩ := hu.blk hc
  exact Zcq hall h.map hq
 refine ⟨?_, k4.used _ h.used, fun r hr => ?_, ?_, .inl h.own.1, fun r hr x hx => ?_⟩
 ·rw [hb, Zkb hne]
  unfold ZkZ
  rw [List.map_append]
  rfl
 ·rcases List.mem_append.1 hr with hr | hr
  ·exact hH (h.row r hr)
  ·rw [List.mem_singleton.1 hr]
   exact hH hv
 ·rw [List.map_append, List.nodup_append]
  refine ⟨h.nn, by simp, fun a ha b hb e => ?_⟩
  obtain ⟨r, hr, rfl⟩ := List.mem_map.1 ha
  simp at hb
  exact hne r hr (e.trans hb)
 ·rcases List.mem_append.1 hr with hr | hr
  ·exact .inl (h.own.2 r hr x hx)
  ·rw [List.mem_singleton.1 hr] at hx
   exact .inr hx
end
section
variable {σ : St} {bb mb : Nat} {S : Nat -> Prop} {fs : List Fl} {pcs : List (Nat × Nat)} {size : Int} {pv : AV} {K : AV -> St -> Prop} {M B : Nat}
theorem Zl9 {l m : List Fl} (h : l.Perm m) : sumD l = sumD m := by
 unfold sumD
 exact (h.map _).sum_nat
end
end Go.Proofs.Ytinpiaibhjmfaaa
namespace Go.Proofs.Ytinpiaibhjmfaaa
open Go.RowKit
set_option maxRecDepth 100000
set_option linter.unusedVariables false
set_option linter.unusedSimpArgs false
theorem ZaC : ZbL Try.prog 28 = some (.agg #[.int .i64 0, .string ⟨#[]⟩, .slice none 0 0, .int .i64 0, .slice none 0 0]) := by kernel_rfl
theorem Zbv : Zc5 Try.prog 28 = some [(0, 1), (1, 1), (2, 1), (3, 1), (4, 1)] := by kernel_rfl
theorem Zbw : ZaO Try.prog 28 = some 5 := by kernel_rfl
theorem ZqG : Program.underlying Try.prog 4 = some .bool := by kernel_rfl
theorem ZhQ {N : Nat} {ρ : Nat -> AV} : ∀ {l : List (List UInt8)} {cs : List AV}, SVs CT N ρ (l.flatMap (CT.enc 3)) cs -> ∀ (i : Nat) (h : i < l.length), ∃ v, cs[i]? = some v /\ SV CT N ρ (.sl 1 l[i] none) v
 | f :: l, cs, hs, i, hi => by
  rw [List.flatMap_cons] at hs
  have hs : SVs CT N ρ (XV.sl 1 f none :: l.flatMap (CT.enc 3)) cs := hs
  obtain ⟨a0, as_, rfl, h0, h1⟩ := hs.to
  cases i with
  | zero => exact ⟨a0, rfl, h0⟩
  | succ i =>
   obtain ⟨v, q1, q2⟩ := ZhQ (l := l) h1 i (by simpa using hi)
   exact ⟨v, q1, q2⟩
structure At (x0 : List (List UInt8)) (bb mb : Nat) (i : Nat) (υ : St) (S : Nat -> Prop) (fs : List Fl) (pcs : List (Nat × Nat)) (pv av : AV) (safe : Nat) : Prop where
 disk : DAt υ bb S fs pcs 0 mb pv
 used : ∀ c, S c -> υ.used c
 wf : Wf fs pcs
 few : pcs.length <= i
 all : Hd υ 5 1 av (x0.take i).flatten.length (bys (x0.take i).flatten)
 apart : ∀ c, hbk av = some c -> ¬ S c
 sf : safe <= (x0.take i).flatten.length
 sum : Zcy pcs = (x0.take i).flatten.length - safe
 data : (i = 0 /\ dat fs = [] /\ pcs = []) \/ (0 < i /\ ∃ fb, dat fs = [([102], fb, (x0.take i).flatten)] /\ ∀ p ∈ pcs, p.1 = fb)
theorem At.ext {x0 : List (List UInt8)} {bb mb i : Nat} {υ τ : St} {S : Nat -> Prop} {fs : List Fl} {pcs : List (Nat × Nat)} {pv av : AV} {safe : Nat} (h : At x0 bb mb i υ S fs pcs pv av safe) (k : Ext υ τ) : At x0 bb mb i τ S fs pcs pv av safe :=
 ⟨h.disk.ext k, fun c hc => k.used _ (h.used c hc), h.wf, h.few, h.all.ext k, h.apart, h.sf, h.sum, h.data⟩
theorem At.sumD {x0 : List (List UInt8)} {bb mb i : Nat} {υ : St} {S : Nat -> Prop} {fs : List Fl} {pcs : List (Nat × Nat)} {pv av : AV} {safe : Nat} (h : At x0 bb mb i υ S fs pcs pv av safe) : sumD fs = (x0.take i).flatten.length := by
 rcases h.data with ⟨rfl, hd, _⟩ | ⟨_, fb, hd, _⟩ <;> rw [ZdV, hd] <;> simp
end Go.Proofs.Ytinpiaibhjmfaaa
namespace Go.Proofs.Ytinpiaibhjmfaaa
open Go.RowKit
set_option maxRecDepth 100000
set_option linter.unusedVariables false
set_option linter.unusedSimpArgs false
theorem Za5 : ZbM Try.prog 28 = some [(0, some 1, some false), (1, some 1, some false), (2, some 1, some false), (3, some 1, some false), (4, some 1, some false)] := by kernel_rfl
theorem Zdj : Zek Try.prog 26 = some false := by kernel_rfl
theorem Zc7 : ZaO Try.prog 26 = some 1 := by kernel_rfl
theorem Zd5 : Zek Try.prog 22 = some false := by kernel_rfl
theorem ZdI : ZaO Try.prog 22 = some 1 := by kernel_rfl
theorem ZeN : Zek Try.prog 28 = some true := by kernel_rfl
def Zbo (nm : List UInt8) (ns : List (List UInt8)) : List UInt8 := match ns with
 | [] => nm
 | n :: _ => n
abbrev Zb2 (kd : Int) (nm : List UInt8) (vN : AV) (n : Int) (vP : AV) : List AV := [.raw (.int .i64 kd), .raw (sV nm), vN, .raw (.int .i64 n), vP]
section
variable {σ : St} {bb mb : Nat} {S : Nat -> Prop} {fs : List Fl} {pcs : List (Nat × Nat)} {size : Int} {pv : AV} {K : AV -> St -> Prop} {M B : Nat}
theorem Zkc {kd n : Int} {nm : List UInt8} {vN vP : AV} {ns : List (List UInt8)} (hN : Zc6 σ vN ns) (h1 : vN.one = true /\ vP.one = true) (hK : ∀ τ, Ext σ τ -> K (.raw (sV (Zbo nm ns))) τ) : Zat Try.prog 46 [.agg (Zb2 kd nm vN n vP)] σ K := by
 refine Zam Zas Try.func46 rfl rfl rfl (Nat.le_of_ble_eq_true rfl) ?_
 refine Zbz 0 (v0 := .agg (Zb2 kd nm vN n vP)) rfl ?_
 intro e he
 repeat refine Zac ?_
 first|refine Zaa ?_|refine Zad ?_
 refine Zab ?_
 refine Zdq (cs := Zb2 kd nm vN n vP) (v := .agg (Zb2 kd nm vN n vP)) he (by simp [Zb2, Zbi, AV.one, h1]) fun b υ hn hu hb hub hX => ?_
 refine Zab (Zae rfl (by simp only [EV,Nat.reduceEqDiff,↓reduceIte,he];try rfl) ?_)
 refine Zaf ?_
 apply Zbz 1
 ·simp only [EV,Nat.reduceEqDiff,↓reduceIte,he];try rfl
 clear he e
 intro e he
 repeat refine Zac ?_
 first|refine Zaa ?_|refine Zad ?_
 refine Zab ?_
 refine Zag (b := b) (o := 0) he Za5 rfl ?_
 refine Zab ?_
 refine Zar (b := b) (o := 0 + 2) (r := vN) rfl hb Zdj Zc7 rfl ?_
 obtain ⟨A, c, hv⟩ := hN.val
 refine Zab ?_
 refine Zcz (n := ns.length) (c := c) (A := A) rfl hv rfl ZaE ?_
 refine Zab ?_
 refine Zcn (k := .i64) (a := (ns.length : Int)) (b := 0) rfl rfl ?_
 refine Zaf ?_
 apply ZaK 1 6
 iterate 2 ·simp only [EV,Nat.reduceEqDiff,↓reduceIte,he];try rfl
 clear he e
 intro e he
 refine Zav (t := decide ((ns.length : Int) = 0)) he.2 (fun ht => ?_) (fun ht => ?_)
 ·have ht := of_decide_eq_true ht
  have : ns = [] := List.eq_nil_of_length_eq_zero (by omega)
  subst this
  repeat refine Zac ?_
  first|refine Zaa ?_|refine Zad ?_
  refine Zab ?_
  refine Zag (b := b) (o := 0) he.1 Za5 rfl ?_
  refine Zab ?_
  refine Zar (b := b) (o := 0 + 1) (r := .raw (sV nm)) rfl hb Zb7 ZbJ rfl ?_
  refine Zab (Zae rfl (by simp only [EV,Nat.reduceEqDiff,↓reduceIte,he];try rfl) ?_)
  refine Zaf ?_
  refine Zcw ?_
  show ∃ r, Zaj _ _ _ _ r /\ _
  exact ⟨_, Zal rfl rfl, hK υ hX⟩
 ·have ht := of_decide_eq_false ht
  have h0 : 0 < ns.length := by omega
  refine Zaz ?_
  repeat refine Zac ?_
  first|refine Zaa ?_|refine Zad ?_
  refine Zab ?_
  refine Zag (b := b) (o := 0) he.1 Za5 rfl ?_
  refine Zab ?_
  refine Zar (b := b) (o := 0 + 2) (r := vN) rfl hb Zdj Zc7 rfl ?_
  refine Zhd (v := vN) (i := 0) (hN.but hX.but fun _ _ => id) h0 rfl rfl fun u => ?_
  refine Zab (Zae rfl (by simp only [EV,Nat.reduceEqDiff,↓reduceIte,he];try rfl) ?_)
  refine Zaf ?_
  refine Zax ?_
  have e : Zbo nm ns = ns[0] := by
   cases ns with
   | nil => exact absurd h0 (Nat.lt_irrefl 0)
   | cons a l => rfl
  rw [e] at hK
  show ∃ r, Zaj _ _ _ _ r /\ _
  exact ⟨_, Zal rfl rfl, hK υ hX⟩
inductive ZgZ (size : Int) (nm : List UInt8) (ns : List (List UInt8)) (n : Int) (d : List UInt8) (fs : List Fl) (pcs : List (Nat × Nat)) : Nat -> List Fl -> List (Nat × Nat) -> Nat -> Prop
 | bad {i : Nat} : i < 2 -> ¬ (nm ≠ [] /\ nm.length <= 40) -> ZgZ size nm ns n d fs pcs i fs pcs 2
 | full {i : Nat} : i < 2 -> (nm ≠ [] /\ nm.length <= 40) -> ¬ (size < 1 \/ ((d.length + sumD fs : Nat) : Int) <= size) -> ZgZ size nm ns n d fs pcs i fs pcs 8
 | app {i : Nat} {fs' pcs'} : i < 2 -> (nm ≠ [] /\ nm.length <= 40) -> (size < 1 \/ ((d.length + sumD fs : Nat) : Int) <= size) -> ZoX fs pcs nm d fs' pcs' -> ZgZ size nm ns n d fs pcs i fs' pcs' 0
 | sync : ZgZ size nm ns n d fs pcs 2 fs (ZeC fs ns pcs).1 (ZeC fs ns pcs).2
 | cut6 : (∀ f ∈ fs, f.nm ≠ nm) -> ZgZ size nm ns n d fs pcs 3 fs pcs 6
 | cut2 {f0 : Fl} : f0 ∈ fs -> f0.nm = nm -> (n < 0 \/ (f0.d.length : Int) < n) -> ZgZ size nm ns n d fs pcs 3 fs pcs 2
 | cut {f0 : Fl} {v' : AV} : f0 ∈ fs -> f0.nm = nm -> 0 <= n -> n <= (f0.d.length : Int) -> ZgZ size nm ns n d fs pcs 3 (fs.map (Zci f0.b v' (f0.d.take n.toNat))) ((shr f0.b (f0.d.length - n.toNat) pcs).filter fun p => !decide (p.2 = 0)) 0
 | ren2 : (∃ f ∈ fs, f.nm = nm) -> ¬ (Zbo nm ns ≠ [] /\ (Zbo nm ns).length <= 40) -> ZgZ size nm ns n d fs pcs 4 fs pcs 2
 | ren6 : (∀ f ∈ fs, f.nm ≠ nm) -> ZgZ size nm ns n d fs pcs 4 fs pcs 6
 | rens {f0 : Fl} : f0 ∈ fs -> f0.nm = nm -> nm = Zbo nm ns -> (Zbo nm ns ≠ [] /\ (Zbo nm ns).length <= 40) -> ZgZ size nm ns n d fs pcs 4 fs pcs 0
 | ren {f0 : Fl} : f0 ∈ fs -> f0.nm = nm -> nm ≠ Zbo nm ns -> (Zbo nm ns ≠ [] /\ (Zbo nm ns).length <= 40) -> ZgZ size nm ns n d fs pcs 4 (rnF fs f0 (Zbo nm ns)) (rnP fs pcs (Zbo nm ns)) 0
 | rem : ZgZ size nm ns n d fs pcs 5 (ZgH ns fs pcs).1 (ZgH ns fs pcs).2.1 (ZgH ns fs pcs).2.2
 | crash {fs'} : dat fs' = Zcu ((Zcy pcs : Int) - max n 0).toNat (dat fs) pcs.reverse -> ZgZ size nm ns n d fs pcs 6 fs' [] 0
 | none {i : Nat} : 7 <= i -> ZgZ size nm ns n d fs pcs i fs pcs 0
theorem ZpJ {kd n : Int} {nm d : List UInt8} {vN vP : AV} {ns : List (List UInt8)} (I : Inv σ bb mb size S fs pcs pv M B) (hB : B + d.length <= 100000000) (hM : M <= 10000000) (hn : -9223372036854775808 <= n /\ n <= 9223372036854775807)
 (hN : Zc6 σ vN ns) (hNS : ∀ c, hbk vN = some c -> ¬ S c) (hnl : ns.length <= 1000000000) (h1 : vN.one = true /\ vP.one = true) (h1b : Zbi vN = true /\ Zbi vP = true)
 (hcat : ∀ τ0, Ext σ τ0 -> ∀ K' : AV -> St -> Prop, (∀ v τ, Hd τ 5 1 v d.length (bys d) -> Ext τ0 τ -> (∀ b, hbk v = some b -> Za0 τ0 b) -> K' v τ) -> Zat Try.prog 36 [vP] τ0 K')
 (hK : ∀ τ S' fs' pcs' pv' a, Inv τ bb mb size S' fs' pcs' pv' (M + 1) (B + d.length) -> But S σ τ -> (∀ c, S c -> S' c) -> (∀ c, S' c -> S c \/ Za0 σ c) -> ZgZ size nm ns n d fs pcs (Zd4 kd 8) fs' pcs' a -> K (vI a) τ) : Zat Try.prog 22 [ptr bb 0, .agg (Zb2 kd nm vN n vP)] σ K := by
 refine Zam Zas Try.func22 rfl rfl rfl (Nat.le_of_ble_eq_true rfl) ?_
 refine ZaK 0 1 (v0 := ptr bb 0) (v1 := .agg (Zb2 kd nm vN n vP)) rfl rfl ?_
 intro e he
 repeat refine Zac ?_
 first|refine Zaa ?_|refine Zad ?_
 refine Zab ?_
 refine Zdq (cs := Zb2 kd nm vN n vP) (v := .agg (Zb2 kd nm vN n vP)) he.2 (by simp [Zb2, Zbi, AV.one, h1]) fun b3 σ1 hn3 hu3 hb3 hub3 hX1 => ?_
 refine Zab (Zae rfl (by simp only [EV,Nat.reduceEqDiff,↓reduceIte,he];try rfl) ?_)
 refine Zaf ?_
 apply ZaK 0 3
 iterate 2 ·simp only [EV,Nat.reduceEqDiff,↓reduceIte,he];try rfl
 clear he e
 intro e he
 repeat refine Zac ?_
 first|refine Zaa ?_|refine Zad ?_
 refine Zab ?_
 refine Zag (b := b3) (o := 0) he.2 Za5 rfl ?_
 refine Zab ?_
 refine Zar (b := b3) (o := 0 + 0) (r := .raw (.int .i64 kd)) rfl hb3 Zck Zcc rfl ?_
 refine Zab ?_
 refine Zao (vs := [.raw (.int .i64 kd), .raw (.int .i64 8)]) (by simp only [List.map_cons, List.map_nil, EV,Nat.reduceEqDiff,↓reduceIte,he];try rfl) ?_
 refine Zjq kd (by decide) (by decide) _ fun σ2 hX2 => ?_
 refine Zaf ?_
 apply ZaL 0 3 7
 iterate 3 ·simp only [EV,Nat.reduceEqDiff,↓reduceIte,he];try rfl
 clear he e
 intro e he
 have hE := hX1.trans hX2
 have I2 := I.ext hE
 have hb := hX2.keep _ _ hb3
 have hN2 : Zc6 σ2 vN ns := hN.but hE.but fun _ _ => id
 have hp8 : Zd4 kd 8 < 8 := by
  have := Zf5 kd (n := 8) (by decide)
  omega
 have hin : ∀ τ S' fs' pcs' pv' a, Inv τ bb mb size S' fs' pcs' pv' (M + 1) (B + d.length) -> But S σ2 τ -> (∀ c, S c -> S' c) -> (∀ c, S' c -> S c \/ Za0 σ2 c) -> ZgZ size nm ns n d fs pcs (Zd4 kd 8) fs' pcs' a -> K (vI a) τ := fun τ S' fs' pcs' pv' a q1 q2 q3 q4 q5 => hK τ S' fs' pcs' pv' a q1 (hE.but.trans q2) q3 (fun c hc => (q4 c hc).imp id fun q => q.of hE) q5
 have hsame : ∀ τ a, Ext σ2 τ -> ZgZ size nm ns n d fs pcs (Zd4 kd 8) fs pcs a -> K (vI a) τ := fun τ a hX q => hin τ S fs pcs pv a ((I2.ext hX).more (Nat.le_succ _) (Nat.le_add_right _ _)) hX.but (fun c hc => hc) (fun c hc => .inl hc) q
 have hsub : ∀ τ fs' pcs' pv' a, Inv τ bb mb size S fs' pcs' pv' M B -> But S σ2 τ -> ZgZ size nm ns n d fs pcs (Zd4 kd 8) fs' pcs' a -> K (vI a) τ := fun τ fs' pcs' pv' a q1 q2 q3 => hin τ S fs' pcs' pv' a (q1.more (Nat.le_succ _) (Nat.le_add_right _ _)) q2 (fun c hc => hc) (fun c hc => .inl hc) q3
 have hfl := I2.file (by omega)
 have hfew := I2.few
 have hsum := I2.sum
 clear hX1 hX2 hb3 hub3 hn3 hu3
 generalize hi : Zd4 kd 8 = i at he hp8 hin hsame hsub
 have hlast : ∀ (e : Env) τ fs' pcs' pv', Inv τ bb mb size S fs' pcs' pv' M B -> But S σ2 τ -> ZgZ size nm ns n d fs pcs i fs' pcs' 0 -> K (vI 0) τ := fun e τ fs' pcs' pv' q1 q2 q3 => hsub τ fs' pcs' pv' 0 q1 q2 q3
 refine ZaD ?_
 ·skip
  repeat refine Zac ?_
  first|refine Zaa ?_|refine Zad ?_
  refine Zab ?_
  refine Zcn (k := .i64) (a := (i : Int)) (b := 0) he.2.2 rfl ?_
  refine Zab (Zae rfl (by simp only [EV,Nat.reduceEqDiff,↓reduceIte,he];try rfl) ?_)
  refine Zaf ?_
  apply ZaP 0 3 7 8
  iterate 4 ·simp only [EV,Nat.reduceEqDiff,↓reduceIte,he];try rfl
  clear he e
  intro e he
  refine ZaZ (fun env υ => (env 0 = ptr bb 0 /\ env 3 = ptr b3 0 /\ env 7 = vI i /\ env 8 = vT (decide (i < 2))) /\ υ = σ2) ?_ ?_
  ·refine ZaS (t := decide ((i : Int) = 0)) he.2.2.2 (fun ht => ?_) (fun ht => ?_)
   ·have ht := of_decide_eq_true ht
    refine Zbq ?_
    refine ⟨rfl, ⟨by simp only [EV,Nat.reduceEqDiff,↓reduceIte,he];try rfl, by simp only [EV,Nat.reduceEqDiff,↓reduceIte,he];try rfl, by simp only [EV,Nat.reduceEqDiff,↓reduceIte,he];try rfl, ?_⟩, rfl⟩
    rw [decide_eq_true (by omega : i < 2)]
    have h8 := he.2.2.2
    rw [decide_eq_true ht] at h8
    exact h8
   ·have ht := of_decide_eq_false ht
    repeat refine Zac ?_
    first|refine Zaa ?_|refine Zad ?_
    refine Zab ?_
    refine Zcn (k := .i64) (a := (i : Int)) (b := 1) he.2.2.1 rfl ?_
    refine Zab (Zae rfl (by simp only [EV,Nat.reduceEqDiff,↓reduceIte,he];try rfl) ?_)
    refine Zaf ?_
    refine ⟨rfl, ⟨by simp only [EV,Nat.reduceEqDiff,↓reduceIte,he];try rfl, by simp only [EV,Nat.reduceEqDiff,↓reduceIte,he];try rfl, by simp only [EV,Nat.reduceEqDiff,↓reduceIte,he];try rfl, ?_⟩, rfl⟩
    rw [show decide (i < 2) = decide ((i : Int) = 1) by congr 1; exact propext (by omega)]
    simp only [EV,Nat.reduceEqDiff,↓reduceIte,he];try rfl
  clear he e
  rintro e _ ⟨he, rfl⟩
  refine ZaS (t := decide (i < 2)) he.2.2.2 (fun h2 => ?_) (fun h2 => ?_)
  ·have h2 := of_decide_eq_true h2
   repeat refine Zac ?_
   first|refine Zaa ?_|refine Zad ?_
   refine Zab (Zae rfl he.1 ?_)
   refine Zab ?_
   refine Zag (b := b3) (o := 0) he.2.1 Za5 rfl ?_
   refine Zab ?_
   refine Zar (b := b3) (o := 0 + 1) (r := .raw (sV nm)) rfl hb Zb7 ZbJ rfl ?_
   refine Zab ?_
   refine Zag (b := b3) (o := 0) he.2.1 Za5 rfl ?_
   refine Zab ?_
   refine Zar (b := b3) (o := 0 + 4) (r := vP) rfl hb Zd5 ZdI rfl ?_
   refine Zab ?_
   refine Zao (vs := [ptr bb 0, .raw (sV nm), vP]) (by simp only [List.map_cons, List.map_nil, EV,Nat.reduceEqDiff,↓reduceIte,he];try rfl) ?_
   have hcat2 := fun τ0 (hX : Ext _ τ0) => hcat τ0 (hE.trans hX)
   refine ZeL I2.disk I2.used (d := d) hcat2 (by omega) (by omega) (fun q τ hX => ?_) (fun q1 q τ hX => ?_) fun q1 q2 τ S' fs' pcs' pv' d1 d2 d3 d4 d5 d6 => ?_
   ·refine Zab (Zae rfl (by simp only [EV,Nat.reduceEqDiff,↓reduceIte,he];try rfl) ?_)
    refine Zaf ?_
    refine Zax ?_
    show ∃ r, Zaj _ _ _ _ r /\ _
    exact ⟨_, Zal rfl rfl, hsame τ 2 hX (.bad h2 q)⟩
   ·refine Zab (Zae rfl (by simp only [EV,Nat.reduceEqDiff,↓reduceIte,he];try rfl) ?_)
    refine Zaf ?_
    refine Zax ?_
    show ∃ r, Zaj _ _ _ _ r /\ _
    exact ⟨_, Zal rfl rfl, hsame τ 8 hX (.full h2 q1 q)⟩
   ·refine Zab (Zae rfl (by simp only [EV,Nat.reduceEqDiff,↓reduceIte,he];try rfl) ?_)
    refine Zaf ?_
    refine Zax ?_
    show ∃ r, Zaj _ _ _ _ r /\ _
    exact ⟨_, Zal rfl rfl, hin τ S' fs' pcs' pv' 0 (I2.app d1 d5 d6 q1.2 q2) d2 d3 d4 (.app h2 q1 q2 d6)⟩
  have h2 := of_decide_eq_false h2
  repeat refine Zac ?_
  first|refine Zaa ?_|refine Zad ?_
  refine Zab ?_
  refine Zcn (k := .i64) (a := (i : Int)) (b := 2) he.2.2.1 rfl ?_
  refine Zab (Zae rfl (by simp only [EV,Nat.reduceEqDiff,↓reduceIte,he];try rfl) ?_)
  refine Zaf ?_
  apply ZaP 0 3 7 17
  iterate 4 ·simp only [EV,Nat.reduceEqDiff,↓reduceIte,he];try rfl
  clear he e
  intro e he
  refine ZaS (t := decide ((i : Int) = 2)) he.2.2.2 (fun h3 => ?_) (fun h3 => ?_)
  ·have h3 := of_decide_eq_true h3
   obtain rfl : i = 2 := by omega
   repeat refine Zac ?_
   first|refine Zaa ?_|refine Zad ?_
   refine Zab (Zae rfl he.1 ?_)
   refine Zab ?_
   refine Zag (b := b3) (o := 0) he.2.1 Za5 rfl ?_
   refine Zab ?_
   refine Zar (b := b3) (o := 0 + 2) (r := vN) rfl hb Zdj Zc7 rfl ?_
   refine Zab ?_
   refine Zao (vs := [ptr bb 0, vN]) (by simp only [List.map_cons, List.map_nil, EV,Nat.reduceEqDiff,↓reduceIte,he];try rfl) ?_
   refine Zos I2.disk I2.used (by omega) hN2 hNS hnl fun τ pv' d1 d2 => ?_
   refine Zab (Zae rfl (by simp only [EV,Nat.reduceEqDiff,↓reduceIte,he];try rfl) ?_)
   refine Zaf ?_
   refine Zax ?_
   show ∃ r, Zaj _ _ _ _ r /\ _
   exact ⟨_, Zal rfl rfl, hsub τ fs _ pv' _ (I2.sub d1 d2 (List.Sublist.refl _) (ZiN fs ns pcs)) d2 .sync⟩
  have h3 := of_decide_eq_false h3
  repeat refine Zac ?_
  first|refine Zaa ?_|refine Zad ?_
  refine Zab ?_
  refine Zcn (k := .i64) (a := (i : Int)) (b := 3) he.2.2.1 rfl ?_
  refine Zab (Zae rfl (by simp only [EV,Nat.reduceEqDiff,↓reduceIte,he];try rfl) ?_)
  refine Zaf ?_
  apply ZaP 0 3 7 23
  iterate 4 ·simp only [EV,Nat.reduceEqDiff,↓reduceIte,he];try rfl
  clear he e
  intro e he
  refine ZaS (t := decide ((i : Int) = 3)) he.2.2.2 (fun h4 => ?_) (fun h4 => ?_)
  ·have h4 := of_decide_eq_true h4
   obtain rfl : i = 3 := by omega
   repeat refine Zac ?_
   first|refine Zaa ?_|refine Zad ?_
   refine Zab (Zae rfl he.1 ?_)
   refine Zab ?_
   refine Zag (b := b3) (o := 0) he.2.1 Za5 rfl ?_
   refine Zab ?_
   refine Zar (b := b3) (o := 0 + 1) (r := .raw (sV nm)) rfl hb Zb7 ZbJ rfl ?_
   refine Zab ?_
   refine Zag (b := b3) (o := 0) he.2.1 Za5 rfl ?_
   refine Zab ?_
   refine Zar (b := b3) (o := 0 + 3) (r := .raw (.int .i64 n)) rfl hb Zck Zcc rfl ?_
   refine Zab ?_
   refine Zao (vs := [ptr bb 0, .raw (sV nm), .raw (.int .i64 n)]) (by simp only [List.map_cons, List.map_nil, EV,Nat.reduceEqDiff,↓reduceIte,he];try rfl) ?_
   refine ZpF I2.disk I2.used (by omega) (I2.pc (by omega)) hfl (fun q τ hX => ?_) (fun f0 q1 q2 q3 τ hX => ?_) fun f0 q1 q2 q3 q4 τ v' pv' d1 d2 => ?_
   ·refine Zab (Zae rfl (by simp only [EV,Nat.reduceEqDiff,↓reduceIte,he];try rfl) ?_)
    refine Zaf ?_
    refine Zax ?_
    show ∃ r, Zaj _ _ _ _ r /\ _
    exact ⟨_, Zal rfl rfl, hsame τ 6 hX (.cut6 q)⟩
   ·refine Zab (Zae rfl (by simp only [EV,Nat.reduceEqDiff,↓reduceIte,he];try rfl) ?_)
    refine Zaf ?_
    refine Zax ?_
    show ∃ r, Zaj _ _ _ _ r /\ _
    exact ⟨_, Zal rfl rfl, hsame τ 2 hX (.cut2 q1 q2 q3)⟩
   ·refine Zab (Zae rfl (by simp only [EV,Nat.reduceEqDiff,↓reduceIte,he];try rfl) ?_)
    refine Zaf ?_
    refine Zax ?_
    show ∃ r, Zaj _ _ _ _ r /\ _
    exact ⟨_, Zal rfl rfl, hsub τ _ _ pv' 0 (I2.cutI q1 (by omega) d1 d2) d2 (.cut q1 q2 q3 q4)⟩
  have h4 := of_decide_eq_false h4
  repeat refine Zac ?_
  first|refine Zaa ?_|refine Zad ?_
  refine Zab ?_
  refine Zcn (k := .i64) (a := (i : Int)) (b := 4) he.2.2.1 rfl ?_
  refine Zab (Zae rfl (by simp only [EV,Nat.reduceEqDiff,↓reduceIte,he];try rfl) ?_)
  refine Zaf ?_
  apply ZaP 0 3 7 31
  iterate 4 ·simp only [EV,Nat.reduceEqDiff,↓reduceIte,he];try rfl
  clear he e
  intro e he
  refine ZaS (t := decide ((i : Int) = 4)) he.2.2.2 (fun h5 => ?_) (fun h5 => ?_)
  ·have h5 := of_decide_eq_true h5
   obtain rfl : i = 4 := by omega
   refine Zb5 ?_
   refine ⟨[0, 1, 2, 3, 4, 5, 6], [[], [], [1], [], [3], [0, 1, 2, 3, 4], [0, 1, 2, 3, 4, 5]], fun _ => True, [2], [4], [], by kernel_rfl, ?_⟩
   apply Zai
   case hi => simp only [HIX]; try rfl
   case hw => rfl
   case how => rfl
   refine Zae rfl he.1 ?_
   refine Zaq ?_
   apply Zai
   case hi => simp only [HIX]; try rfl
   case hw => rfl
   case how => rfl
   refine Zag (b := b3) (o := 0) he.2.1 Za5 rfl ?_
   refine Zaq ?_
   apply Zai
   case hi => simp only [HIX]; try rfl
   case hw => rfl
   case how => rfl
   refine Zar (b := b3) (o := 0 + 1) (r := .raw (sV nm)) rfl hb Zb7 ZbJ rfl ?_
   refine Zaq ?_
   apply Zai
   case hi => simp only [HIX]; try rfl
   case hw => rfl
   case how => rfl
   refine Zar (b := b3) (o := 0) (r := .agg (Zb2 kd nm vN n vP)) he.2.1 hb ZeN Zbw rfl ?_
   refine Zaq ?_
   apply Zai
   case hi => simp only [HIX]; try rfl
   case hw => rfl
   case how => rfl
   refine Zao (vs := [.agg (Zb2 kd nm vN n vP)]) (by simp only [List.map_cons, List.map_nil, EV,Nat.reduceEqDiff,↓reduceIte,he];try rfl) ?_
   refine Zkc hN2 h1 fun τ1 hX1 => ?_
   refine ⟨fun _ => hX1, ?_⟩
   apply Zai
   case hi => simp only [HIX]; try rfl
   case hw => rfl
   case how => rfl
   refine Zao (vs := [ptr bb 0, .raw (sV nm), .raw (sV (Zbo nm ns))]) (by simp only [List.map_cons, List.map_nil, EV,Nat.reduceEqDiff,↓reduceIte,he];try rfl) ?_
   have I3 := I2.ext hX1
   refine ZpG I3.disk I3.used (by omega) (fun q1 q2 τ hX => ?_) (fun q τ hX => ?_) (fun f0 q1 q2 q3 q5 τ hX => ?_) fun f0 q1 q2 q3 q4 τ pv' d1 d2 => ?_
   ·refine ⟨(fun hf => by cases hf), ?_⟩
    apply Zai
    case hi => simp only [HIX]; try rfl
    case hw => rfl
    case how => rfl
    refine Zae rfl rfl ?_
    refine Zaq ?_
    refine Zcg ?_
    refine Zax ?_
    show ∃ r, Zaj _ _ _ _ r /\ _
    exact ⟨_, Zal rfl rfl, hsame τ 2 (hX1.trans hX) (.ren2 q1 q2)⟩
   ·refine ⟨(fun hf => by cases hf), ?_⟩
    apply Zai
    case hi => simp only [HIX]; try rfl
    case hw => rfl
    case how => rfl
    refine Zae rfl rfl ?_
    refine Zaq ?_
    refine Zcg ?_
    refine Zax ?_
    show ∃ r, Zaj _ _ _ _ r /\ _
    exact ⟨_, Zal rfl rfl, hsame τ 6 (hX1.trans hX) (.ren6 q)⟩
   ·refine ⟨(fun hf => by cases hf), ?_⟩
    apply Zai
    case hi => simp only [HIX]; try rfl
    case hw => rfl
    case how => rfl
    refine Zae rfl rfl ?_
    refine Zaq ?_
    refine Zcg ?_
    refine Zax ?_
    show ∃ r, Zaj _ _ _ _ r /\ _
    exact ⟨_, Zal rfl rfl, hsame τ 0 (hX1.trans hX) (.rens q1 q2 q3 q5)⟩
   ·refine ⟨(fun hf => by cases hf), ?_⟩
    apply Zai
    case hi => simp only [HIX]; try rfl
    case hw => rfl
    case how => rfl
    refine Zae rfl rfl ?_
    refine Zaq ?_
    refine Zcg ?_
    refine Zax ?_
    show ∃ r, Zaj _ _ _ _ r /\ _
    exact ⟨_, Zal rfl rfl, hsub τ _ _ pv' 0 (I3.renI q1 q4.2 (by rw [q2]; exact q3) d1 d2) (hX1.but.trans d2) (.ren q1 q2 q3 q4)⟩
  have h5 := of_decide_eq_false h5
  repeat refine Zac ?_
  first|refine Zaa ?_|refine Zad ?_
  refine Zab ?_
  refine Zcn (k := .i64) (a := (i : Int)) (b := 5) he.2.2.1 rfl ?_
  refine Zab (Zae rfl (by simp only [EV,Nat.reduceEqDiff,↓reduceIte,he];try rfl) ?_)
  refine Zaf ?_
  apply ZaP 0 3 7 39
  iterate 4 ·simp only [EV,Nat.reduceEqDiff,↓reduceIte,he];try rfl
  clear he e
  intro e he
  refine ZaS (t := decide ((i : Int) = 5)) he.2.2.2 (fun h6 => ?_) (fun h6 => ?_)
  ·have h6 := of_decide_eq_true h6
   obtain rfl : i = 5 := by omega
   repeat refine Zac ?_
   first|refine Zaa ?_|refine Zad ?_
   refine Zab (Zae rfl he.1 ?_)
   refine Zab ?_
   refine Zag (b := b3) (o := 0) he.2.1 Za5 rfl ?_
   refine Zab ?_
   refine Zar (b := b3) (o := 0 + 2) (r := vN) rfl hb Zdj Zc7 rfl ?_
   refine Zab ?_
   refine Zao (vs := [ptr bb 0, vN]) (by simp only [List.map_cons, List.map_nil, EV,Nat.reduceEqDiff,↓reduceIte,he];try rfl) ?_
   refine ZpE I2.disk (by omega) hN2 hNS hnl fun τ pv' d1 d2 => ?_
   refine Zab (Zae rfl (by simp only [EV,Nat.reduceEqDiff,↓reduceIte,he];try rfl) ?_)
   refine Zaf ?_
   refine Zax ?_
   show ∃ r, Zaj _ _ _ _ r /\ _
   exact ⟨_, Zal rfl rfl, hsub τ _ _ pv' _ (I2.sub d1 d2 (ZhN ns fs pcs).1 (ZhN ns fs pcs).2) d2 .rem⟩
  have h6 := of_decide_eq_false h6
  repeat refine Zac ?_
  first|refine Zaa ?_|refine Zad ?_
  refine Zab ?_
  refine Zcn (k := .i64) (a := (i : Int)) (b := 6) he.2.2.1 rfl ?_
  refine Zab (Zae rfl (by simp only [EV,Nat.reduceEqDiff,↓reduceIte,he];try rfl) ?_)
  refine Zaf ?_
  apply ZaP 0 3 7 45
  iterate 4 ·simp only [EV,Nat.reduceEqDiff,↓reduceIte,he];try rfl
  clear he e
  intro e he
  refine ZaS (t := decide ((i : Int) = 6)) he.2.2.2 (fun h7 => ?_) (fun h7 => ?_)
  ·have h7 := of_decide_eq_true h7
   obtain rfl : i = 6 := by omega
   repeat refine Zac ?_
   first|refine Zaa ?_|refine Zad ?_
   refine Zab (Zae rfl he.1 ?_)
   refine Zab ?_
   refine Zag (b := b3) (o := 0) he.2.1 Za5 rfl ?_
   refine Zab ?_
   refine Zar (b := b3) (o := 0 + 3) (r := .raw (.int .i64 n)) rfl hb Zck Zcc rfl ?_
   refine Zab ?_
   refine Zao (vs := [ptr bb 0, .raw (.int .i64 n)]) (by simp only [List.map_cons, List.map_nil, EV,Nat.reduceEqDiff,↓reduceIte,he];try rfl) ?_
   refine Zj1 I2.disk (by omega) I2.wf (I2.pcs_ (by omega)) hfl hn fun τ fs' d1 d2 d3 => ?_
   refine Zaf ?_
   show Zay _ _ _ _ _ _
   repeat refine Zac ?_
   first|refine Zaa ?_|refine Zad ?_
   refine Zab (Zae rfl (by simp only [EV,Nat.reduceEqDiff,↓reduceIte,he];try rfl) ?_)
   refine Zaf ?_
   refine Zax ?_
   show ∃ r, Zaj _ _ _ _ r /\ _
   exact ⟨_, Zal rfl rfl, hsub τ fs' [] _ 0 (I2.crashI d1 d2 d3) d3 (.crash d2)⟩
  have h7 := of_decide_eq_false h7
  refine Zbq ?_
  show Zay _ _ _ _ _ _
  repeat refine Zac ?_
  first|refine Zaa ?_|refine Zad ?_
  refine Zab (Zae rfl (by simp only [EV,Nat.reduceEqDiff,↓reduceIte,he];try rfl) ?_)
  refine Zaf ?_
  refine Zax ?_
  show ∃ r, Zaj _ _ _ _ r /\ _
  exact ⟨_, Zal rfl rfl, hsame _ 0 (.refl _) (.none (by omega))⟩
end
end Go.Proofs.Ytinpiaibhjmfaaa
