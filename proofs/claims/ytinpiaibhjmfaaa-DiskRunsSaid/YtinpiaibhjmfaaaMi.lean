/- XNw, XDg, XDca, XDe, XDcb, XDz, XDcc in one. -/
import Derived.Test.YtinpiaibhjmfaaaMc
import Derived.Test.YtinpiaibhjmfaaaDc
import Derived.Test.YtinpiaibhjmfaaaSk
import Derived.Test.YtinpiaibhjmfaaaMh
import Derived.Test.YtinpiaibhjmfaaaMe
namespace Go.Proofs.Ytinpiaibhjmfaaa
open Go.RowKit
set_option linter.unusedSimpArgs false
set_option maxRecDepth 100000
set_option linter.unusedVariables false
section
variable {w w' : World} {σ : St} {Z : Nat -> Prop}
theorem Grow.below (h : Zau w σ Z) (hb : Below w.heap.size w w') {g : Nat} (hg : w.heap.size <= g) (k : Bk) : Grow w σ w' (σ.put g k) := by
 have hne : ∀ b, b < w.heap.size -> b ≠ g := fun b hb => by omega
 refine ⟨hb.os, hb.tape, hb.output, hb.size, fun b hl hu => ?_, fun b hl hn => ⟨hb.block b hl, ?_⟩, fun b t k' s hl ht => ⟨fun j v _ hv => ?_, .inr ⟨t, k', s, ?_, Nat.le_refl _⟩⟩, fun b hu => .inl hu⟩
 ·rcases hu with hu | hu
  ·exact hu
  ·exact absurd hu (hne b hl)
 ·show (if b = g then _ else σ.blk b) = _
  rw [if_neg (hne b hl)]; exact hn
 ·rw [World.cell?_of_block (w := w) (hb.block b hl)]; exact hv
 ·show (if b = g then _ else σ.blk b) = _
  rw [if_neg (hne b hl)]; exact ht
theorem Zau.new_own (h : Zau w σ Z) (hb : Below w.heap.size w w') {g : Nat} (hg : w.heap.size <= g) (t : TypeId) (cs : List AV) (hgh : w'.heap[g]? = some (.cells (cs.map AV.val).toArray t (0, 0))) (hv : ∀ c ∈ cs, ∃ v, c = .raw v) :
 Zau w' (σ.put g (.own t cs)) Z := by
 have hG := Grow.below h hb hg (.own t cs)
 have hgl : g < w'.heap.size := (Array.getElem?_eq_some_iff.1 hgh).1
 have hs := hb.size
 refine ⟨fun b hu => ?_, fun b hz => ?_, fun b t' cs' hb' => ?_, fun b t' k s hb' => ?_, fun b es hb' => ?_⟩
 ·rcases hu with hu | hu
  ·have := h.used _ hu; omega
  ·subst hu; exact hgl
 ·obtain ⟨h1, h2⟩ := h.z _ hz
  refine ⟨by omega, ?_⟩
  show (if b = g then _ else σ.blk b) = _
  rw [if_neg (by omega)]; exact h2
 ·change (if b = g then some (Bk.own t cs) else σ.blk b) = _ at hb'
  split at hb'
  ·rename_i e
   injection hb' with hb'
   injection hb' with e1 e2
   subst e1 e2 e
   refine ⟨.inr rfl, hgh, fun c hc => ?_⟩
   obtain ⟨v, rfl⟩ := hv c hc
   unfold Zam; trivial
  ·obtain ⟨h1, h2, h3⟩ := h.own _ _ _ hb'
   exact ⟨.inl h1, (hb.block _ (h.used _ h1)).trans h2, fun c hc => hG.valid (h3 c hc)⟩
 ·change (if b = g then some (Bk.own t cs) else σ.blk b) = _ at hb'
  split at hb'
  ·injection hb' with hb'; cases hb'
  ·obtain ⟨h1, cs', h2, h3⟩ := h.tail _ _ _ _ hb'
   exact ⟨.inl h1, cs', (hb.block _ (h.used _ h1)).trans h2, h3⟩
 ·change (if b = g then some (Bk.own t cs) else σ.blk b) = _ at hb'
  split at hb'
  ·injection hb' with hb'; cases hb'
  ·obtain ⟨h1, a', c', h2, h3⟩ := h.map _ _ hb'
   exact ⟨.inl h1, a', c', (hb.block _ (h.used _ h1)).trans h2, h3⟩
theorem Grow.below_same (h : Zau w σ Z) (hb : Below w.heap.size w w') : Grow w σ w' σ :=
 ⟨hb.os, hb.tape, hb.output, hb.size, fun b hl hu => hu, fun b hl hn => ⟨hb.block b hl, hn⟩, fun b t k' s hl ht => ⟨fun j v _ hv => by rw [World.cell?_of_block (w := w) (hb.block b hl)]; exact hv, .inr ⟨t, k', s, ht, Nat.le_refl _⟩⟩, fun b hu => hu⟩
theorem Zau.below_same (h : Zau w σ Z) (hb : Below w.heap.size w w') : Zau w' σ Z := by
 have hG := Grow.below_same h hb
 have hs := hb.size
 refine ⟨fun b hu => by have := h.used _ hu; omega, fun b hz => ?_, fun b t' cs' hb' => ?_, fun b t' k s hb' => ?_, fun b es hb' => ?_⟩
 ·obtain ⟨h1, h2⟩ := h.z _ hz
  exact ⟨by omega, h2⟩
 ·obtain ⟨h1, h2, h3⟩ := h.own _ _ _ hb'
  exact ⟨h1, (hb.block _ (h.used _ h1)).trans h2, fun c hc => hG.valid (h3 c hc)⟩
 ·obtain ⟨h1, cs', h2, h3⟩ := h.tail _ _ _ _ hb'
  exact ⟨h1, cs', (hb.block _ (h.used _ h1)).trans h2, h3⟩
 ·obtain ⟨h1, a', c', h2, h3⟩ := h.map _ _ hb'
  exact ⟨h1, a', c', (hb.block _ (h.used _ h1)).trans h2, h3⟩
theorem Zau.fresh_of (h : Zau w σ Z) {g : Nat} (hg : w.heap.size <= g) : ¬ σ.used g /\ σ.blk g = none := by
 have hu : ¬ σ.used g := fun hu => by have := h.used _ hu; omega
 refine ⟨hu, ?_⟩
 cases hx : σ.blk g with
 | none => rfl
 | some x => cases x with
  | own t cs => exact absurd (h.own _ _ _ hx).1 hu
  | tail t k s => exact absurd (h.tail _ _ _ _ hx).1 hu
  | map es => exact absurd (h.map _ _ hx).1 hu
end
end Go.Proofs.Ytinpiaibhjmfaaa
namespace Go.Proofs.Ytinpiaibhjmfaaa
open Go.RowKit Go.Maps Go.Sort
set_option maxRecDepth 100000
set_option linter.unusedVariables false
set_option linter.unusedSimpArgs false
theorem ZlL {H : Type} (W : World) (Bm b nn : Nat) (D0 : DataW H) (R : Value -> Option (DataW H × List MemPlace)) (hB : Bm < W.heap.size) (hc : W.cell? ⟨Bm, 0, none⟩ = some (.map (some b))) (hown : W.ownsMap Try.prog 9 R b nn D0) (hmax : Maps.size D0 <= maxLen) (hbytes : Maps.size D0 * 16 <= 140737488355328) :
 CallsIn Fence.wide 5 Try.prog 59 #[.func (.func 77) #[] #[.pointer (some ⟨Bm, 0, none⟩)]] W fun e w' => ∃ (v : Value) (ss : List (List UInt8)), e = .returned v /\ ss.Perm (strKeys D0) /\
  w'.ownsRow W.heap.size 9 1 v ss.length ((ss.mergeSort (fun x y => decide (x <= y))).map encStr) /\ (v = .slice none 0 0 ↔ ss = []) /\ Below W.heap.size W w' := by
 have hseq : SeqGives Fence.wide 2 Try.prog 77 #[.pointer (some ⟨Bm, 0, none⟩)] encStr (fun ss => ss.Perm (strKeys D0)) (Maps.size D0) W :=
  AnyZ.keys_gives (ρ := Try.keys60_ren) { Try.keys60 with } Fence.wide _ trivial rfl (by omega) Bm b nn D0 _ hB hc hown
 exact AnyZ.sorted_in Try.sorted59 Fence.wide 5 trivial trivial trivial trivial rfl (by omega) (Try.sorts59 _) (enters_of Try.func76 (by kernel_rfl) rfl) 77 #[.pointer (some ⟨Bm, 0, none⟩)] trivial (enters_of Try.func77 (by kernel_rfl) rfl) _ _ hmax hbytes _ hseq
def srt (l : List (List UInt8)) : List (List UInt8) := l.mergeSort leB
theorem ZjW (l : List (List UInt8)) : (srt l).Perm l := List.mergeSort_perm l leB
abbrev R0 : Value -> Option (DataW Unit × List MemPlace) := fun _ => some (.nil, [])
theorem Zpn {s : List UInt8} (h : s.length <= maxLen) : keyOf Try.prog 9 (sV s) = some (.string s) := by
 unfold keyOf mapKey
 rw [ZcE]
 dsimp only
 rw [if_pos (by simpa [ByteArray.size] using h)]
section
variable {σ : St} {bb mb : Nat} {S : Nat -> Prop} {fs : List Fl} {pcs : List (Nat × Nat)} {size : Int} {pv : AV} {K : AV -> St -> Prop}
theorem ZlM (h : DAt σ bb S fs pcs size mb pv) (hnl : ∀ f ∈ fs, f.nm.length <= 1000000000) (hfl : fs.length <= 1000000000) {nb : Nat} (hnb : σ.blk nb = some (.own 63 [ZcJ mb])) (hnu : σ.used nb)
 (hK : ∀ v τ, Hd τ 9 1 v (srt (fs.map (·.nm))).length (ZeO (srt (fs.map (·.nm)))) -> Ext σ τ -> (∀ c, hbk v = some c -> ZaT σ c) -> K v τ) : Zat Try.prog 59 [fnV 77 #[.pointer (some ⟨nb, 0, none⟩)]] σ K := by
 intro w Z hH hV
 refine .inl ⟨by kernel_rfl, ?_⟩
 obtain ⟨_, arr, c, hh, hM⟩ := hH.mapAt h.map (Zdd _)
 have hkeys := ZjU h hM
 have hcell : w.cell? ⟨nb, 0, none⟩ = some (.map (some mb)) := ZfY hH hnb (j := 0) (d := ZcJ mb) rfl
 have hrd : ∀ x ∈ arr.toList, ∃ f ∈ fs, x.key = sV f.nm /\ WideElems.rd Try.prog 9 R0 x = some (.string f.nm, .nil) := fun x hx => by
  obtain ⟨f, hf, hk, _⟩ := ZjV hM hx
  refine ⟨f, hf, hk, ?_⟩
  unfold WideElems.rd
  rw [hk, Zpn (by have := hnl f hf; unfold maxLen; omega)]
  rfl
 have hsz : arr.size = fs.length := by
  have := congrArg List.length hM.1
  simpa [ZdT, Za5] using this
 have hown : w.ownsMap Try.prog 9 R0 mb arr.size (.map ((arr.toList.map (WideElems.rg Try.prog 9 R0)).foldr DataW.insert [])) :=
  ⟨arr, c, hh, ⟨by rw [hsz]; unfold maxLen; omega, ⟨fun x hx => hM.2.1 _ (List.mem_map.2 ⟨x, hx, rfl⟩), hM.2.2, hkeys⟩, fun x hx => by
   obtain ⟨f, _, _, q⟩ := hrd x hx
   exact ⟨_, q⟩⟩, Nat.le_refl _, rfl⟩
 have hsk : (strKeys (.map ((arr.toList.map (WideElems.rg Try.prog 9 R0)).foldr DataW.insert [])) : List (List UInt8)).Perm (fs.map (·.nm)) := by
  have e1 : ((arr.toList.map (WideElems.rg Try.prog 9 R0)).map fun p => strOf p.1) = fs.map (·.nm) := by
   have e2 : (arr.toList.map (·.key)) = (fs.map (·.nm)).map sV := by
    have : arr.toList.map (·.key) = (arr.toList.map fun e : MapEntry => (e.key, e.val)).map (·.1) := by rw [List.map_map]; rfl
    rw [this, hM.1]
    unfold ZdT Za5
    rw [List.map_map, List.map_map, List.map_map]
    rfl
   have hrd2 := hrd
   generalize arr.toList = L at e2 hrd2 ⊢
   generalize fs.map (·.nm) = N at e2 ⊢
   clear hrd hown hkeys hcell hK hV hH hnb hnu hM h hsz hh
   induction L generalizing N with
   | nil => cases N with
    | nil => rfl
    | cons a N => simp at e2
   | cons x L ih => cases N with
    | nil => simp at e2
    | cons a N =>
     simp only [List.map_cons, List.cons.injEq] at e2 ⊢
     obtain ⟨f, _, hk, q⟩ := hrd2 x List.mem_cons_self
     refine ⟨?_, ih (fun y hy => hrd2 y (List.mem_cons_of_mem _ hy)) N e2.2⟩
     unfold WideElems.rg
     rw [q]
     have := e2.1
     rw [hk] at this
     show strOf (Lit.string f.nm) = a
     rw [<- ZjT this]
     rfl
  rw [<- e1]
  exact (WideShapes.sorted_perm _).map _
 have hms : Maps.size (.map ((arr.toList.map (WideElems.rg Try.prog 9 R0)).foldr DataW.insert []) : DataW Unit) <= 1000000000 := by
  have : (strKeys (.map ((arr.toList.map (WideElems.rg Try.prog 9 R0)).foldr DataW.insert [])) : List (List UInt8)).length = fs.length := by
   rw [hsk.length_eq, List.length_map]
  have e : (strKeys (.map ((arr.toList.map (WideElems.rg Try.prog 9 R0)).foldr DataW.insert [])) : List (List UInt8)).length = Maps.size (.map ((arr.toList.map (WideElems.rg Try.prog 9 R0)).foldr DataW.insert []) : DataW Unit) := by
   unfold strKeys Maps.size
   simp
  omega
 have hcall := callsIn_wide.1 (ZlL w nb mb arr.size _ R0 (hH.used _ hnu) hcell hown (by unfold maxLen; omega) (by omega))
 refine Calls.mono hcall ?_
 rintro e w' ⟨v, ss, rfl, hp, hrow, hnil, hbel⟩
 have hss : (ss.mergeSort fun x y => decide (x <= y)) = srt (fs.map (·.nm)) := mergeSort_of_perm (hp.trans hsk)
 rw [hss] at hrow
 have hlen : ss.length = (srt (fs.map (·.nm))).length := by rw [(ZjW _).length_eq, (hp.trans hsk).length_eq]
 rw [hlen] at hrow
 generalize hL : srt (fs.map (·.nm)) = L at hrow hlen hK
 rcases hrow.2 with ⟨rfl, hz⟩ | ⟨g, cap, cur, rfl, hg, hgh, r1, r2, r3, r4⟩
 ·have hL0 : L = [] := List.eq_nil_of_length_eq_zero hz
  subst hL0
  exact ⟨.lst none 0 0 [], σ, rfl, hK _ σ ⟨rfl, by simp [ZeO], .inl ⟨.inl rfl, rfl⟩⟩ (.refl _) (fun c hc => by cases hc), hH.below_same hbel, Zfw, Grow.below_same hH hbel⟩
 ·obtain ⟨f1, f2⟩ := hH.fresh_of hg
  rw [Nat.mul_one] at r3 r4
  have hcur : (ZeO L ++ (cur.toList.drop L.length).map AV.raw).map AV.val = cur.toList := by
   conv => rhs; rw [<- List.take_append_drop L.length cur.toList, r4]
   simp [ZeO, Function.comp_def, encStr]
  have hX : Ext σ (σ.put g (.own 9 (ZeO L ++ (cur.toList.drop L.length).map AV.raw))) := Ext.put _ f2
  have hcl : (ZeO L ++ (cur.toList.drop L.length).map AV.raw).length = cap * 1 := by
   have := congrArg List.length hcur
   rw [List.length_map] at this
   rw [this, Array.length_toList, r3, Nat.mul_one]
  refine ⟨hdr g L.length cap, _, rfl, hK _ _ ⟨by rw [ZcU, Nat.mul_one], fun a ha => ?_, ?_⟩ hX fun c hc => ?_, hH.new_own hbel hg 9 _ (by rw [hcur]; exact hgh) ?_, ZaV _, Grow.below hH hbel hg _⟩
  ·obtain ⟨s, _, rfl⟩ := List.mem_map.1 ha; rfl
  ·rcases Nat.eq_zero_or_pos cap with hc0 | hc0
   ·refine .inl ⟨.inr ⟨⟨g, 0, none⟩, ?_⟩, by omega⟩
    have : L.length = 0 := by omega
    unfold hdr
    rw [this, hc0]
   ·refine .inr ⟨g, cap, _, hc0, rfl, Za0 _ _ _, .inr rfl, hcl, ?_, r1, r2⟩
    rw [Nat.mul_one]
    exact List.take_left' (ZcU L)
  ·rw [<- Zdm hc]; exact ⟨f2, f1⟩
  ·intro c hc
   rcases List.mem_append.1 hc with hc | hc
   ·obtain ⟨s, _, rfl⟩ := List.mem_map.1 hc; exact ⟨_, rfl⟩
   ·obtain ⟨s, _, rfl⟩ := List.mem_map.1 hc; exact ⟨_, rfl⟩
theorem Zoj (hK : ∀ nb τ, τ.blk nb = some (.own 63 [ZcJ mb]) -> τ.used nb -> Ext σ τ -> K (fnV 77 #[.pointer (some ⟨nb, 0, none⟩)]) τ) : Zat Try.prog 60 [ZcJ mb] σ K := by
 refine Zan Zas Try.func60 rfl rfl rfl (Nat.le_of_ble_eq_true rfl) ?_
 refine ZbN 0 (v0 := ZcJ mb) rfl ?_
 intro e he
 repeat refine Zac ?_
 first|refine Zaa ?_|refine Zad ?_
 refine Zab ?_
 refine Zek (cs := [ZcJ mb]) (v := ZcJ mb) (by simp only [EV,Nat.reduceEqDiff,↓reduceIte,he];try rfl) rfl fun nb τ hn hu hb hub hX => ?_
 refine Zab (Zag rfl (by simp only [EV,Nat.reduceEqDiff,↓reduceIte,he];try rfl) ?_)
 refine Zaf ?_
 apply ZbN 1
 ·simp only [EV,Nat.reduceEqDiff,↓reduceIte,he];try rfl
 clear he e
 intro e he
 repeat refine Zac ?_
 first|refine Zaa ?_|refine Zad ?_
 refine Zab ?_
 refine Zfc (vs := [ptr nb 0]) (by simp only [List.map_cons, List.map_nil, EV,Nat.reduceEqDiff,↓reduceIte,he];try rfl) ?_
 refine Zab (Zag rfl (by simp only [EV,Nat.reduceEqDiff,↓reduceIte,he];try rfl) ?_)
 refine Zaf ?_
 refine Zaw ?_
 show ∃ r, Zaj _ _ _ _ r /\ _
 exact ⟨_, Zal rfl (by simp only [EV,Nat.reduceEqDiff,↓reduceIte,he];try rfl), hK nb τ hb hub hX⟩
theorem ZmX (h : DAt σ bb S fs pcs size mb pv) (hnl : ∀ f ∈ fs, f.nm.length <= 1000000000) (hfl : fs.length <= 1000000000)
 (hK : ∀ v τ, Hd τ 9 1 v (srt (fs.map (·.nm))).length (ZeO (srt (fs.map (·.nm)))) -> Ext σ τ -> (∀ c, hbk v = some c -> ZaT σ c) -> K v τ) : Zat Try.prog 28 [ptr bb 0] σ K := by
 refine Zan Zas Try.func28 rfl rfl rfl (Nat.le_of_ble_eq_true rfl) ?_
 refine ZbN 0 (v0 := ptr bb 0) rfl ?_
 intro e he
 repeat refine Zac ?_
 first|refine Zaa ?_|refine Zad ?_
 refine Zab (Zag rfl (by simp only [EV,Nat.reduceEqDiff,↓reduceIte,he];try rfl) ?_)
 refine Zaf ?_
 apply ZbN 0
 ·simp only [EV,Nat.reduceEqDiff,↓reduceIte,he];try rfl
 clear he e
 intro e he
 repeat refine Zac ?_
 first|refine Zaa ?_|refine Zad ?_
 refine Zab (Zag rfl (by simp only [EV,Nat.reduceEqDiff,↓reduceIte,he];try rfl) ?_)
 refine Zab ?_
 refine Zar (vs := [ptr bb 0]) (by simp only [List.map_cons, List.map_nil, EV,Nat.reduceEqDiff,↓reduceIte,he];try rfl) ?_
 refine ZdE h ?_
 refine Zab ?_
 with_reducible apply ZbS
 case hx => simp only [EV,Nat.reduceEqDiff,↓reduceIte,he];try rfl
 refine Zaf ?_
 apply ZaO 0 5
 iterate 2 ·simp only [EV,Nat.reduceEqDiff,↓reduceIte,he];try rfl
 clear he e
 intro e he
 refine Zav (t := false) (by simp only [EV,Nat.reduceEqDiff,↓reduceIte,he];try rfl) (fun hf => by cases hf) (fun _ => ?_)
 refine Zaz ?_
 repeat refine Zac ?_
 first|refine Zaa ?_|refine Zad ?_
 refine Zab (Zag rfl (by simp only [EV,Nat.reduceEqDiff,↓reduceIte,he];try rfl) ?_)
 refine Zab ?_
 refine Zak (v := ptr bb 0) (by simp only [EV,Nat.reduceEqDiff,↓reduceIte,he];try rfl) rfl ?_
 refine Zab ?_
 refine Zae (b := bb) (o := 0) (by simp only [EV,Nat.reduceEqDiff,↓reduceIte,he];try rfl) Zbg rfl ?_
 refine Zab ?_
 refine Zap (b := bb) (o := 0 + 1) (r := ZcJ mb) (by simp only [EV,Nat.reduceEqDiff,↓reduceIte,he];try rfl) h.obj ZcD ZcC rfl ?_
 refine Zab ?_
 refine Zar (vs := [ZcJ mb]) (by simp only [List.map_cons, List.map_nil, EV,Nat.reduceEqDiff,↓reduceIte,he];try rfl) ?_
 refine Zoj fun nb τ hb hub hX => ?_
 refine Zab ?_
 refine Zar (vs := [fnV 77 #[.pointer (some ⟨nb, 0, none⟩)]]) (by simp only [List.map_cons, List.map_nil, EV,Nat.reduceEqDiff,↓reduceIte,he];try rfl) ?_
 refine ZlM (h.ext hX) hnl hfl hb hub fun v τ2 hv hX2 hn => ?_
 refine Zab (Zag rfl (by simp only [EV,Nat.reduceEqDiff,↓reduceIte,he];try rfl) ?_)
 refine Zaf ?_
 refine Zaw ?_
 show ∃ r, Zaj _ _ _ _ r /\ _
 exact ⟨_, Zal rfl (by simp only [EV,Nat.reduceEqDiff,↓reduceIte,he];try rfl), hK v τ2 hv (hX.trans hX2) fun c hc => (hn c hc).of hX⟩
end
end Go.Proofs.Ytinpiaibhjmfaaa
namespace Go.Proofs.Ytinpiaibhjmfaaa
open Go.RowKit
set_option maxRecDepth 100000
set_option linter.unusedVariables false
set_option linter.unusedSimpArgs false
def ZkH (b : Nat) : Nat -> List (Nat × Nat) -> Nat
 | _, [] => 0
 | L, p :: ps => (if p.1 = b then min L p.2 else 0) + ZkH b (L - min L p.2) ps
theorem ZiC (b L : Nat) (p : Nat × Nat) (ps : List (Nat × Nat)) : ZkH b L (p :: ps) = (if p.1 = b then min L p.2 else 0) + ZkH b (L - min L p.2) ps := rfl
theorem ZjX {g : Nat -> Nat} {b : Nat} : ∀ (ps : List (Nat × Nat)) (L : Nat), (∀ p ∈ ps, g p.1 = g b ↔ p.1 = b) -> ZkH (g b) L (ps.map fun p => (g p.1, p.2)) = ZkH b L ps
 | [], L, _ => rfl
 | p :: ps, L, h => by
  have h1 := h p List.mem_cons_self
  rw [List.map_cons]
  unfold ZkH
  rw [ZjX ps _ fun q hq => h q (List.mem_cons_of_mem _ hq)]
  by_cases hb : p.1 = b
  ·rw [if_pos hb, if_pos (h1.2 hb)]
  ·rw [if_neg hb, if_neg fun e => hb (h1.1 e)]
theorem ZgE : ∀ (ps : List (Nat × Nat)) (L : Nat) (l : FD), Zch L l ps = l.map fun f => (f.1, f.2.1, f.2.2.take (f.2.2.length - ZkH f.2.1 L ps))
 | [], L, l => by
  show l = _
  conv => lhs; rw [<- List.map_id l]
  refine List.map_congr_left fun f _ => ?_
  show f = (f.1, f.2.1, f.2.2.take (f.2.2.length - 0))
  rw [Nat.sub_zero, List.take_length]
 | p :: ps, L, l => by
  unfold Zch
  rw [ZgE ps]
  unfold ZkF
  rw [List.map_map]
  refine List.map_congr_left fun f _ => ?_
  simp only [Function.comp]
  rw [ZiC]
  by_cases hb : f.2.1 = p.1
  ·rw [if_pos hb, if_pos hb.symm]
   dsimp only
   rw [List.length_take, List.take_take]
   congr 3
   omega
  ·rw [if_neg hb, if_neg fun e => hb e.symm, Nat.zero_add]
theorem ZiD {g : Nat -> Nat} {b : Nat} : ∀ (ps : List (Nat × Nat)), (∀ p ∈ ps, g p.1 = g b ↔ p.1 = b) -> Zb3 (g b) (ps.map fun p => (g p.1, p.2)) = Zb3 b ps
 | [], _ => rfl
 | p :: ps, h => by
  have h1 := h p List.mem_cons_self
  rw [List.map_cons, Zcf, Zcf, ZiD ps fun q hq => h q (List.mem_cons_of_mem _ hq)]
  by_cases hb : p.1 = b
  ·rw [if_pos hb, if_pos (h1.2 hb)]
  ·rw [if_neg hb, if_neg fun e => hb (h1.1 e)]
theorem ZmY {g : Nat -> Nat} (ps : List (Nat × Nat)) : Zcl (ps.map fun p => (g p.1, p.2)) = Zcl ps := by
 unfold Zcl
 rw [List.map_map]
 rfl
section
variable {σ τ : St} {bb bb2 mb mb2 : Nat} {S S2 : Nat -> Prop} {fs fs2 : List Fl} {pcs pcs2 : List (Nat × Nat)} {size : Int} {pv pv2 : AV} {done : List (Fl × Fl)}
theorem Zfl : ∀ {done : List (Fl × Fl)}, (done.map fun q => q.1.b).Nodup -> ∀ q ∈ done, ZfP (prs done) q.1.b = some q.2.b
 | p :: l, hn, q, hq => by
  rw [List.map_cons, List.nodup_cons] at hn
  show (if q.1.b = p.1.b then some p.2.b else ZfP (prs l) q.1.b) = _
  rcases List.mem_cons.1 hq with rfl | hq
  ·rw [if_pos rfl]
  ·rw [if_neg fun e => hn.1 (List.mem_map.2 ⟨q, hq, e⟩), Zfl hn.2 q hq]
theorem ZgO.ren (h : DAt σ bb S fs pcs size mb pv) (h2 : DAt τ bb2 S2 fs2 pcs2 size mb2 pv2) (c : ZgO fs pcs fs2 pcs2 done) : ∀ f ∈ fs, ∃ f2 ∈ fs2, f2.nm = f.nm /\ f2.d = f.d /\ f2.b = (ZfP (prs done) f.b).getD 0 /\ ∀ p ∈ pcs, (ZfP (prs done) p.1).getD 0 = (ZfP (prs done) f.b).getD 0 ↔ p.1 = f.b := fun f hf => by
 have hnb : (done.map fun q => q.1.b).Nodup := by
  have : (done.map fun q => q.1.b) = (done.map (·.1)).map (·.b) := by rw [List.map_map]; rfl
  rw [this, (c.one.map _).nodup_iff]
  exact h.nd
 have hnb2 : (done.map fun q => q.2.b).Nodup := by
  have : (done.map fun q => q.2.b) = (done.map (·.2)).map (·.b) := by rw [List.map_map]; rfl
  rw [this, <- c.two]
  exact h2.nd
 have hfind : ∀ g ∈ fs, ∃ q ∈ done, q.1 = g := fun g hg => by
  obtain ⟨q, hq, e⟩ := List.mem_map.1 (c.one.mem_iff.2 hg)
  exact ⟨q, hq, e⟩
 obtain ⟨q, hq, rfl⟩ := hfind f hf
 have hg := Zfl hnb q hq
 refine ⟨q.2, by rw [c.two]; exact List.mem_map.2 ⟨q, hq, rfl⟩, (c.same q hq).1, (c.same q hq).2, by rw [hg]; rfl, fun p hp => ?_⟩
 obtain ⟨g, hg1, hg2⟩ := h.inn p hp
 obtain ⟨r, hr, rfl⟩ := hfind g hg1
 rw [<- hg2, hg, Zfl hnb r hr]
 show r.2.b = q.2.b ↔ _
 constructor
 ·intro e
  have : r = q := by
   clear hg hg1 hg2 hfind hp hf
   induction done with
   | nil => cases hq
   | cons a l ih =>
    rw [List.map_cons, List.nodup_cons] at hnb2
    rcases List.mem_cons.1 hr with e1 | e1 <;> rcases List.mem_cons.1 hq with e2 | e2
    ·rw [e1, e2]
    ·exact absurd (List.mem_map.2 ⟨q, e2, by rw [<- e, e1]⟩) hnb2.1
    ·exact absurd (List.mem_map.2 ⟨r, e1, by rw [e, e2]⟩) hnb2.1
    ·have hnd := hnb2.2
     have key : ∀ {l : List (Fl × Fl)}, (l.map fun q => q.2.b).Nodup -> ∀ r ∈ l, ∀ q ∈ l, r.2.b = q.2.b -> r = q := by
      intro l
      induction l with
      | nil => intro _ r hr; cases hr
      | cons a l ih =>
       intro hn r hr q hq e
       rw [List.map_cons, List.nodup_cons] at hn
       rcases List.mem_cons.1 hr with e1 | e1 <;> rcases List.mem_cons.1 hq with e2 | e2
       ·rw [e1, e2]
       ·exact absurd (List.mem_map.2 ⟨q, e2, by rw [<- e, e1]⟩) hn.1
       ·exact absurd (List.mem_map.2 ⟨r, e1, by rw [e, e2]⟩) hn.1
       ·exact ih hn.2 r e1 q e2 e
     exact key hnd r e1 q e2 e
  rw [this]
 ·intro e
  have := h.uniq hg1 hf e
  have hq2 : ZfP (prs done) r.1.b = some r.2.b := Zfl hnb r hr
  rw [this, Zfl hnb q hq] at hq2
  injection hq2 with hq2
  exact hq2.symm
theorem ZgO.wf (h : DAt σ bb S fs pcs size mb pv) (h2 : DAt τ bb2 S2 fs2 pcs2 size mb2 pv2) (c : ZgO fs pcs fs2 pcs2 done) (hw : Wf fs pcs) : Wf fs2 pcs2 /\ Zcl pcs2 = Zcl pcs /\ pcs2.length = pcs.length /\ fs2.length = fs.length /\ (∀ f2 ∈ fs2, ∃ f ∈ fs, f2.nm = f.nm /\ f2.d = f.d) := by
 have hall : ∀ f2 ∈ fs2, ∃ f ∈ fs, f2.nm = f.nm /\ f2.d = f.d := fun f2 hf2 => by
  rw [c.two] at hf2
  obtain ⟨q, hq, rfl⟩ := List.mem_map.1 hf2
  exact ⟨q.1, c.one.mem_iff.1 (List.mem_map.2 ⟨q, hq, rfl⟩), (c.same q hq).1, (c.same q hq).2⟩
 refine ⟨⟨fun p hp => ?_, fun f2 hf2 => ?_⟩, by rw [c.pcs, ZmY (g := fun x => (ZfP (prs done) x).getD 0)], by rw [c.pcs, List.length_map], ?_, hall⟩
 ·rw [c.pcs] at hp
  obtain ⟨p', hp', rfl⟩ := List.mem_map.1 hp
  exact hw.pos p' hp'
 ·obtain ⟨f, hf, e1, e2⟩ := hall f2 hf2
  obtain ⟨g2, hg2, q1, q2, q3, q4⟩ := c.ren h h2 f hf
  have : f2 = g2 := h2.uniqN hf2 hg2 (by rw [e1, q1])
  subst this
  rw [q3, e2, c.pcs, ZiD (g := fun x => (ZfP (prs done) x).getD 0) pcs q4]
  exact hw.fit f hf
 ·rw [c.two, List.length_map]
  have := c.one.length_eq
  rwa [List.length_map] at this
theorem ZgO.crash (h : DAt σ bb S fs pcs size mb pv) (h2 : DAt τ bb2 S2 fs2 pcs2 size mb2 pv2) (c : ZgO fs pcs fs2 pcs2 done) {fs3 : List Fl} {L : Nat} (hd : dat fs3 = Zch L (dat fs2) pcs2.reverse) : ∀ f ∈ fs, ∃ f3 ∈ fs3, f3.nm = f.nm /\ f3.d = f.d.take (f.d.length - ZkH f.b L pcs.reverse) := fun f hf => by
 obtain ⟨f2, hf2, q1, q2, q3, q4⟩ := c.ren h h2 f hf
 rw [ZgE] at hd
 have hm : (f2.nm, f2.b, f2.d.take (f2.d.length - ZkH f2.b L pcs2.reverse)) ∈ dat fs3 := by
  rw [hd]
  exact List.mem_map.2 ⟨_, ZbV hf2, rfl⟩
 obtain ⟨f3, hf3, e⟩ := ZcH hm
 injection e with e1 e
 injection e with e2 e3
 refine ⟨f3, hf3, by rw [<- e1, q1], ?_⟩
 rw [<- e3, q2, q3, c.pcs, <- List.map_reverse, ZjX (g := fun x => (ZfP (prs done) x).getD 0) pcs.reverse L fun p hp => q4 p (List.mem_reverse.1 hp)]
end
end Go.Proofs.Ytinpiaibhjmfaaa
namespace Go.Proofs.Ytinpiaibhjmfaaa
open Go.RowKit
set_option linter.unusedSimpArgs false
set_option maxRecDepth 100000
set_option linter.unusedVariables false
abbrev Zpo := List (List UInt8 × AV)
def ZoB (es : Zpo) : List (Value × Value) := es.map fun p => (sV p.1, p.2.val)
def ZpP : Zpo -> List UInt8 -> AV -> Zpo
 | [], k, n => [(k, n)]
 | p :: es, k, n => if k = p.1 then (k, n) :: es else p :: ZpP es k n
section
variable {P : Program}
end
section
variable {P : Program} {ops : Array Oper} {env : Env} {σ τ : St} {K : Env -> St -> Prop} {d : Option Nat} {ty ty' t kt et : TypeId} {pos : String} {af : Array Edge} {x y z : Operand} {b n : Nat} {es : Zpo} {k : List UInt8}
end
end Go.Proofs.Ytinpiaibhjmfaaa
namespace Go.Proofs.Ytinpiaibhjmfaaa
open Go.RowKit
set_option maxRecDepth 100000
set_option linter.unusedVariables false
set_option linter.unusedSimpArgs false
theorem Hd.validV {σ : St} {e sz n : Nat} {v : AV} {cells : List AV} (h : Hd σ e sz v n cells) : ∀ w B, Zam w B v := fun w B => by
 rcases h.2.2 with ⟨rfl | ⟨ad, rfl⟩, _⟩ | ⟨b, c, all, _, rfl, _⟩
 ·exact Zfw
 ·exact ZaV _
 ·exact ZaV _
structure Rw where
 nm : List UInt8
 v : AV
 d : List UInt8
def ZkI (l : List Rw) : Zpo := l.map fun r => (r.nm, r.v)
structure ZlN (υ : St) (T : Nat -> Prop) (m : Nat) (l : List Rw) : Prop where
 map : υ.blk m = some (.map (ZoB (ZkI l)))
 used : υ.used m
 row : ∀ r ∈ l, Hd υ 5 1 r.v r.d.length (bys r.d)
 nn : (l.map (·.nm)).Nodup
 own : T m /\ ∀ r ∈ l, ∀ x, hbk r.v = some x -> T x
theorem ZjY {k : List UInt8} {v : AV} : ∀ {l : List Rw}, (∀ r ∈ l, r.nm ≠ k) -> ZpP (ZkI l) k v = ZkI l ++ [(k, v)]
 | [], _ => rfl
 | a :: l, h => by
  show (if k = a.nm then (k, v) :: ZkI l else (a.nm, a.v) :: ZpP (ZkI l) k v) = _
  rw [if_neg fun e => h a List.mem_cons_self e.symm, ZjY fun r hr => h r (List.mem_cons_of_mem _ hr)]
  rfl
section
variable {σ υ τ : St} {T : Nat -> Prop} {m : Nat} {l : List Rw}
theorem ZlN.but {U : Nat -> Prop} (h : ZlN υ T m l) (k : But U υ τ) (hU : ∀ c, T c -> ¬ U c) : ZlN τ T m l :=
 ⟨k.keep _ _ (hU _ h.own.1) h.map, k.used _ h.used, fun r hr => (h.row r hr).but k fun b hb => hU _ (h.own.2 r hr b hb), h.nn, h.own⟩
theorem ZlN.ext (h : ZlN υ T m l) (k : Ext υ τ) : ZlN τ T m l := h.but (U := fun _ => False) k.but fun _ _ => id
theorem ZlN.valid (h : ZlN υ T m l) : ∀ p ∈ ZkI l, ∀ w B, Zam w B p.2 := fun p hp => by
 obtain ⟨r, hr, rfl⟩ := List.mem_map.1 hp
 exact (h.row r hr).validV
theorem ZlN.push {k d : List UInt8} {v : AV} (h : ZlN υ T m l) (hv : Hd υ 5 1 v d.length (bys d)) (hne : ∀ r ∈ l, r.nm ≠ k) (hb : τ.blk m = some (.map (ZoB (ZpP (ZkI l) k v)))) (k4 : But (fun c => c = m) υ τ) : ZlN τ (fun c => T c \/ hbk v = some c) m (l ++ [⟨k, v, d⟩]) := by
 have hH : ∀ {u : AV} {n : Nat} {cs : List AV}, Hd υ 5 1 u n cs -> Hd τ 5 1 u n cs := fun {u n cs} hu => hu.but k4 fun c hc hq => by
  obtain ⟨all, hall⟩ := hu.blk hc
  exact Zcc hall h.map hq
 refine ⟨?_, k4.used _ h.used, fun r hr => ?_, ?_, .inl h.own.1, fun r hr x hx => ?_⟩
 ·rw [hb, ZjY hne]
  unfold ZkI
  rw [List.map_append]
  rfl
 ·rcases List.mem_append.1 hr with hr | hr
  ·exact hH (h.row r hr)
  ·rw [List.mem_singleton.1 hr]
   exact hH hv
 ·rw [List.map_append, List.nodup_append]
  refine ⟨h.nn, by simp, fun a ha b hb e => ?_⟩
  obtain ⟨r, hr, rfl⟩ := List.mem_map.1 ha
  simp at hb
  exact hne r hr (e.trans hb)
 ·rcases List.mem_append.1 hr with hr | hr
  ·exact .inl (h.own.2 r hr x hx)
  ·rw [List.mem_singleton.1 hr] at hx
   exact .inr hx
end
section
variable {σ : St} {bb mb : Nat} {S : Nat -> Prop} {fs : List Fl} {pcs : List (Nat × Nat)} {size : Int} {pv : AV} {K : AV -> St -> Prop} {M B : Nat}
theorem ZlO {l m : List Fl} (h : l.Perm m) : sumD l = sumD m := by
 unfold sumD
 exact (h.map _).sum_nat
end
end Go.Proofs.Ytinpiaibhjmfaaa
namespace Go.Proofs.Ytinpiaibhjmfaaa
open Go.RowKit
set_option maxRecDepth 100000
set_option linter.unusedVariables false
set_option linter.unusedSimpArgs false
theorem ZlP : ZbE Try.prog 28 = some (.agg #[.int .i64 0, .string ⟨#[]⟩, .slice none 0 0, .int .i64 0, .slice none 0 0]) := by kernel_rfl
theorem ZlQ : ZaH Try.prog 28 = some 5 := by kernel_rfl
theorem Zqp : Program.underlying Try.prog 4 = some .bool := by kernel_rfl
theorem ZhI {N : Nat} {ρ : Nat -> AV} : ∀ {l : List (List UInt8)} {cs : List AV}, SVs CT N ρ (l.flatMap (CT.enc 3)) cs -> ∀ (i : Nat) (h : i < l.length), ∃ v, cs[i]? = some v /\ SV CT N ρ (.sl 1 l[i] none) v
 | f :: l, cs, hs, i, hi => by
  rw [List.flatMap_cons] at hs
  have hs : SVs CT N ρ (XV.sl 1 f none :: l.flatMap (CT.enc 3)) cs := hs
  obtain ⟨a0, as_, rfl, h0, h1⟩ := hs.to
  cases i with
  | zero => exact ⟨a0, rfl, h0⟩
  | succ i =>
   obtain ⟨v, q1, q2⟩ := ZhI (l := l) h1 i (by simpa using hi)
   exact ⟨v, q1, q2⟩
structure At (x0 : List (List UInt8)) (bb mb : Nat) (i : Nat) (υ : St) (S : Nat -> Prop) (fs : List Fl) (pcs : List (Nat × Nat)) (pv av : AV) (safe : Nat) : Prop where
 disk : DAt υ bb S fs pcs 0 mb pv
 used : ∀ c, S c -> υ.used c
 wf : Wf fs pcs
 few : pcs.length <= i
 all : Hd υ 5 1 av (x0.take i).flatten.length (bys (x0.take i).flatten)
 apart : ∀ c, hbk av = some c -> ¬ S c
 sf : safe <= (x0.take i).flatten.length
 sum : Zcl pcs = (x0.take i).flatten.length - safe
 data : (i = 0 /\ dat fs = [] /\ pcs = []) \/ (0 < i /\ ∃ fb, dat fs = [([102], fb, (x0.take i).flatten)] /\ ∀ p ∈ pcs, p.1 = fb)
theorem At.ext {x0 : List (List UInt8)} {bb mb i : Nat} {υ τ : St} {S : Nat -> Prop} {fs : List Fl} {pcs : List (Nat × Nat)} {pv av : AV} {safe : Nat} (h : At x0 bb mb i υ S fs pcs pv av safe) (k : Ext υ τ) : At x0 bb mb i τ S fs pcs pv av safe :=
 ⟨h.disk.ext k, fun c hc => k.used _ (h.used c hc), h.wf, h.few, h.all.ext k, h.apart, h.sf, h.sum, h.data⟩
theorem At.sumD {x0 : List (List UInt8)} {bb mb i : Nat} {υ : St} {S : Nat -> Prop} {fs : List Fl} {pcs : List (Nat × Nat)} {pv av : AV} {safe : Nat} (h : At x0 bb mb i υ S fs pcs pv av safe) : sumD fs = (x0.take i).flatten.length := by
 rcases h.data with ⟨rfl, hd, _⟩ | ⟨_, fb, hd, _⟩ <;> rw [ZdF, hd] <;> simp
end Go.Proofs.Ytinpiaibhjmfaaa
namespace Go.Proofs.Ytinpiaibhjmfaaa
open Go.RowKit
set_option maxRecDepth 100000
set_option linter.unusedVariables false
set_option linter.unusedSimpArgs false
theorem ZaX : Zbx Try.prog 28 = some [(0, some 1, some false), (1, some 1, some false), (2, some 1, some false), (3, some 1, some false), (4, some 1, some false)] := by kernel_rfl
theorem Zc4 : Zd5 Try.prog 26 = some false := by kernel_rfl
theorem ZcR : ZaH Try.prog 26 = some 1 := by kernel_rfl
theorem ZdO : Zd5 Try.prog 22 = some false := by kernel_rfl
theorem Zdu : ZaH Try.prog 22 = some 1 := by kernel_rfl
theorem ZeA : Zd5 Try.prog 28 = some true := by kernel_rfl
def Zbd (nm : List UInt8) (ns : List (List UInt8)) : List UInt8 := match ns with
 | [] => nm
 | n :: _ => n
abbrev ZbQ (kd : Int) (nm : List UInt8) (vN : AV) (n : Int) (vP : AV) : List AV := [.raw (.int .i64 kd), .raw (sV nm), vN, .raw (.int .i64 n), vP]
section
variable {σ : St} {bb mb : Nat} {S : Nat -> Prop} {fs : List Fl} {pcs : List (Nat × Nat)} {size : Int} {pv : AV} {K : AV -> St -> Prop} {M B : Nat}
theorem ZjZ {kd n : Int} {nm : List UInt8} {vN vP : AV} {ns : List (List UInt8)} (hN : ZcQ σ vN ns) (h1 : vN.one = true /\ vP.one = true) (hK : ∀ τ, Ext σ τ -> K (.raw (sV (Zbd nm ns))) τ) : Zat Try.prog 46 [.agg (ZbQ kd nm vN n vP)] σ K := by
 refine Zan Zas Try.func46 rfl rfl rfl (Nat.le_of_ble_eq_true rfl) ?_
 refine ZbN 0 (v0 := .agg (ZbQ kd nm vN n vP)) rfl ?_
 intro e he
 repeat refine Zac ?_
 first|refine Zaa ?_|refine Zad ?_
 refine Zab ?_
 refine Zek (cs := ZbQ kd nm vN n vP) (v := .agg (ZbQ kd nm vN n vP)) (by simp only [EV,Nat.reduceEqDiff,↓reduceIte,he];try rfl) (by simp [ZbQ, Zbc, AV.one, h1]) fun b υ hn hu hb hub hX => ?_
 refine Zab (Zag rfl (by simp only [EV,Nat.reduceEqDiff,↓reduceIte,he];try rfl) ?_)
 refine Zaf ?_
 apply ZbN 1
 ·simp only [EV,Nat.reduceEqDiff,↓reduceIte,he];try rfl
 clear he e
 intro e he
 repeat refine Zac ?_
 first|refine Zaa ?_|refine Zad ?_
 refine Zab ?_
 refine Zae (b := b) (o := 0) (by simp only [EV,Nat.reduceEqDiff,↓reduceIte,he];try rfl) ZaX rfl ?_
 refine Zab ?_
 refine Zap (b := b) (o := 0 + 2) (r := vN) (by simp only [EV,Nat.reduceEqDiff,↓reduceIte,he];try rfl) hb Zc4 ZcR rfl ?_
 obtain ⟨A, c, hv⟩ := hN.val
 refine Zab ?_
 refine ZcA (n := ns.length) (c := c) (A := A) (by simp only [EV,Nat.reduceEqDiff,↓reduceIte,he];try rfl) hv rfl ZaR ?_
 refine Zab ?_
 refine ZcK (k := .i64) (a := (ns.length : Int)) (b := 0) (by simp only [EV,Nat.reduceEqDiff,↓reduceIte,he];try rfl) (by simp only [EV,Nat.reduceEqDiff,↓reduceIte,he];try rfl) ?_
 refine Zaf ?_
 apply ZaO 1 6
 iterate 2 ·simp only [EV,Nat.reduceEqDiff,↓reduceIte,he];try rfl
 clear he e
 intro e he
 refine Zav (t := decide ((ns.length : Int) = 0)) (by simp only [EV,Nat.reduceEqDiff,↓reduceIte,he];try rfl) (fun ht => ?_) (fun ht => ?_)
 ·have ht := of_decide_eq_true ht
  have : ns = [] := List.eq_nil_of_length_eq_zero (by omega)
  subst this
  repeat refine Zac ?_
  first|refine Zaa ?_|refine Zad ?_
  refine Zab ?_
  refine Zae (b := b) (o := 0) (by simp only [EV,Nat.reduceEqDiff,↓reduceIte,he];try rfl) ZaX rfl ?_
  refine Zab ?_
  refine Zap (b := b) (o := 0 + 1) (r := .raw (sV nm)) (by simp only [EV,Nat.reduceEqDiff,↓reduceIte,he];try rfl) hb ZbT Zbv rfl ?_
  refine Zab (Zag rfl (by simp only [EV,Nat.reduceEqDiff,↓reduceIte,he];try rfl) ?_)
  refine Zaf ?_
  refine Zc2 ?_
  show ∃ r, Zaj _ _ _ _ r /\ _
  exact ⟨_, Zal rfl (by simp only [EV,Nat.reduceEqDiff,↓reduceIte,he];try rfl), hK υ hX⟩
 ·have ht := of_decide_eq_false ht
  have h0 : 0 < ns.length := by omega
  refine Zaz ?_
  repeat refine Zac ?_
  first|refine Zaa ?_|refine Zad ?_
  refine Zab ?_
  refine Zae (b := b) (o := 0) (by simp only [EV,Nat.reduceEqDiff,↓reduceIte,he];try rfl) ZaX rfl ?_
  refine Zab ?_
  refine Zap (b := b) (o := 0 + 2) (r := vN) (by simp only [EV,Nat.reduceEqDiff,↓reduceIte,he];try rfl) hb Zc4 ZcR rfl ?_
  refine Zg3 (v := vN) (i := 0) (hN.but hX.but fun _ _ => id) h0 (by simp only [EV,Nat.reduceEqDiff,↓reduceIte,he];try rfl) (by simp only [EV,Nat.reduceEqDiff,↓reduceIte,he];try rfl) fun u => ?_
  refine Zab (Zag rfl (by simp only [EV,Nat.reduceEqDiff,↓reduceIte,he];try rfl) ?_)
  refine Zaf ?_
  refine Zaw ?_
  have e : Zbd nm ns = ns[0] := by
   cases ns with
   | nil => exact absurd h0 (Nat.lt_irrefl 0)
   | cons a l => rfl
  rw [e] at hK
  show ∃ r, Zaj _ _ _ _ r /\ _
  exact ⟨_, Zal rfl (by simp only [EV,Nat.reduceEqDiff,↓reduceIte,he];try rfl), hK υ hX⟩
inductive ZgP (size : Int) (nm : List UInt8) (ns : List (List UInt8)) (n : Int) (d : List UInt8) (fs : List Fl) (pcs : List (Nat × Nat)) : Nat -> List Fl -> List (Nat × Nat) -> Nat -> Prop
 | bad {i : Nat} : i < 2 -> ¬ (nm ≠ [] /\ nm.length <= 40) -> ZgP size nm ns n d fs pcs i fs pcs 2
 | full {i : Nat} : i < 2 -> (nm ≠ [] /\ nm.length <= 40) -> ¬ (size < 1 \/ ((d.length + sumD fs : Nat) : Int) <= size) -> ZgP size nm ns n d fs pcs i fs pcs 8
 | app {i : Nat} {fs' pcs'} : i < 2 -> (nm ≠ [] /\ nm.length <= 40) -> (size < 1 \/ ((d.length + sumD fs : Nat) : Int) <= size) -> ZoA fs pcs nm d fs' pcs' -> ZgP size nm ns n d fs pcs i fs' pcs' 0
 | sync : ZgP size nm ns n d fs pcs 2 fs (Zeo fs ns pcs).1 (Zeo fs ns pcs).2
 | cut6 : (∀ f ∈ fs, f.nm ≠ nm) -> ZgP size nm ns n d fs pcs 3 fs pcs 6
 | cut2 {f0 : Fl} : f0 ∈ fs -> f0.nm = nm -> (n < 0 \/ (f0.d.length : Int) < n) -> ZgP size nm ns n d fs pcs 3 fs pcs 2
 | cut {f0 : Fl} {v' : AV} : f0 ∈ fs -> f0.nm = nm -> 0 <= n -> n <= (f0.d.length : Int) -> ZgP size nm ns n d fs pcs 3 (fs.map (Zb2 f0.b v' (f0.d.take n.toNat))) ((shr f0.b (f0.d.length - n.toNat) pcs).filter fun p => !decide (p.2 = 0)) 0
 | ren2 : (∃ f ∈ fs, f.nm = nm) -> ¬ (Zbd nm ns ≠ [] /\ (Zbd nm ns).length <= 40) -> ZgP size nm ns n d fs pcs 4 fs pcs 2
 | ren6 : (∀ f ∈ fs, f.nm ≠ nm) -> ZgP size nm ns n d fs pcs 4 fs pcs 6
 | rens {f0 : Fl} : f0 ∈ fs -> f0.nm = nm -> nm = Zbd nm ns -> (Zbd nm ns ≠ [] /\ (Zbd nm ns).length <= 40) -> ZgP size nm ns n d fs pcs 4 fs pcs 0
 | ren {f0 : Fl} : f0 ∈ fs -> f0.nm = nm -> nm ≠ Zbd nm ns -> (Zbd nm ns ≠ [] /\ (Zbd nm ns).length <= 40) -> ZgP size nm ns n d fs pcs 4 (rnF fs f0 (Zbd nm ns)) (rnP fs pcs (Zbd nm ns)) 0
 | rem : ZgP size nm ns n d fs pcs 5 (Zgz ns fs pcs).1 (Zgz ns fs pcs).2.1 (Zgz ns fs pcs).2.2
 | crash {fs'} : dat fs' = Zch ((Zcl pcs : Int) - max n 0).toNat (dat fs) pcs.reverse -> ZgP size nm ns n d fs pcs 6 fs' [] 0
 | none {i : Nat} : 7 <= i -> ZgP size nm ns n d fs pcs i fs pcs 0
theorem Zpp {kd n : Int} {nm d : List UInt8} {vN vP : AV} {ns : List (List UInt8)} (I : Inv σ bb mb size S fs pcs pv M B) (hB : B + d.length <= 100000000) (hM : M <= 10000000) (hn : -9223372036854775808 <= n /\ n <= 9223372036854775807)
 (hN : ZcQ σ vN ns) (hNS : ∀ c, hbk vN = some c -> ¬ S c) (hnl : ns.length <= 1000000000) (h1 : vN.one = true /\ vP.one = true) (h1b : Zbc vN = true /\ Zbc vP = true)
 (hcat : ∀ τ0, Ext σ τ0 -> ∀ K' : AV -> St -> Prop, (∀ v τ, Hd τ 5 1 v d.length (bys d) -> Ext τ0 τ -> (∀ b, hbk v = some b -> ZaT τ0 b) -> K' v τ) -> Zat Try.prog 36 [vP] τ0 K')
 (hK : ∀ τ S' fs' pcs' pv' a, Inv τ bb mb size S' fs' pcs' pv' (M + 1) (B + d.length) -> But S σ τ -> (∀ c, S c -> S' c) -> (∀ c, S' c -> S c \/ ZaT σ c) -> ZgP size nm ns n d fs pcs (ZdN kd 8) fs' pcs' a -> K (vI a) τ) : Zat Try.prog 22 [ptr bb 0, .agg (ZbQ kd nm vN n vP)] σ K := by
 refine Zan Zas Try.func22 rfl rfl rfl (Nat.le_of_ble_eq_true rfl) ?_
 refine ZaO 0 1 (v0 := ptr bb 0) (v1 := .agg (ZbQ kd nm vN n vP)) rfl rfl ?_
 intro e he
 repeat refine Zac ?_
 first|refine Zaa ?_|refine Zad ?_
 refine Zab ?_
 refine Zek (cs := ZbQ kd nm vN n vP) (v := .agg (ZbQ kd nm vN n vP)) (by simp only [EV,Nat.reduceEqDiff,↓reduceIte,he];try rfl) (by simp [ZbQ, Zbc, AV.one, h1]) fun b3 σ1 hn3 hu3 hb3 hub3 hX1 => ?_
 refine Zab (Zag rfl (by simp only [EV,Nat.reduceEqDiff,↓reduceIte,he];try rfl) ?_)
 refine Zaf ?_
 apply ZaO 0 3
 iterate 2 ·simp only [EV,Nat.reduceEqDiff,↓reduceIte,he];try rfl
 clear he e
 intro e he
 repeat refine Zac ?_
 first|refine Zaa ?_|refine Zad ?_
 refine Zab ?_
 refine Zae (b := b3) (o := 0) (by simp only [EV,Nat.reduceEqDiff,↓reduceIte,he];try rfl) ZaX rfl ?_
 refine Zab ?_
 refine Zap (b := b3) (o := 0 + 0) (r := .raw (.int .i64 kd)) (by simp only [EV,Nat.reduceEqDiff,↓reduceIte,he];try rfl) hb3 Zb6 ZbX rfl ?_
 refine Zab ?_
 refine Zar (vs := [.raw (.int .i64 kd), .raw (.int .i64 8)]) (by simp only [List.map_cons, List.map_nil, EV,Nat.reduceEqDiff,↓reduceIte,he];try rfl) ?_
 refine Zi8 kd (by decide) (by decide) _ fun σ2 hX2 => ?_
 refine Zaf ?_
 apply ZaP 0 3 7
 iterate 3 ·simp only [EV,Nat.reduceEqDiff,↓reduceIte,he];try rfl
 clear he e
 intro e he
 have hE := hX1.trans hX2
 have I2 := I.ext hE
 have hb := hX2.keep _ _ hb3
 have hN2 : ZcQ σ2 vN ns := hN.but hE.but fun _ _ => id
 have hp8 : ZdN kd 8 < 8 := by
  have := ZfZ kd (n := 8) (by decide)
  omega
 have hin : ∀ τ S' fs' pcs' pv' a, Inv τ bb mb size S' fs' pcs' pv' (M + 1) (B + d.length) -> But S σ2 τ -> (∀ c, S c -> S' c) -> (∀ c, S' c -> S c \/ ZaT σ2 c) -> ZgP size nm ns n d fs pcs (ZdN kd 8) fs' pcs' a -> K (vI a) τ := fun τ S' fs' pcs' pv' a q1 q2 q3 q4 q5 => hK τ S' fs' pcs' pv' a q1 (hE.but.trans q2) q3 (fun c hc => (q4 c hc).imp id fun q => q.of hE) q5
 have hsame : ∀ τ a, Ext σ2 τ -> ZgP size nm ns n d fs pcs (ZdN kd 8) fs pcs a -> K (vI a) τ := fun τ a hX q => hin τ S fs pcs pv a ((I2.ext hX).more (Nat.le_succ _) (Nat.le_add_right _ _)) hX.but (fun c hc => hc) (fun c hc => .inl hc) q
 have hsub : ∀ τ fs' pcs' pv' a, Inv τ bb mb size S fs' pcs' pv' M B -> But S σ2 τ -> ZgP size nm ns n d fs pcs (ZdN kd 8) fs' pcs' a -> K (vI a) τ := fun τ fs' pcs' pv' a q1 q2 q3 => hin τ S fs' pcs' pv' a (q1.more (Nat.le_succ _) (Nat.le_add_right _ _)) q2 (fun c hc => hc) (fun c hc => .inl hc) q3
 have hfl := I2.file (by omega)
 have hfew := I2.few
 have hsum := I2.sum
 clear hX1 hX2 hb3 hub3 hn3 hu3
 generalize hi : ZdN kd 8 = i at he hp8 hin hsame hsub
 have hlast : ∀ (e : Env) τ fs' pcs' pv', Inv τ bb mb size S fs' pcs' pv' M B -> But S σ2 τ -> ZgP size nm ns n d fs pcs i fs' pcs' 0 -> K (vI 0) τ := fun e τ fs' pcs' pv' q1 q2 q3 => hsub τ fs' pcs' pv' 0 q1 q2 q3
 refine ZaD ?_
 ·skip
  repeat refine Zac ?_
  first|refine Zaa ?_|refine Zad ?_
  refine Zab ?_
  refine ZcK (k := .i64) (a := (i : Int)) (b := 0) (by simp only [EV,Nat.reduceEqDiff,↓reduceIte,he];try rfl) (by simp only [EV,Nat.reduceEqDiff,↓reduceIte,he];try rfl) ?_
  refine Zab (Zag rfl (by simp only [EV,Nat.reduceEqDiff,↓reduceIte,he];try rfl) ?_)
  refine Zaf ?_
  apply ZaK 0 3 7 8
  iterate 4 ·simp only [EV,Nat.reduceEqDiff,↓reduceIte,he];try rfl
  clear he e
  intro e he
  refine ZaQ (fun env υ => (env 0 = ptr bb 0 /\ env 3 = ptr b3 0 /\ env 7 = vI i /\ env 8 = vT (decide (i < 2))) /\ υ = σ2) ?_ ?_
  ·refine ZaM (t := decide ((i : Int) = 0)) (by simp only [EV,Nat.reduceEqDiff,↓reduceIte,he];try rfl) (fun ht => ?_) (fun ht => ?_)
   ·have ht := of_decide_eq_true ht
    refine Zbh ?_
    refine ⟨rfl, ⟨by simp only [EV,Nat.reduceEqDiff,↓reduceIte,he];try rfl, by simp only [EV,Nat.reduceEqDiff,↓reduceIte,he];try rfl, by simp only [EV,Nat.reduceEqDiff,↓reduceIte,he];try rfl, ?_⟩, rfl⟩
    rw [decide_eq_true (by omega : i < 2)]
    have h8 := he.2.2.2
    rw [decide_eq_true ht] at h8
    exact h8
   ·have ht := of_decide_eq_false ht
    repeat refine Zac ?_
    first|refine Zaa ?_|refine Zad ?_
    refine Zab ?_
    refine ZcK (k := .i64) (a := (i : Int)) (b := 1) (by simp only [EV,Nat.reduceEqDiff,↓reduceIte,he];try rfl) (by simp only [EV,Nat.reduceEqDiff,↓reduceIte,he];try rfl) ?_
    refine Zab (Zag rfl (by simp only [EV,Nat.reduceEqDiff,↓reduceIte,he];try rfl) ?_)
    refine Zaf ?_
    refine ⟨rfl, ⟨by simp only [EV,Nat.reduceEqDiff,↓reduceIte,he];try rfl, by simp only [EV,Nat.reduceEqDiff,↓reduceIte,he];try rfl, by simp only [EV,Nat.reduceEqDiff,↓reduceIte,he];try rfl, ?_⟩, rfl⟩
    rw [show decide (i < 2) = decide ((i : Int) = 1) by congr 1; exact propext (by omega)]
    simp only [EV,Nat.reduceEqDiff,↓reduceIte,he];try rfl
  clear he e
  rintro e _ ⟨he, rfl⟩
  refine ZaM (t := decide (i < 2)) (by simp only [EV,Nat.reduceEqDiff,↓reduceIte,he];try rfl) (fun h2 => ?_) (fun h2 => ?_)
  ·have h2 := of_decide_eq_true h2
   repeat refine Zac ?_
   first|refine Zaa ?_|refine Zad ?_
   refine Zab (Zag rfl (by simp only [EV,Nat.reduceEqDiff,↓reduceIte,he];try rfl) ?_)
   refine Zab ?_
   refine Zae (b := b3) (o := 0) (by simp only [EV,Nat.reduceEqDiff,↓reduceIte,he];try rfl) ZaX rfl ?_
   refine Zab ?_
   refine Zap (b := b3) (o := 0 + 1) (r := .raw (sV nm)) (by simp only [EV,Nat.reduceEqDiff,↓reduceIte,he];try rfl) hb ZbT Zbv rfl ?_
   refine Zab ?_
   refine Zae (b := b3) (o := 0) (by simp only [EV,Nat.reduceEqDiff,↓reduceIte,he];try rfl) ZaX rfl ?_
   refine Zab ?_
   refine Zap (b := b3) (o := 0 + 4) (r := vP) (by simp only [EV,Nat.reduceEqDiff,↓reduceIte,he];try rfl) hb ZdO Zdu rfl ?_
   refine Zab ?_
   refine Zar (vs := [ptr bb 0, .raw (sV nm), vP]) (by simp only [List.map_cons, List.map_nil, EV,Nat.reduceEqDiff,↓reduceIte,he];try rfl) ?_
   have hcat2 := fun τ0 (hX : Ext _ τ0) => hcat τ0 (hE.trans hX)
   refine Zey I2.disk I2.used (d := d) hcat2 (by omega) (by omega) (fun q τ hX => ?_) (fun q1 q τ hX => ?_) fun q1 q2 τ S' fs' pcs' pv' d1 d2 d3 d4 d5 d6 => ?_
   ·refine Zab (Zag rfl (by simp only [EV,Nat.reduceEqDiff,↓reduceIte,he];try rfl) ?_)
    refine Zaf ?_
    refine Zaw ?_
    show ∃ r, Zaj _ _ _ _ r /\ _
    exact ⟨_, Zal rfl (by simp only [EV,Nat.reduceEqDiff,↓reduceIte,he];try rfl), hsame τ 2 hX (.bad h2 q)⟩
   ·refine Zab (Zag rfl (by simp only [EV,Nat.reduceEqDiff,↓reduceIte,he];try rfl) ?_)
    refine Zaf ?_
    refine Zaw ?_
    show ∃ r, Zaj _ _ _ _ r /\ _
    exact ⟨_, Zal rfl (by simp only [EV,Nat.reduceEqDiff,↓reduceIte,he];try rfl), hsame τ 8 hX (.full h2 q1 q)⟩
   ·refine Zab (Zag rfl (by simp only [EV,Nat.reduceEqDiff,↓reduceIte,he];try rfl) ?_)
    refine Zaf ?_
    refine Zaw ?_
    show ∃ r, Zaj _ _ _ _ r /\ _
    exact ⟨_, Zal rfl (by simp only [EV,Nat.reduceEqDiff,↓reduceIte,he];try rfl), hin τ S' fs' pcs' pv' 0 (I2.app d1 d5 d6 q1.2 q2) d2 d3 d4 (.app h2 q1 q2 d6)⟩
  have h2 := of_decide_eq_false h2
  repeat refine Zac ?_
  first|refine Zaa ?_|refine Zad ?_
  refine Zab ?_
  refine ZcK (k := .i64) (a := (i : Int)) (b := 2) (by simp only [EV,Nat.reduceEqDiff,↓reduceIte,he];try rfl) (by simp only [EV,Nat.reduceEqDiff,↓reduceIte,he];try rfl) ?_
  refine Zab (Zag rfl (by simp only [EV,Nat.reduceEqDiff,↓reduceIte,he];try rfl) ?_)
  refine Zaf ?_
  apply ZaK 0 3 7 17
  iterate 4 ·simp only [EV,Nat.reduceEqDiff,↓reduceIte,he];try rfl
  clear he e
  intro e he
  refine ZaM (t := decide ((i : Int) = 2)) (by simp only [EV,Nat.reduceEqDiff,↓reduceIte,he];try rfl) (fun h3 => ?_) (fun h3 => ?_)
  ·have h3 := of_decide_eq_true h3
   obtain rfl : i = 2 := by omega
   repeat refine Zac ?_
   first|refine Zaa ?_|refine Zad ?_
   refine Zab (Zag rfl (by simp only [EV,Nat.reduceEqDiff,↓reduceIte,he];try rfl) ?_)
   refine Zab ?_
   refine Zae (b := b3) (o := 0) (by simp only [EV,Nat.reduceEqDiff,↓reduceIte,he];try rfl) ZaX rfl ?_
   refine Zab ?_
   refine Zap (b := b3) (o := 0 + 2) (r := vN) (by simp only [EV,Nat.reduceEqDiff,↓reduceIte,he];try rfl) hb Zc4 ZcR rfl ?_
   refine Zab ?_
   refine Zar (vs := [ptr bb 0, vN]) (by simp only [List.map_cons, List.map_nil, EV,Nat.reduceEqDiff,↓reduceIte,he];try rfl) ?_
   refine Zn8 I2.disk I2.used (by omega) hN2 hNS hnl fun τ pv' d1 d2 => ?_
   refine Zab (Zag rfl (by simp only [EV,Nat.reduceEqDiff,↓reduceIte,he];try rfl) ?_)
   refine Zaf ?_
   refine Zaw ?_
   show ∃ r, Zaj _ _ _ _ r /\ _
   exact ⟨_, Zal rfl (by simp only [EV,Nat.reduceEqDiff,↓reduceIte,he];try rfl), hsub τ fs _ pv' _ (I2.sub d1 d2 (List.Sublist.refl _) (ZiB fs ns pcs)) d2 .sync⟩
  have h3 := of_decide_eq_false h3
  repeat refine Zac ?_
  first|refine Zaa ?_|refine Zad ?_
  refine Zab ?_
  refine ZcK (k := .i64) (a := (i : Int)) (b := 3) (by simp only [EV,Nat.reduceEqDiff,↓reduceIte,he];try rfl) (by simp only [EV,Nat.reduceEqDiff,↓reduceIte,he];try rfl) ?_
  refine Zab (Zag rfl (by simp only [EV,Nat.reduceEqDiff,↓reduceIte,he];try rfl) ?_)
  refine Zaf ?_
  apply ZaK 0 3 7 23
  iterate 4 ·simp only [EV,Nat.reduceEqDiff,↓reduceIte,he];try rfl
  clear he e
  intro e he
  refine ZaM (t := decide ((i : Int) = 3)) (by simp only [EV,Nat.reduceEqDiff,↓reduceIte,he];try rfl) (fun h4 => ?_) (fun h4 => ?_)
  ·have h4 := of_decide_eq_true h4
   obtain rfl : i = 3 := by omega
   repeat refine Zac ?_
   first|refine Zaa ?_|refine Zad ?_
   refine Zab (Zag rfl (by simp only [EV,Nat.reduceEqDiff,↓reduceIte,he];try rfl) ?_)
   refine Zab ?_
   refine Zae (b := b3) (o := 0) (by simp only [EV,Nat.reduceEqDiff,↓reduceIte,he];try rfl) ZaX rfl ?_
   refine Zab ?_
   refine Zap (b := b3) (o := 0 + 1) (r := .raw (sV nm)) (by simp only [EV,Nat.reduceEqDiff,↓reduceIte,he];try rfl) hb ZbT Zbv rfl ?_
   refine Zab ?_
   refine Zae (b := b3) (o := 0) (by simp only [EV,Nat.reduceEqDiff,↓reduceIte,he];try rfl) ZaX rfl ?_
   refine Zab ?_
   refine Zap (b := b3) (o := 0 + 3) (r := .raw (.int .i64 n)) (by simp only [EV,Nat.reduceEqDiff,↓reduceIte,he];try rfl) hb Zb6 ZbX rfl ?_
   refine Zab ?_
   refine Zar (vs := [ptr bb 0, .raw (sV nm), .raw (.int .i64 n)]) (by simp only [List.map_cons, List.map_nil, EV,Nat.reduceEqDiff,↓reduceIte,he];try rfl) ?_
   refine Zpl I2.disk I2.used (by omega) (I2.pc (by omega)) hfl (fun q τ hX => ?_) (fun f0 q1 q2 q3 τ hX => ?_) fun f0 q1 q2 q3 q4 τ v' pv' d1 d2 => ?_
   ·refine Zab (Zag rfl (by simp only [EV,Nat.reduceEqDiff,↓reduceIte,he];try rfl) ?_)
    refine Zaf ?_
    refine Zaw ?_
    show ∃ r, Zaj _ _ _ _ r /\ _
    exact ⟨_, Zal rfl (by simp only [EV,Nat.reduceEqDiff,↓reduceIte,he];try rfl), hsame τ 6 hX (.cut6 q)⟩
   ·refine Zab (Zag rfl (by simp only [EV,Nat.reduceEqDiff,↓reduceIte,he];try rfl) ?_)
    refine Zaf ?_
    refine Zaw ?_
    show ∃ r, Zaj _ _ _ _ r /\ _
    exact ⟨_, Zal rfl (by simp only [EV,Nat.reduceEqDiff,↓reduceIte,he];try rfl), hsame τ 2 hX (.cut2 q1 q2 q3)⟩
   ·refine Zab (Zag rfl (by simp only [EV,Nat.reduceEqDiff,↓reduceIte,he];try rfl) ?_)
    refine Zaf ?_
    refine Zaw ?_
    show ∃ r, Zaj _ _ _ _ r /\ _
    exact ⟨_, Zal rfl (by simp only [EV,Nat.reduceEqDiff,↓reduceIte,he];try rfl), hsub τ _ _ pv' 0 (I2.cutI q1 (by omega) d1 d2) d2 (.cut q1 q2 q3 q4)⟩
  have h4 := of_decide_eq_false h4
  repeat refine Zac ?_
  first|refine Zaa ?_|refine Zad ?_
  refine Zab ?_
  refine ZcK (k := .i64) (a := (i : Int)) (b := 4) (by simp only [EV,Nat.reduceEqDiff,↓reduceIte,he];try rfl) (by simp only [EV,Nat.reduceEqDiff,↓reduceIte,he];try rfl) ?_
  refine Zab (Zag rfl (by simp only [EV,Nat.reduceEqDiff,↓reduceIte,he];try rfl) ?_)
  refine Zaf ?_
  apply ZaK 0 3 7 31
  iterate 4 ·simp only [EV,Nat.reduceEqDiff,↓reduceIte,he];try rfl
  clear he e
  intro e he
  refine ZaM (t := decide ((i : Int) = 4)) (by simp only [EV,Nat.reduceEqDiff,↓reduceIte,he];try rfl) (fun h5 => ?_) (fun h5 => ?_)
  ·have h5 := of_decide_eq_true h5
   obtain rfl : i = 4 := by omega
   refine Zb1 ?_
   refine ⟨[0, 1, 2, 3, 4, 5, 6], [[], [], [1], [], [3], [0, 1, 2, 3, 4], [0, 1, 2, 3, 4, 5]], fun _ => True, [2], [4], [], by kernel_rfl, ?_⟩
   apply Zah
   case hi => simp only [HIX]; try rfl
   case hw => rfl
   case how => rfl
   refine Zag rfl (by simp only [EV,Nat.reduceEqDiff,↓reduceIte,he];try rfl) ?_
   refine Zao ?_
   apply Zah
   case hi => simp only [HIX]; try rfl
   case hw => rfl
   case how => rfl
   refine Zae (b := b3) (o := 0) (by simp only [EV,Nat.reduceEqDiff,↓reduceIte,he];try rfl) ZaX rfl ?_
   refine Zao ?_
   apply Zah
   case hi => simp only [HIX]; try rfl
   case hw => rfl
   case how => rfl
   refine Zap (b := b3) (o := 0 + 1) (r := .raw (sV nm)) (by simp only [EV,Nat.reduceEqDiff,↓reduceIte,he];try rfl) hb ZbT Zbv rfl ?_
   refine Zao ?_
   apply Zah
   case hi => simp only [HIX]; try rfl
   case hw => rfl
   case how => rfl
   refine Zap (b := b3) (o := 0) (r := .agg (ZbQ kd nm vN n vP)) (by simp only [EV,Nat.reduceEqDiff,↓reduceIte,he];try rfl) hb ZeA ZlQ rfl ?_
   refine Zao ?_
   apply Zah
   case hi => simp only [HIX]; try rfl
   case hw => rfl
   case how => rfl
   refine Zar (vs := [.agg (ZbQ kd nm vN n vP)]) (by simp only [List.map_cons, List.map_nil, EV,Nat.reduceEqDiff,↓reduceIte,he];try rfl) ?_
   refine ZjZ hN2 h1 fun τ1 hX1 => ?_
   refine ⟨fun _ => hX1, ?_⟩
   apply Zah
   case hi => simp only [HIX]; try rfl
   case hw => rfl
   case how => rfl
   refine Zar (vs := [ptr bb 0, .raw (sV nm), .raw (sV (Zbd nm ns))]) (by simp only [List.map_cons, List.map_nil, EV,Nat.reduceEqDiff,↓reduceIte,he];try rfl) ?_
   have I3 := I2.ext hX1
   refine Zpm I3.disk I3.used (by omega) (fun q1 q2 τ hX => ?_) (fun q τ hX => ?_) (fun f0 q1 q2 q3 q5 τ hX => ?_) fun f0 q1 q2 q3 q4 τ pv' d1 d2 => ?_
   ·refine ⟨(fun hf => by cases hf), ?_⟩
    apply Zah
    case hi => simp only [HIX]; try rfl
    case hw => rfl
    case how => rfl
    refine Zag rfl (by simp only [EV,Nat.reduceEqDiff,↓reduceIte,he];try rfl) ?_
    refine Zao ?_
    refine Zb8 ?_
    refine Zaw ?_
    show ∃ r, Zaj _ _ _ _ r /\ _
    exact ⟨_, Zal rfl (by simp only [EV,Nat.reduceEqDiff,↓reduceIte,he];try rfl), hsame τ 2 (hX1.trans hX) (.ren2 q1 q2)⟩
   ·refine ⟨(fun hf => by cases hf), ?_⟩
    apply Zah
    case hi => simp only [HIX]; try rfl
    case hw => rfl
    case how => rfl
    refine Zag rfl (by simp only [EV,Nat.reduceEqDiff,↓reduceIte,he];try rfl) ?_
    refine Zao ?_
    refine Zb8 ?_
    refine Zaw ?_
    show ∃ r, Zaj _ _ _ _ r /\ _
    exact ⟨_, Zal rfl (by simp only [EV,Nat.reduceEqDiff,↓reduceIte,he];try rfl), hsame τ 6 (hX1.trans hX) (.ren6 q)⟩
   ·refine ⟨(fun hf => by cases hf), ?_⟩
    apply Zah
    case hi => simp only [HIX]; try rfl
    case hw => rfl
    case how => rfl
    refine Zag rfl (by simp only [EV,Nat.reduceEqDiff,↓reduceIte,he];try rfl) ?_
    refine Zao ?_
    refine Zb8 ?_
    refine Zaw ?_
    show ∃ r, Zaj _ _ _ _ r /\ _
    exact ⟨_, Zal rfl (by simp only [EV,Nat.reduceEqDiff,↓reduceIte,he];try rfl), hsame τ 0 (hX1.trans hX) (.rens q1 q2 q3 q5)⟩
   ·refine ⟨(fun hf => by cases hf), ?_⟩
    apply Zah
    case hi => simp only [HIX]; try rfl
    case hw => rfl
    case how => rfl
    refine Zag rfl (by simp only [EV,Nat.reduceEqDiff,↓reduceIte,he];try rfl) ?_
    refine Zao ?_
    refine Zb8 ?_
    refine Zaw ?_
    show ∃ r, Zaj _ _ _ _ r /\ _
    exact ⟨_, Zal rfl (by simp only [EV,Nat.reduceEqDiff,↓reduceIte,he];try rfl), hsub τ _ _ pv' 0 (I3.renI q1 q4.2 (by rw [q2]; exact q3) d1 d2) (hX1.but.trans d2) (.ren q1 q2 q3 q4)⟩
  have h5 := of_decide_eq_false h5
  repeat refine Zac ?_
  first|refine Zaa ?_|refine Zad ?_
  refine Zab ?_
  refine ZcK (k := .i64) (a := (i : Int)) (b := 5) (by simp only [EV,Nat.reduceEqDiff,↓reduceIte,he];try rfl) (by simp only [EV,Nat.reduceEqDiff,↓reduceIte,he];try rfl) ?_
  refine Zab (Zag rfl (by simp only [EV,Nat.reduceEqDiff,↓reduceIte,he];try rfl) ?_)
  refine Zaf ?_
  apply ZaK 0 3 7 39
  iterate 4 ·simp only [EV,Nat.reduceEqDiff,↓reduceIte,he];try rfl
  clear he e
  intro e he
  refine ZaM (t := decide ((i : Int) = 5)) (by simp only [EV,Nat.reduceEqDiff,↓reduceIte,he];try rfl) (fun h6 => ?_) (fun h6 => ?_)
  ·have h6 := of_decide_eq_true h6
   obtain rfl : i = 5 := by omega
   repeat refine Zac ?_
   first|refine Zaa ?_|refine Zad ?_
   refine Zab (Zag rfl (by simp only [EV,Nat.reduceEqDiff,↓reduceIte,he];try rfl) ?_)
   refine Zab ?_
   refine Zae (b := b3) (o := 0) (by simp only [EV,Nat.reduceEqDiff,↓reduceIte,he];try rfl) ZaX rfl ?_
   refine Zab ?_
   refine Zap (b := b3) (o := 0 + 2) (r := vN) (by simp only [EV,Nat.reduceEqDiff,↓reduceIte,he];try rfl) hb Zc4 ZcR rfl ?_
   refine Zab ?_
   refine Zar (vs := [ptr bb 0, vN]) (by simp only [List.map_cons, List.map_nil, EV,Nat.reduceEqDiff,↓reduceIte,he];try rfl) ?_
   refine Zpk I2.disk (by omega) hN2 hNS hnl fun τ pv' d1 d2 => ?_
   refine Zab (Zag rfl (by simp only [EV,Nat.reduceEqDiff,↓reduceIte,he];try rfl) ?_)
   refine Zaf ?_
   refine Zaw ?_
   show ∃ r, Zaj _ _ _ _ r /\ _
   exact ⟨_, Zal rfl (by simp only [EV,Nat.reduceEqDiff,↓reduceIte,he];try rfl), hsub τ _ _ pv' _ (I2.sub d1 d2 (ZhG ns fs pcs).1 (ZhG ns fs pcs).2) d2 .rem⟩
  have h6 := of_decide_eq_false h6
  repeat refine Zac ?_
  first|refine Zaa ?_|refine Zad ?_
  refine Zab ?_
  refine ZcK (k := .i64) (a := (i : Int)) (b := 6) (by simp only [EV,Nat.reduceEqDiff,↓reduceIte,he];try rfl) (by simp only [EV,Nat.reduceEqDiff,↓reduceIte,he];try rfl) ?_
  refine Zab (Zag rfl (by simp only [EV,Nat.reduceEqDiff,↓reduceIte,he];try rfl) ?_)
  refine Zaf ?_
  apply ZaK 0 3 7 45
  iterate 4 ·simp only [EV,Nat.reduceEqDiff,↓reduceIte,he];try rfl
  clear he e
  intro e he
  refine ZaM (t := decide ((i : Int) = 6)) (by simp only [EV,Nat.reduceEqDiff,↓reduceIte,he];try rfl) (fun h7 => ?_) (fun h7 => ?_)
  ·have h7 := of_decide_eq_true h7
   obtain rfl : i = 6 := by omega
   repeat refine Zac ?_
   first|refine Zaa ?_|refine Zad ?_
   refine Zab (Zag rfl (by simp only [EV,Nat.reduceEqDiff,↓reduceIte,he];try rfl) ?_)
   refine Zab ?_
   refine Zae (b := b3) (o := 0) (by simp only [EV,Nat.reduceEqDiff,↓reduceIte,he];try rfl) ZaX rfl ?_
   refine Zab ?_
   refine Zap (b := b3) (o := 0 + 3) (r := .raw (.int .i64 n)) (by simp only [EV,Nat.reduceEqDiff,↓reduceIte,he];try rfl) hb Zb6 ZbX rfl ?_
   refine Zab ?_
   refine Zar (vs := [ptr bb 0, .raw (.int .i64 n)]) (by simp only [List.map_cons, List.map_nil, EV,Nat.reduceEqDiff,↓reduceIte,he];try rfl) ?_
   refine ZjN I2.disk (by omega) I2.wf (I2.pcs_ (by omega)) hfl hn fun τ fs' d1 d2 d3 => ?_
   refine Zaf ?_
   show Zay _ _ _ _ _ _
   repeat refine Zac ?_
   first|refine Zaa ?_|refine Zad ?_
   refine Zab (Zag rfl (by simp only [EV,Nat.reduceEqDiff,↓reduceIte,he];try rfl) ?_)
   refine Zaf ?_
   refine Zaw ?_
   show ∃ r, Zaj _ _ _ _ r /\ _
   exact ⟨_, Zal rfl (by simp only [EV,Nat.reduceEqDiff,↓reduceIte,he];try rfl), hsub τ fs' [] _ 0 (I2.crashI d1 d2 d3) d3 (.crash d2)⟩
  have h7 := of_decide_eq_false h7
  refine Zbh ?_
  show Zay _ _ _ _ _ _
  repeat refine Zac ?_
  first|refine Zaa ?_|refine Zad ?_
  refine Zab (Zag rfl (by simp only [EV,Nat.reduceEqDiff,↓reduceIte,he];try rfl) ?_)
  refine Zaf ?_
  refine Zaw ?_
  show ∃ r, Zaj _ _ _ _ r /\ _
  exact ⟨_, Zal rfl (by simp only [EV,Nat.reduceEqDiff,↓reduceIte,he];try rfl), hsame _ 0 (.refl _) (.none (by omega))⟩
end
end Go.Proofs.Ytinpiaibhjmfaaa
