/- A disk: a copy. -/
import Derived.Test.YtinpiaibhjmfaaaMh
import Derived.Test.YtinpiaibhjmfaaaMg
namespace Go.Proofs.Ytinpiaibhjmfaaa
open Go.RowKit
set_option maxRecDepth 100000
set_option linter.unusedVariables false
set_option linter.unusedSimpArgs false
theorem Zj5 : Program.underlying Try.prog 86 = some (.map 76 76) := by kernel_rfl
theorem ZqF {z0 v : AV} {pl : Nat -> Option (Nat × Nat)} (h0 : pl 0 = some (0, 1)) (hv : Zbi v = true /\ v.cells = [v]) : Zcf pl [z0] ([0].zip [v]) = some [v] := by
 simp [Zcf, h0, hv.1, hv.2, ZaR]
section
variable {σ τ : St} {bb mb : Nat} {S : Nat -> Prop} {fs : List Fl} {pcs : List (Nat × Nat)} {size : Int} {pv : AV}
theorem DAt.addG (h : DAt σ bb S fs pcs size mb pv) {nb : Nat} {nm : List UInt8} {v : AV} {d : List UInt8} (hn : ¬ S nb) (k : But (fun c => c = mb \/ ¬ S c) σ τ) (hb : τ.blk nb = some (.own 78 [v])) (hu : τ.used nb) (hm : τ.blk mb = some (.map (Zea (Zbc (fs ++ [⟨nm, nb, v, d⟩]))))) (hv : Hd τ 5 1 v d.length (bys d)) (hnm : ∀ f ∈ fs, f.nm ≠ nm) (hvb : ∀ c, hbk v = some c -> ¬ S c) :
 DAt τ bb (fun c => S c \/ c = nb \/ hbk v = some c) (fs ++ [⟨nm, nb, v, d⟩]) pcs size mb pv := by
 obtain ⟨o1, o2, o3, o4⟩ := h.own
 have hkeep : ∀ b t cs, S b -> σ.blk b = some (.own t cs) -> τ.blk b = some (.own t cs) := fun b t cs hs hb' => k.keep _ _ (fun hq => by
  rcases hq with hq | hq
  ·exact Zcq hb' h.map hq
  ·exact hq hs) hb'
 have hkeepH : ∀ {e sz n : Nat} {u : AV} {cs : List AV}, Hd σ e sz u n cs -> (∀ c, hbk u = some c -> S c) -> Hd τ e sz u n cs := fun {e sz n u cs} hu' hs => hu'.but k fun c hc hq => by
  obtain ⟨all, hall⟩ := hu'.blk hc
  rcases hq with hq | hq
  ·exact Zcq hall h.map hq
  ·exact hq (hs c hc)
 have hold : ∀ f ∈ fs, f.b ≠ nb := fun f hf e => hn (by rw [<- e]; exact (o3 f hf).1)
 refine ⟨hkeep _ _ _ o1 h.obj, k.used _ h.used, hm, k.used _ h.umap, fun f hf => ?_, ?_, ?_, fun f hf g hg x hx hy => ?_, hkeepH h.pc o4, ⟨.inl o1, .inl o2, fun f hf => ?_, fun x hx => .inl (o4 x hx)⟩, fun p hp => ?_⟩
 ·rcases List.mem_append.1 hf with hf | hf
  ·obtain ⟨q1, q2, q3⟩ := h.file f hf
   exact ⟨hkeep _ _ _ (o3 f hf).1 q1, k.used _ q2, hkeepH q3 (o3 f hf).2⟩
  ·rw [List.mem_singleton.1 hf]
   exact ⟨hb, hu, hv⟩
 ·rw [List.map_append, List.nodup_append]
  refine ⟨h.nd, by simp, fun a ha b hb' e => ?_⟩
  obtain ⟨f, hf, rfl⟩ := List.mem_map.1 ha
  simp at hb'
  exact hold f hf (e.trans hb')
 ·rw [List.map_append, List.nodup_append]
  refine ⟨h.nn, by simp, fun a ha b hb' e => ?_⟩
  obtain ⟨f, hf, rfl⟩ := List.mem_map.1 ha
  simp at hb'
  exact hnm f hf (e.trans hb')
 ·rcases List.mem_append.1 hf with hf | hf
  ·rcases List.mem_append.1 hg with hg | hg
   ·exact h.far f hf g hg x hx hy
   ·rw [List.mem_singleton.1 hg] at hy
    exact absurd ((o3 f hf).2 x hx) (hvb x hy)
  ·rcases List.mem_append.1 hg with hg | hg
   ·rw [List.mem_singleton.1 hf] at hx
    exact absurd ((o3 g hg).2 x hy) (hvb x hx)
   ·rw [List.mem_singleton.1 hf, List.mem_singleton.1 hg]
 ·rcases List.mem_append.1 hf with hf | hf
  ·exact ⟨.inl (o3 f hf).1, fun x hx => .inl ((o3 f hf).2 x hx)⟩
  ·rw [List.mem_singleton.1 hf]
   exact ⟨.inr (.inl rfl), fun x hx => .inr (.inr hx)⟩
 ·obtain ⟨f, hf, e⟩ := h.inn p hp
  exact ⟨f, List.mem_append_left _ hf, e⟩
end
abbrev prs (done : List (Fl × Fl)) : List (Nat × Nat) := done.map fun q => (q.1.b, q.2.b)
structure ZgY (fs : List Fl) (pcs : List (Nat × Nat)) (fs2 : List Fl) (pcs2 : List (Nat × Nat)) (done : List (Fl × Fl)) : Prop where
 two : fs2 = done.map (·.2)
 one : (done.map (·.1)).Perm fs
 same : ∀ q ∈ done, q.2.nm = q.1.nm /\ q.2.d = q.1.d
 pcs : pcs2 = pcs.map fun p => ((ZfU (prs done) p.1).getD 0, p.2)
theorem Zjt {l : List MapEntry} (hn : (l.map (·.key)).Nodup) {x y : MapEntry} (hx : x ∈ l) (hy : y ∈ l) (e : x.key = y.key) : x = y := by
 induction l with
 | nil => cases hx
 | cons a l ih =>
  rw [List.map_cons, List.nodup_cons] at hn
  rcases List.mem_cons.1 hx with e1 | h1 <;> rcases List.mem_cons.1 hy with e2 | h2
  ·rw [e1, e2]
  ·exact absurd (List.mem_map.2 ⟨y, h2, by rw [<- e, e1]⟩) hn.1
  ·exact absurd (List.mem_map.2 ⟨x, h1, by rw [e, e2]⟩) hn.1
  ·exact ih hn.2 h1 h2
theorem Zj6 {s t : List UInt8} (h : sV s = sV t) : s = t := by
 unfold sV at h
 injection h with h
 injection h with h
 have := congrArg Array.toList h
 simpa using this
theorem ZnR {a b : Nat} (h : pV a = pV b) : a = b := by
 unfold pV at h
 injection h with h
 injection h with h
 injection h
section
variable {σ : St} {bb mb : Nat} {S : Nat -> Prop} {fs : List Fl} {pcs : List (Nat × Nat)} {size : Int} {pv : AV} {K : AV -> St -> Prop}
theorem Zj7 {arr : Array MapEntry} {c : Nat} (h : DAt σ bb S fs pcs size mb pv) (hM : Zhl arr c (Zea (Zbc fs))) : (arr.toList.map (·.key)).Nodup := by
 have e1 : arr.toList.map (·.key) = (arr.toList.map fun e : MapEntry => (e.key, e.val)).map (·.1) := by rw [List.map_map]; rfl
 rw [e1, hM.1]
 have e2 : (Zea (Zbc fs)).map (·.1) = (fs.map (·.nm)).map sV := by
  unfold Zea Zbc
  rw [List.map_map, List.map_map, List.map_map]
  rfl
 rw [e2]
 have hnn := h.nn
 generalize fs.map (·.nm) = l at hnn
 clear h hM e1 e2
 induction l with
 | nil => exact .nil
 | cons a l ih =>
  rw [List.nodup_cons] at hnn
  refine List.nodup_cons.2 ⟨fun ha => ?_, ih hnn.2⟩
  obtain ⟨x, hx, e⟩ := List.mem_map.1 ha
  exact hnn.1 (Zj6 e ▸ hx)
theorem Zj8 {arr : Array MapEntry} {c : Nat} (hM : Zhl arr c (Zea (Zbc fs))) {e : MapEntry} (he : e ∈ arr.toList) : ∃ f ∈ fs, e.key = sV f.nm /\ e.val = pV f.b := by
 have : (e.key, e.val) ∈ Zea (Zbc fs) := by
  rw [<- hM.1]
  exact List.mem_map.2 ⟨e, he, rfl⟩
 unfold Zea Zbc at this
 rw [List.map_map] at this
 obtain ⟨f, hf, hq⟩ := List.mem_map.1 this
 injection hq with q1 q2
 exact ⟨f, hf, q1.symm, q2.symm⟩
structure Zrd (σ : St) (fs : List Fl) (arr : Array MapEntry) (c mb ib tw bb2 mb2 : Nat) (size : Int) (υ : St) (done : List (Fl × Fl)) (seen : Array Nat) (D : List MapEntry) (S2 : Nat -> Prop) : Prop where
 came : Zng arr seen D
 what : (D.map fun e : MapEntry => (e.key, e.val)) = done.map fun q => (sV q.1.nm, pV q.1.b)
 each : ∀ q ∈ done, q.1 ∈ fs /\ q.2.nm = q.1.nm /\ q.2.d = q.1.d
 disk : DAt υ bb2 S2 (done.map (·.2)) [] size mb2 (.lst none 0 0 [])
 newS : ∀ x, S2 x -> Za0 σ x /\ υ.used x /\ x ≠ tw /\ x ≠ ib
 twin : υ.blk tw = some (.map (ZeD (prs done)))
 utw : υ.used tw
 iter : υ.blk ib = some (.map (Zh5 mb c seen c))
 uib : υ.used ib
 held : υ.blk mb = some (.map (Zfd arr c))
 but : But (fun x => x = mb) σ υ
theorem DAt.files_but {U : Nat -> Prop} {υ : St} (h : DAt σ bb S fs pcs size mb pv) (k : But U σ υ) (hU : ∀ x, U x -> σ.blk x = none \/ x = mb) : ∀ f ∈ fs, υ.blk f.b = some (.own 78 [f.v]) /\ Hd υ 5 1 f.v f.d.length (bys f.d) := fun f hf => by
 obtain ⟨q1, q2, q3⟩ := h.file f hf
 refine ⟨k.keep _ _ (fun hu => ?_) q1, q3.but k fun c hc hu => ?_⟩
 ·rcases hU _ hu with e | e
  ·rw [q1] at e; cases e
  ·exact Zcq q1 h.map e
 ·obtain ⟨all, hall⟩ := q3.blk hc
  rcases hU _ hu with e | e
  ·rw [hall] at e; cases e
  ·exact Zcq hall h.map e
theorem Zl5 {U : Nat -> Prop} {υ : St} {c : Nat} (hB : But U σ υ) (hU : ∀ x, U x -> υ.used x) (h : Za0 υ c) : Za0 σ c := by
 rcases ZcB hB h with q | q
 ·exact absurd (hU c q) h.2
 ·exact q
set_option maxHeartbeats 4000000 in
theorem ZoB (h : DAt σ bb S fs pcs size mb pv) (hfl : ∀ f ∈ fs, f.d.length <= 1000000000) (hl : pcs.length <= 100000000)
 (hK : ∀ τ bb2 S2 fs2 pcs2 mb2 pv2 done, DAt τ bb2 S2 fs2 pcs2 size mb2 pv2 -> Ext σ τ -> (∀ x, S2 x -> Za0 σ x /\ τ.used x) -> ZgY fs pcs fs2 pcs2 done -> K (ptr bb2 0) τ) : Zat Try.prog 18 [ptr bb 0] σ K := by
 refine Zam Zas Try.func18 rfl rfl rfl (Nat.le_of_ble_eq_true rfl) ?_
 refine Zbz 0 (v0 := ptr bb 0) rfl ?_
 intro e he
 repeat refine Zac ?_
 first|refine Zaa ?_|refine Zad ?_
 refine Zab (Zae rfl (by simp only [EV,Nat.reduceEqDiff,↓reduceIte,he];try rfl) ?_)
 refine Zaf ?_
 apply Zbz 0
 ·simp only [EV,Nat.reduceEqDiff,↓reduceIte,he];try rfl
 clear he e
 intro e he
 repeat refine Zac ?_
 first|refine Zaa ?_|refine Zad ?_
 refine Zab (Zae rfl he ?_)
 refine Zab ?_
 refine Zao (vs := [ptr bb 0]) (by simp only [List.map_cons, List.map_nil, EV,Nat.reduceEqDiff,↓reduceIte,he];try rfl) ?_
 refine ZdU h ?_
 refine Zab ?_
 with_reducible apply ZbB
 case hx => simp only [EV,Nat.reduceEqDiff,↓reduceIte,he];try rfl
 refine Zaf ?_
 apply ZaK 0 11
 iterate 2 ·simp only [EV,Nat.reduceEqDiff,↓reduceIte,he];try rfl
 clear he e
 intro e he
 refine Zav (t := false) he.2 (fun hf => by cases hf) (fun _ => ?_)
 refine Zaz ?_
 repeat refine Zac ?_
 first|refine Zaa ?_|refine Zad ?_
 refine Zab (Zae rfl he.1 ?_)
 refine Zab ?_
 refine Zak (v := ptr bb 0) rfl rfl ?_
 refine Zab ?_
 refine Zag (b := bb) (o := 0) rfl Zbn rfl ?_
 refine Zab ?_
 refine Zar (b := bb) (o := 0 + 2) (r := .raw (.int .i64 size)) rfl h.obj Zck Zcc rfl ?_
 refine Zab ?_
 refine Zao (vs := [.raw (.int .i64 size)]) (by simp only [List.map_cons, List.map_nil, EV,Nat.reduceEqDiff,↓reduceIte,he];try rfl) ?_
 refine ZlP fun bb2 mb2 σ1 h1 hE1 hnb hnm => ?_
 refine Zab ?_
 refine Zg7 (hm := Zj5) fun tw hutw hntw => ?_
 have hX2 : Ext σ1 (σ1.put tw (.map [])) := Ext.put _ hntw
 have htw2 : (σ1.put tw (.map [])).blk tw = some (.map (ZeD [])) := Za7 _ _ _
 have hutw2 : (σ1.put tw (.map [])).used tw := .inr rfl
 generalize σ1.put tw (.map []) = σ2 at hX2 htw2 hutw2 ⊢
 refine Zab (Zae rfl (by simp only [EV,Nat.reduceEqDiff,↓reduceIte,he];try rfl) ?_)
 refine Zab (Zae rfl (by simp only [EV,Nat.reduceEqDiff,↓reduceIte,he];try rfl) ?_)
 refine Zaf ?_
 apply ZaL 0 3 4
 iterate 3 ·simp only [EV,Nat.reduceEqDiff,↓reduceIte,he];try rfl
 clear he e
 intro e he
 have hE2 := hE1.trans hX2
 have h2 := h.ext hE2
 have htwN : Za0 σ tw := Za0.of ⟨hntw, hutw⟩ hE1
 repeat refine Zac ?_
 first|refine Zaa ?_|refine Zad ?_
 refine Zab (Zae rfl he.1 ?_)
 refine Zab ?_
 refine Zak (v := ptr bb 0) rfl rfl ?_
 refine Zab ?_
 refine Zag (b := bb) (o := 0) rfl Zbn rfl ?_
 refine Zab ?_
 refine Zar (b := bb) (o := 0 + 1) (r := Zc2 mb) rfl h2.obj ZcH ZcG rfl ?_
 refine Znf (b := mb) (es := Zea (Zbc fs)) rfl h2.map (Zds _) ZdF fun arr c ib σ3 hM hui hni hib hpin hit huib hB3 => ?_
 refine Zaf ?_
 apply ZaP 0 3 4 22
 iterate 4 ·simp only [EV,Nat.reduceEqDiff,↓reduceIte,he];try rfl
 clear he e
 intro e he
 have hkeys := Zj7 h hM
 have hibN : Za0 σ ib := Za0.of ⟨hni, hui⟩ hE2
 have hmbu : σ.used mb := h.umap
 have htwib : tw ≠ ib := fun q => by rw [q, hni] at htw2; cases htw2
 have htwmb : tw ≠ mb := fun q => htwN.2 (by rw [q]; exact hmbu)
 refine ZaZ (fun env υ => ∃ done S2, (env 0 = ptr bb 0 /\ env 3 = ptr bb2 0 /\ env 4 = Zc2 tw) /\ Ext σ υ /\ DAt υ bb2 S2 (done.map (·.2)) [] size mb2 (.lst none 0 0 []) /\ υ.blk tw = some (.map (ZeD (prs done))) /\ (∀ x, S2 x -> Za0 σ x /\ υ.used x /\ x ≠ tw) /\ (∀ q ∈ done, q.1 ∈ fs /\ q.2.nm = q.1.nm /\ q.2.d = q.1.d) /\ (done.map (·.1)).Perm fs) ?_ ?_
 ·refine ZaT ?_
  refine ZaV (fun μ env υ => ∃ done seen D S2, μ = (leftOf arr seen).size /\ (env 0 = ptr bb 0 /\ env 3 = ptr bb2 0 /\ env 4 = Zc2 tw /\ env 22 = ptr ib 0) /\ Zrd σ fs arr c mb ib tw bb2 mb2 size υ done seen D S2) ⟨_, [], #[], [], _, rfl, he, .nil arr, rfl, fun q hq => (by cases hq), (h1.ext hX2).but hB3 fun x hx q => ?_, fun x hx => ?_, hB3.keep _ _ htwmb htw2, hB3.used _ hutw2, hit, huib, hpin, hE2.but.trans hB3⟩ ?_
  ·rcases hx with rfl | rfl
   ·exact hnb.2 (by rw [q]; exact hmbu)
   ·exact hnm.2 (by rw [q]; exact hmbu)
  ·have hx2 : σ1.used x /\ Za0 σ x /\ ∃ k, σ1.blk x = some k := by
    rcases hx with rfl | rfl
    ·exact ⟨h1.used, hnb, _, h1.obj⟩
    ·exact ⟨h1.umap, hnm, _, h1.map⟩
   obtain ⟨u1, u2, k, u3⟩ := hx2
   refine ⟨u2, hB3.used _ (hX2.used _ u1), fun q => hutw (by rw [<- q]; exact u1), fun q => ?_⟩
   have := hX2.keep _ _ u3
   rw [q, hni] at this
   cases this
  clear he e hpin hit huib hB3 h1 htw2 hutw2
  rintro _ e υ ⟨done, seen, D, S2, rfl, he, C⟩
  repeat refine Zac ?_
  first|refine Zaa ?_|refine Zad ?_
  refine Zow (b := mb) (ib := ib) (es := Zea (Zbc fs)) he.2.2.2 C.iter C.held hM (Zds _) (fun x hx => hM.2.1 _ (List.mem_map.2 ⟨x, hx, rfl⟩)) (Nat.le_refl _) (fun hz υ1 hmap hB1 => ?_) fun en hen υ1 hit1 hB1 => ?_
  ·refine Zab ?_
   refine Za8 (l := [vT false]) rfl rfl ?_
   refine Zaf ?_
   apply Zb6 0 3 4 22 24
   iterate 5 ·simp only [EV,Nat.reduceEqDiff,↓reduceIte,he];try rfl
   clear he e
   intro e he
   refine Zav (t := false) he.2.2.2.2 (fun hf => by cases hf) (fun _ => ?_)
   refine Zbe ?_
   have hperm := C.came.perm hM.2.2 hz
   have hp2 : (done.map fun q => (sV q.1.nm, pV q.1.b)).Perm (fs.map fun f => (sV f.nm, pV f.b)) := by
    rw [<- C.what]
    have e1 : (fs.map fun f => (sV f.nm, pV f.b)) = arr.toList.map fun e : MapEntry => (e.key, e.val) := by
     rw [hM.1]
     unfold Zea Zbc
     rw [List.map_map]
     rfl
    rw [e1]
    exact hperm.map _
   have hnd1 : (done.map (·.1)).Nodup := by
    have : (done.map fun q => (sV q.1.nm, pV q.1.b)).Nodup := by
     rw [hp2.nodup_iff]
     refine Zb8 (f := fun q : Value × Value => q.2) ?_
     rw [List.map_map]
     have hnd := h.nd
     rw [show ((fun q : Value × Value => q.2) ∘ fun f : Fl => (sV f.nm, pV f.b)) = pV ∘ fun f : Fl => f.b from rfl, <- List.map_map]
     generalize fs.map (fun f => f.b) = l at hnd
     clear hp2 hperm hB1 hmap C he
     induction l with
     | nil => exact .nil
     | cons a l ih =>
      rw [List.nodup_cons] at hnd
      refine List.nodup_cons.2 ⟨fun ha => ?_, ih hnd.2⟩
      obtain ⟨x, hx, e⟩ := List.mem_map.1 ha
      exact hnd.1 (ZnR e ▸ hx)
    have e3 : (done.map fun q => (sV q.1.nm, pV q.1.b)) = (done.map (·.1)).map fun f => (sV f.nm, pV f.b) := by rw [List.map_map]; rfl
    rw [e3] at this
    exact Zb8 this
   have hB4 : But (fun x => x = mb) σ υ1 := C.but.trans hB1
   refine ⟨rfl, done, S2, ⟨by simp only [EV,Nat.reduceEqDiff,↓reduceIte,he];try rfl, by simp only [EV,Nat.reduceEqDiff,↓reduceIte,he];try rfl, by simp only [EV,Nat.reduceEqDiff,↓reduceIte,he];try rfl⟩, ⟨fun x k hk => ?_, hB4.used⟩, C.disk.but hB1 fun x hx q => (C.newS x hx).1.2 (by rw [q]; exact hmbu), hB1.keep _ _ htwmb C.twin, fun x hx => ⟨(C.newS x hx).1, hB1.used _ (C.newS x hx).2.1, (C.newS x hx).2.2.1⟩, C.each, ?_⟩
   ·by_cases hx : x = mb
    ·rw [hx] at hk ⊢
     rw [hmap, <- hk, h.map]
    ·exact hB4.keep _ _ hx hk
   ·refine (List.perm_ext_iff_of_nodup hnd1 (Zb8 h.nn)).2 fun f => ⟨fun hf => ?_, fun hf => ?_⟩
    ·obtain ⟨q, hq, rfl⟩ := List.mem_map.1 hf
     exact (C.each q hq).1
    ·have hm : (sV f.nm, pV f.b) ∈ done.map fun q => (sV q.1.nm, pV q.1.b) := hp2.mem_iff.2 (List.mem_map.2 ⟨f, hf, rfl⟩)
     obtain ⟨q, hq, e⟩ := List.mem_map.1 hm
     injection e with _ e
     exact List.mem_map.2 ⟨q, hq, h.uniq (C.each q hq).1 hf (ZnR e)⟩
  ·obtain ⟨m1, m2⟩ := mem_left hen
   obtain ⟨f, hf, hek, hev⟩ := Zj8 hM m1
   have hC1 := C.came.push hen
   have hnot : ∀ q ∈ done, q.1.nm ≠ f.nm := fun q hq hqn => by
    have : (sV q.1.nm, pV q.1.b) ∈ D.map fun e : MapEntry => (e.key, e.val) := by
     rw [C.what]
     exact List.mem_map.2 ⟨q, hq, rfl⟩
    obtain ⟨x, hx, e⟩ := List.mem_map.1 this
    injection e with e1 _
    have hxe : x = en := Zjt hkeys (C.came.sub x hx) m1 (by rw [e1, hek, hqn])
    have hnd := hC1.nd
    rw [List.map_append, List.nodup_append] at hnd
    exact hnd.2.2 x.born (List.mem_map.2 ⟨x, hx, rfl⟩) en.born (by simp) (by rw [hxe])
   have hnotb : ∀ q ∈ done, q.1.b ≠ f.b := fun q hq e => hnot q hq (by rw [h.uniq (C.each q hq).1 hf e])
   refine Zab ?_
   refine Za8 (l := [vT true, .raw en.key, .raw en.val]) rfl rfl ?_
   refine Zaf ?_
   apply Zb6 0 3 4 22 24
   iterate 5 ·simp only [EV,Nat.reduceEqDiff,↓reduceIte,he];try rfl
   clear he e
   intro e he
   refine Zav (t := true) he.2.2.2.2 (fun _ => ?_) (fun hf => by cases hf)
   refine Zaz ?_
   refine ZaT ?_
   have hheld1 : υ1.blk mb = some (.map (Zfd arr c)) := hB1.keep _ _ (fun q => hibN.2 (by rw [<- q]; exact hmbu)) C.held
   repeat refine Zac ?_
   first|refine Zaa ?_|refine Zad ?_
   refine Zov (b := mb) (ib := ib) (e := en) (kv := .raw (sV f.nm)) (vv := ptr f.b 0) he.2.2.2.1 hit1 hheld1 m1 hM.2.2 (by rw [hek]; rfl) (by rw [hev]; rfl) (fun w B => ZaY _) (fun w B => ZaY _) ?_
   refine Zab ?_
   refine Za8 (l := [.raw (sV f.nm), ptr f.b 0]) rfl rfl ?_
   refine Zab ?_
   refine Za8 (l := [.raw (sV f.nm), ptr f.b 0]) rfl rfl ?_
   refine Zab (Zae rfl (by simp only [EV,Nat.reduceEqDiff,↓reduceIte,he];try rfl) ?_)
   refine Zab (Zae rfl (by simp only [EV,Nat.reduceEqDiff,↓reduceIte,he];try rfl) ?_)
   refine Zaf ?_
   apply ZdN 0 3 4 5 6 22
   iterate 6 ·simp only [EV,Nat.reduceEqDiff,↓reduceIte,he];try rfl
   clear he e
   intro e he
   have hB01 : But (fun x => x = mb \/ x = ib) σ υ1 := (C.but.sub fun x hx => .inl hx).trans (hB1.sub fun x hx => .inr hx)
   have hfb := h.files_but hB01 fun x hx => by
    rcases hx with rfl | rfl
    ·exact .inr rfl
    ·exact .inl hibN.1
   obtain ⟨p1, p3⟩ := hfb f hf
   repeat refine Zac ?_
   first|refine Zaa ?_|refine Zad ?_
   refine Zab (Zae rfl he.2.2.1 ?_)
   refine Zab (Zae rfl he.2.2.2.2.1 ?_)
   refine Zab (Zae rfl he.2.2.2.2.1 ?_)
   refine Zab ?_
   refine Zak (v := ptr f.b 0) rfl rfl ?_
   refine Zab ?_
   refine Zag (b := f.b) (o := 0) rfl Zes rfl ?_
   refine Zab ?_
   refine Zar (b := f.b) (o := 0 + 0) (r := f.v) rfl p1 ZbO ZaJ rfl ?_
   refine Zab ?_
   refine Zao (vs := [f.v]) (by simp only [List.map_cons, List.map_nil, EV,Nat.reduceEqDiff,↓reduceIte,he];try rfl) ?_
   refine Ziz p3 (hfl f hf) _ fun v2 υ2 hv2 hX12 hn2 => ?_
   refine Zab ?_
   refine Za4 (vs := [v2]) (cells := [v2]) (by simp only [List.map_cons, List.map_nil, EV,Nat.reduceEqDiff,↓reduceIte,he]; try rfl) Zlw Zlx (ZqF rfl hv2.oneV.2) ?_
   refine Zab ?_
   refine Zdq (cs := [v2]) (v := .agg [v2]) rfl rfl fun nb υ3 hnn3 hnu3 hb3 hub3 hX23 => ?_
   have hX13 := hX12.trans hX23
   have htw3 : υ3.blk tw = some (.map (ZeD (prs done))) := hX13.keep _ _ (hB1.keep _ _ htwib C.twin)
   refine Zab ?_
   refine ZlY (k := f.b) (n := nb) (es := prs done) (m := 0) (b := tw) (cs := [f.v]) (tk := 78) rfl rfl rfl htw3 Zj5 ZdG ZgE (hX13.keep _ _ p1) (fun p hp => ?_) (fun p hp => ?_) fun υ4 htw4 k4 => ?_
   ·obtain ⟨q, hq, rfl⟩ := List.mem_map.1 hp
    exact ⟨_, _, hX13.keep _ _ (hfb q.1 (C.each q hq).1).1⟩
   ·obtain ⟨q, hq, rfl⟩ := List.mem_map.1 hp
    exact hnotb q hq
   refine Zaf ?_
   have htwu : υ1.used tw := hB1.used _ C.utw
   have hnbtw : nb ≠ tw := fun q => hnu3 (by rw [q]; exact hX12.used _ htwu)
   have hd1 := C.disk.but hB1 fun x hx q => (C.newS x hx).2.2.2 q
   have hd4 : DAt υ4 bb2 S2 (done.map (·.2)) [] size mb2 (.lst none 0 0 []) := (hd1.ext hX13).but k4 fun x hx q => (C.newS x hx).2.2.1 q
   have hfb4 : υ4.blk f.b = some (.own 78 [f.v]) := k4.keep _ _ (fun q => Zcq (hX13.keep _ _ p1) htw3 q) (hX13.keep _ _ p1)
   have hnb4 : υ4.blk nb = some (.own 78 [v2]) := k4.keep _ _ hnbtw hb3
   have hv4 : Hd υ4 5 1 v2 f.d.length (bys f.d) := (hv2.ext hX23).but k4 fun x hx q => by
    obtain ⟨all, hall⟩ := (hv2.ext hX23).blk hx
    exact Zcq hall htw3 q
   apply ZdN 0 3 4 5 6 22
   iterate 6 ·simp only [EV,Nat.reduceEqDiff,↓reduceIte,he];try rfl
   clear he e
   intro e he
   refine ZcS ?_
   refine ⟨[0, 1, 2, 4, 5, 6, 3, 7, 8], [[], [0], [0, 1], [0, 1, 2], [], [], [], [5, 6], [0, 1, 2, 3, 4, 5, 6, 7]], fun _ => True, [3], [7], [], by kernel_rfl, ?_⟩
   apply Zai
   case hi => simp only [HIX]; try rfl
   case hw => rfl
   case how => rfl
   refine Zae rfl he.2.1 ?_
   refine Zaq ?_
   apply Zai
   case hi => simp only [HIX]; try rfl
   case hw => rfl
   case how => rfl
   refine Zak (v := ptr bb2 0) rfl rfl ?_
   refine Zaq ?_
   apply Zai
   case hi => simp only [HIX]; try rfl
   case hw => rfl
   case how => rfl
   refine Zag (b := bb2) (o := 0) rfl Zbn rfl ?_
   refine Zaq ?_
   apply Zai
   case hi => simp only [HIX]; try rfl
   case hw => rfl
   case how => rfl
   refine Zae rfl he.2.2.2.1 ?_
   refine Zaq ?_
   apply Zai
   case hi => simp only [HIX]; try rfl
   case hw => rfl
   case how => rfl
   refine Zae rfl he.2.2.1 ?_
   refine Zaq ?_
   apply Zai
   case hi => simp only [HIX]; try rfl
   case hw => rfl
   case how => rfl
   refine Zae rfl he.2.2.2.2.1 ?_
   refine Zaq ?_
   apply Zai
   case hi => simp only [HIX]; try rfl
   case hw => rfl
   case how => rfl
   refine Zar (b := bb2) (o := 0 + 1) (r := Zc2 mb2) rfl hd4.obj ZcH ZcG rfl ?_
   refine Zaq ?_
   have hprn : ((prs done ++ [(f.b, nb)]).map (·.1)).Nodup := by
    rw [List.map_append, List.nodup_append]
    refine ⟨?_, by simp, fun a ha b hb e => ?_⟩
    ·rw [List.map_map]
     have hw := C.what
     have hnd2 : (D.map fun e : MapEntry => (e.key, e.val)).Nodup := by
      refine Zb8 (f := fun q : Value × Value => q.1) ?_
      rw [List.map_map]
      have hk2 := hkeys
      have hnd := C.came.nd
      have hsub := C.came.sub
      clear hw hC1 hnot C he
      induction D with
      | nil => exact .nil
      | cons x D ih =>
       rw [List.map_cons, List.nodup_cons] at hnd ⊢
       refine ⟨fun hx => ?_, ih hnd.2 fun y hy => hsub y (List.mem_cons_of_mem _ hy)⟩
       obtain ⟨y, hy, e⟩ := List.mem_map.1 hx
       have := Zjt hkeys (hsub y (List.mem_cons_of_mem _ hy)) (hsub x List.mem_cons_self) e
       exact hnd.1 (List.mem_map.2 ⟨y, hy, by rw [this]⟩)
     rw [hw] at hnd2
     have hall : ∀ q ∈ done, q.1 ∈ fs := fun q hq => (C.each q hq).1
     clear hw hC1 hnot hnotb C he hd1 hd4 htw3 htw4
     induction done with
     | nil => exact .nil
     | cons q l ih =>
      rw [List.map_cons, List.nodup_cons] at hnd2 ⊢
      refine ⟨fun hx => ?_, ih hnd2.2 fun y hy => hall y (List.mem_cons_of_mem _ hy)⟩
      obtain ⟨y, hy, e⟩ := List.mem_map.1 hx
      have := h.uniq (hall y (List.mem_cons_of_mem _ hy)) (hall q List.mem_cons_self) e
      exact hnd2.1 (List.mem_map.2 ⟨y, hy, by rw [this]⟩)
    ·simp at hb
     subst hb
     rw [List.map_map] at ha
     obtain ⟨q, hq, rfl⟩ := List.mem_map.1 ha
     exact hnotb q hq e
   apply Zai
   case hi => simp only [HIX]; try rfl
   case hw => rfl
   case how => rfl
   refine ZiJ (k := f.b) (n := nb) (es := prs done ++ [(f.b, nb)]) (m := 0) (b := tw) (cs := [f.v]) (tk := 78) rfl rfl htw4 Zj5 ZdG ZgE hfb4 (fun p hp => ?_) (ZhI hprn (List.mem_append_right _ List.mem_cons_self)) ?_
   ·rcases List.mem_append.1 hp with hp | hp
    ·obtain ⟨q, hq, rfl⟩ := List.mem_map.1 hp
     have q1 := hX13.keep _ _ (hfb q.1 (C.each q hq).1).1
     exact ⟨_, _, k4.keep _ _ (fun e => Zcq q1 htw3 e) q1⟩
    ·rw [List.mem_singleton.1 hp]
     exact ⟨_, _, hfb4⟩
   refine Zaq ?_
   apply Zai
   case hi => simp only [HIX]; try rfl
   case hw => rfl
   case how => rfl
   refine Zgz (k := f.nm) (n := nb) (es := Zbc (done.map (·.2))) (b := mb2) rfl rfl rfl hd4.map ZdF ZcW fun υ5 hm5 k5 => ?_
   refine ⟨(fun hf => by cases hf), ?_⟩
   refine Zcg ?_
   have hnbS : ¬ S2 nb := fun hs => hnu3 (hX12.used _ (hB1.used _ (C.newS nb hs).2.1))
   have hvS : ∀ x, hbk v2 = some x -> ¬ S2 x := fun x hx hs => (hn2 x hx).2 (hB1.used _ (C.newS x hs).2.1)
   have hnm2 : ∀ g ∈ done.map (·.2), g.nm ≠ f.nm := fun g hg => by
    obtain ⟨q, hq, rfl⟩ := List.mem_map.1 hg
    rw [(C.each q hq).2.1]
    exact hnot q hq
   have hnbm : nb ≠ mb2 := fun q => by
    have := hd4.map
    rw [<- q, hnb4] at this
    cases this
   have h5 := hd4.addG (τ := υ5) (nb := nb) (nm := f.nm) (v := v2) (d := f.d) hnbS (k5.sub fun x hx => .inl hx) (k5.keep _ _ hnbm hnb4) (k5.used _ (k4.used _ hub3)) (by rw [hm5, Zhu nb hnm2]; unfold Zbc; rw [List.map_append]; rfl) (hv4.but k5 fun x hx q => by
    obtain ⟨all, hall⟩ := hv4.blk hx
    exact Zcq hall hd4.map q) hnm2 hvS
   have hB05 : But (fun x => x = mb \/ x = ib \/ x = tw \/ x = mb2) σ υ5 := (((hB01.sub fun x hx => by
    rcases hx with hx | hx
    ·exact .inl hx
    ·exact .inr (.inl hx)).trans hX13.but).trans (k4.sub fun x hx => .inr (.inr (.inl hx)))).trans (k5.sub fun x hx => .inr (.inr (.inr hx)))
   have hB05' : But (fun x => x = mb) σ υ5 := ⟨fun x k hx hk => hB05.keep _ _ (fun q => by
    rcases q with q | q | q | q
    ·exact hx q
    ·rw [q, hibN.1] at hk; cases hk
    ·rw [q, htwN.1] at hk; cases hk
    ·rw [q, hnm.1] at hk; cases hk) hk, hB05.used⟩
   have hU3 : ∀ x, (x = mb \/ x = ib) -> υ1.used x := fun x hx => by
    rcases hx with rfl | rfl
    ·exact hB01.used _ hmbu
    ·exact hB1.used _ C.uib
   show ∃ n', n' < _ /\ _
   refine ⟨_, left_shrinks arr seen en hen, done ++ [(f, ⟨f.nm, nb, v2, f.d⟩)], seen.push en.born, D ++ [en], fun x => S2 x \/ x = nb \/ hbk v2 = some x, rfl, ⟨by simp only [EV,Nat.reduceEqDiff,↓reduceIte,he];try rfl, by simp only [EV,Nat.reduceEqDiff,↓reduceIte,he];try rfl, by simp only [EV,Nat.reduceEqDiff,↓reduceIte,he];try rfl, by simp only [EV,Nat.reduceEqDiff,↓reduceIte,he];try rfl⟩, hC1, ?_, fun q hq => ?_, ?_, fun x hx => ?_, ?_, k5.used _ (k4.used _ (hX13.used _ htwu)), ?_, k5.used _ (k4.used _ (hX13.used _ (hB1.used _ C.uib))), ?_, hB05'⟩
   ·rw [List.map_append, List.map_append, C.what, List.map_cons, List.map_cons, hek, hev]
    rfl
   ·rcases List.mem_append.1 hq with hq | hq
    ·exact C.each q hq
    ·rw [List.mem_singleton.1 hq]
     exact ⟨hf, rfl, rfl⟩
   ·rw [List.map_append]
    exact h5
   ·have hu5 : ∀ y, υ3.used y -> υ5.used y := fun y hy => k5.used _ (k4.used _ hy)
    rcases hx with hx | rfl | hx
    ·obtain ⟨g1, g2, g3, g4⟩ := C.newS x hx
     exact ⟨g1, hu5 _ (hX13.used _ (hB1.used _ g2)), g3, g4⟩
    ·exact ⟨Zl5 (hB01.trans hX12.but) (fun y hy => hX12.used _ (hU3 y hy)) ⟨hnn3, hnu3⟩, hu5 _ hub3, hnbtw, fun q => hnu3 (by rw [q]; exact hX12.used _ (hB1.used _ C.uib))⟩
    ·refine ⟨Zl5 hB01 hU3 (hn2 x hx), hu5 _ (hX23.used _ (hv2.used hx)), fun q => (hn2 x hx).2 (by rw [q]; exact htwu), fun q => (hn2 x hx).2 (by rw [q]; exact hB1.used _ C.uib)⟩
   ·rw [k5.keep _ _ (fun q => ?_) htw4]
    ·unfold prs
     rw [List.map_append]
     rfl
    ·exact absurd (C.newS mb2 C.disk.own.2.1).2.2.1 (fun hne => hne q.symm)
   ·refine k5.keep _ _ (fun q => (C.newS mb2 C.disk.own.2.1).2.2.2 q.symm) (k4.keep _ _ (fun q => htwib q.symm) (hX13.keep _ _ hit1))
   ·refine k5.keep _ _ (fun q => ?_) (k4.keep _ _ (fun q => htwmb q.symm) (hX13.keep _ _ hheld1))
    exact hnm.2 (by rw [<- q]; exact hmbu)
 clear he e hpin hit huib hB3 h1 htw2 hutw2
 rintro e υ ⟨done, S2, he, hX, hd, htw, hnS, heach, hperm⟩
 have hprn : ((prs done).map (·.1)).Nodup := by
  unfold prs
  rw [List.map_map, show ((fun x : Nat × Nat => x.1) ∘ fun q : Fl × Fl => (q.1.b, q.2.b)) = (fun f : Fl => f.b) ∘ fun q : Fl × Fl => q.1 from rfl, <- List.map_map]
  exact ((hperm.map _).nodup_iff).2 h.nd
 have htr : ∀ p ∈ pcs, ∃ q ∈ done, q.1.b = p.1 /\ ZfU (prs done) p.1 = some q.2.b := fun p hp => by
  obtain ⟨f, hf, hfb⟩ := h.inn p hp
  obtain ⟨q, hq, rfl⟩ := List.mem_map.1 (hperm.mem_iff.2 hf)
  exact ⟨q, hq, hfb, ZhI hprn (List.mem_map.2 ⟨q, hq, by rw [hfb]⟩)⟩
 have htwfix : ∀ x, S2 x -> Za0 σ x /\ υ.used x /\ x ≠ tw := hnS
 have h3 := h.ext hX
 repeat refine Zac ?_
 first|refine Zaa ?_|refine Zad ?_
 refine Zab (Zae rfl he.1 ?_)
 refine Zab ?_
 refine Zak (v := ptr bb 0) rfl rfl ?_
 refine Zab ?_
 refine Zag (b := bb) (o := 0) rfl Zbn rfl ?_
 refine Zab ?_
 refine Zag (b := bb) (o := 0 + 0) rfl Zco rfl ?_
 refine Zab ?_
 refine Zar (b := bb) (o := 0 + 0 + 0) (r := pv) rfl h3.obj Zdi Zcp rfl ?_
 refine Zab ?_
 refine ZbS rfl h3.pc rfl ZbW ?_
 refine Zab (Zae rfl (by simp only [EV,Nat.reduceEqDiff,↓reduceIte,he];try rfl) ?_)
 refine Zaf ?_
 apply Zb6 3 4 49 50 51
 iterate 5 ·simp only [EV,Nat.reduceEqDiff,↓reduceIte,he];try rfl
 clear he e
 intro e he
 refine ZaD ?_
 refine ZaV (fun μ env υ => ∃ (i : Nat) (S3 : Nat -> Prop) (pv3 : AV), μ = pcs.length - i /\ i <= pcs.length /\ (env 3 = ptr bb2 0 /\ env 4 = Zc2 tw /\ env 49 = pv /\ env 50 = vI pcs.length /\ env 51 = vI i) /\ Ext σ υ /\ DAt υ bb2 S3 (done.map (·.2)) ((pcs.take i).map fun p => ((ZfU (prs done) p.1).getD 0, p.2)) size mb2 pv3 /\ (∀ x, S3 x -> Za0 σ x /\ υ.used x /\ x ≠ tw) /\ υ.blk tw = some (.map (ZeD (prs done)))) ⟨_, 0, S2, .lst none 0 0 [], rfl, Nat.zero_le _, he, hX, hd, hnS, htw⟩ ?_
 clear he e hX hd hnS htw h3 htwfix
 rintro _ e υ ⟨i, S3, pv3, rfl, hi, he, hX, hd, hnS, htw⟩
 repeat refine Zac ?_
 first|refine Zaa ?_|refine Zad ?_
 refine Zab ?_
 refine Zbs i pcs.length he.2.2.2.2 he.2.2.2.1 ?_
 refine Zaf ?_
 apply ZdN 3 4 49 50 51 52
 iterate 6 ·simp only [EV,Nat.reduceEqDiff,↓reduceIte,he];try rfl
 clear he e
 intro e he
 refine Zav (t := decide (i < pcs.length)) he.2.2.2.2.2 (fun ht => ?_) (fun ht => ?_)
 ·have hlt : i < pcs.length := of_decide_eq_true ht
  have h3 := h.ext hX
  have hpi := List.getElem_mem hlt
  obtain ⟨q, hq, hqb, hqg⟩ := htr _ hpi
  refine Zaz ?_
  refine ZaD ?_
  repeat refine Zac ?_
  first|refine Zaa ?_|refine Zad ?_
  refine Zab ?_
  refine Zbb (k := .i64) (j := i) he.2.2.1 he.2.2.2.2.1 ZbW Zbu h3.pc hlt fun b hb => ?_
  refine Zab ?_
  refine Zjk rfl h3.pc hb hlt Zfb Zbu ?_
  rw [ZhB hlt]
  generalize hpe : pcs[i] = p at hpi hqb hqg
  refine Zab ?_
  refine Zd0 ZdE rfl fun b8 υ8 hn8 hu8 hb8 hub8 hX8 => ?_
  refine Zab ?_
  refine Zd1 (b := b8) (o := 0) (u := pcV p) (cs' := [ptr p.1 0, .raw (.int .i64 (p.2 : Int))]) rfl rfl hb8 Zbu rfl rfl fun υ9 hb9 k9 => ?_
  refine Zaf ?_
  have hX9 : Ext υ υ9 := But.ext hX8 (fun g hg => by rw [hg]; exact hn8) k9
  have hd9 := hd.ext hX9
  have htw9 := hX9.keep _ _ htw
  have hX09 := hX.trans hX9
  apply ZdN 3 4 8 49 50 51
  iterate 6 ·simp only [EV,Nat.reduceEqDiff,↓reduceIte,he];try rfl
  clear he e
  intro e he
  refine ZcS ?_
  refine ⟨[0, 1, 2, 3, 4, 6, 7, 10, 5, 8, 11, 9, 12, 13, 14, 15, 16, 17, 18], [[], [], [1], [1, 2], [1, 2, 3], [1, 2, 3, 4], [], [], [7], [6, 7, 8], [], [10], [6, 7, 8, 9, 10, 11], [6, 7, 8, 9, 10, 11, 12], [1, 2, 3, 4, 5, 6, 7, 8, 9, 10, 11, 12, 13], [0, 1, 2, 3, 4, 5, 6, 7, 8, 9, 10, 11, 12, 13, 14], [0, 1, 2, 3, 4, 5, 6, 7, 8, 9, 10, 11, 12, 13, 14, 15], [0, 1, 2, 3, 4, 5, 6, 7, 8, 9, 10, 11, 12, 13, 14, 15, 16], [0, 1, 2, 3, 4, 5, 6, 7, 8, 9, 10, 11, 12, 13, 14, 15, 16, 17]], fun _ => True, [5, 11], [9], [], by kernel_rfl, ?_⟩
  apply Zai
  case hi => simp only [HIX]; try rfl
  case hw => rfl
  case how => rfl
  refine Zae rfl he.1 ?_
  refine Zaq ?_
  apply Zai
  case hi => simp only [HIX]; try rfl
  case hw => rfl
  case how => rfl
  refine Zae rfl he.1 ?_
  refine Zaq ?_
  apply Zai
  case hi => simp only [HIX]; try rfl
  case hw => rfl
  case how => rfl
  refine Zak (v := ptr bb2 0) rfl rfl ?_
  refine Zaq ?_
  apply Zai
  case hi => simp only [HIX]; try rfl
  case hw => rfl
  case how => rfl
  refine Zag (b := bb2) (o := 0) rfl Zbn rfl ?_
  refine Zaq ?_
  apply Zai
  case hi => simp only [HIX]; try rfl
  case hw => rfl
  case how => rfl
  refine Zag (b := bb2) (o := 0 + 0) rfl Zco rfl ?_
  refine Zaq ?_
  apply Zai
  case hi => simp only [HIX]; try rfl
  case hw => rfl
  case how => rfl
  refine Zae rfl he.2.1 ?_
  refine Zaq ?_
  apply Zai
  case hi => simp only [HIX]; try rfl
  case hw => rfl
  case how => rfl
  refine Zag (b := b8) (o := 0) he.2.2.1 ZdD rfl ?_
  refine Zaq ?_
  apply Zai
  case hi => simp only [HIX]; try rfl
  case hw => rfl
  case how => rfl
  refine Zag (b := b8) (o := 0) he.2.2.1 ZdD rfl ?_
  refine Zaq ?_
  apply Zai
  case hi => simp only [HIX]; try rfl
  case hw => rfl
  case how => rfl
  refine Zar (b := bb2) (o := 0 + 0 + 0) (r := pv3) rfl hd9.obj Zdi Zcp rfl ?_
  refine Zaq ?_
  apply Zai
  case hi => simp only [HIX]; try rfl
  case hw => rfl
  case how => rfl
  refine Zar (b := b8) (o := 0 + 0) (r := ptr p.1 0) rfl hb9 ZgB ZgA rfl ?_
  refine Zaq ?_
  apply Zai
  case hi => simp only [HIX]; try rfl
  case hw => rfl
  case how => rfl
  refine Zar (b := b8) (o := 0 + 1) (r := .raw (.int .i64 (p.2 : Int))) rfl hb9 Zck Zcc rfl ?_
  refine Zaq ?_
  obtain ⟨fp, hfp, hfpb⟩ := h.inn p hpi
  apply Zai
  case hi => simp only [HIX]; try rfl
  case hw => rfl
  case how => rfl
  refine ZiJ (k := p.1) (n := q.2.b) (es := prs done) (m := 0) (b := tw) (cs := [fp.v]) (tk := 78) rfl rfl htw9 Zj5 ZdG ZgE (hX09.keep _ _ (by rw [<- hfpb]; exact (h.file fp hfp).1)) (fun r hr => ?_) hqg ?_
  ·obtain ⟨q', hq', rfl⟩ := List.mem_map.1 hr
   exact ⟨_, _, hX09.keep _ _ (h.file q'.1 (heach q' hq').1).1⟩
  refine Zaq ?_
  apply Zai
  case hi => simp only [HIX]; try rfl
  case hw => rfl
  case how => rfl
  refine Za4 (vs := [ptr q.2.b 0, .raw (.int .i64 (p.2 : Int))]) (cells := [ptr q.2.b 0, .raw (.int .i64 (p.2 : Int))]) (by simp only [List.map_cons, List.map_nil, EV,Nat.reduceEqDiff,↓reduceIte,he]; try rfl) ZdE Zly rfl ?_
  refine Zaq ?_
  apply Zai
  case hi => simp only [HIX]; try rfl
  case hw => rfl
  case how => rfl
  refine Zdr (vs := [pcV (q.2.b, p.2)]) (cells := [ptr q.2.b 0, .raw (.int .i64 (p.2 : Int))]) (by simp only [List.map_cons, List.map_nil, EV,Nat.reduceEqDiff,↓reduceIte,he];try rfl) ZbW Zbu ZdE rfl (by omega) rfl rfl fun rb υa hNa hXa => ?_
  refine ⟨(fun hf => by cases hf), ?_⟩
  have hda := hd9.ext hXa
  have hli : ((pcs.take i).map fun p => ((ZfU (prs done) p.1).getD 0, p.2)).length = i := by rw [List.length_map, List.length_take]; omega
  apply Zai
  case hi => simp only [HIX]; try rfl
  case hw => rfl
  case how => rfl
  refine Za9 (m := 1) (news := [ptr q.2.b 0, .raw (.int .i64 (p.2 : Int))]) (r := .lst (some ⟨rb, 0, none⟩) 1 1 ([ptr q.2.b 0, .raw (.int .i64 (p.2 : Int))] ++ [])) rfl rfl ZbW Zbu ZdE Zlz rfl (by omega) hda.pc (ZbY rfl (fun a ha => by
   simp only [List.mem_cons, List.not_mem_nil, or_false] at ha
   rcases ha with rfl | rfl <;> rfl) (fun q => by cases q)) (by unfold maxLen; omega) (by omega) fun pv4 υb hvb hBb hnb4 => ?_
  refine ⟨(fun hf => by cases hf), ?_⟩
  apply Zai
  case hi => simp only [HIX]; try rfl
  case hw => rfl
  case how => rfl
  refine Zak (v := ptr bb2 0) rfl rfl ?_
  refine Zaq ?_
  apply Zai
  case hi => simp only [HIX]; try rfl
  case hw => rfl
  case how => rfl
  refine Zag (b := bb2) (o := 0) rfl Zbn rfl ?_
  refine Zaq ?_
  apply Zai
  case hi => simp only [HIX]; try rfl
  case hw => rfl
  case how => rfl
  refine Zag (b := bb2) (o := 0 + 0) rfl Zco rfl ?_
  refine Zaq ?_
  apply Zai
  case hi => simp only [HIX]; try rfl
  case hw => rfl
  case how => rfl
  refine ZbQ (b := bb2) (o := 0 + 0 + 0) (v := pv4) rfl rfl (hBb.keep _ _ hda.pvB hda.obj) Zcp hvb.oneV (Nat.zero_lt_succ _) fun υc hbc kc => ?_
  refine ⟨(fun hf => by cases hf), ?_⟩
  refine Zcg ?_
  have hBc : But (fun c => c = bb2 \/ hbk pv3 = some c) υa υc := (hBb.sub fun c hc => .inr hc).trans (kc.sub fun c hc => .inl hc)
  have hpc : pcC ((pcs.take i).map fun p => ((ZfU (prs done) p.1).getD 0, p.2)) ++ [ptr q.2.b 0, .raw (.int .i64 (p.2 : Int))] = pcC (((pcs.take i).map fun p => ((ZfU (prs done) p.1).getD 0, p.2)) ++ [(q.2.b, p.2)]) := by rw [ZfE]; rfl
  have hvc : Hd υc 80 2 pv4 (((pcs.take i).map fun p => ((ZfU (prs done) p.1).getD 0, p.2)) ++ [(q.2.b, p.2)]).length (pcC (((pcs.take i).map fun p => ((ZfU (prs done) p.1).getD 0, p.2)) ++ [(q.2.b, p.2)])) := by
   rw [List.length_append, <- hpc]
   refine hvb.but kc fun c hc hq => ?_
   obtain ⟨all, hall⟩ := hvb.blk hc
   exact ZcM hall (hBb.keep _ _ hda.pvB hda.obj) (by decide) hq
  have hdc := hda.setP hBc hbc hvc fun r hr => by
   rcases List.mem_append.1 hr with hr | hr
   ·exact hda.inn r hr
   ·rw [List.mem_singleton.1 hr]
    exact ⟨q.2, List.mem_map.2 ⟨q, hq, rfl⟩, rfl⟩
  have hEc : Ext σ υc := But.ext (hX09.trans hXa) (fun c hc => (hnS c (hda.pvS hc)).1.1) hBc
  show Zay _ _ _ _ _ _
  refine Zad ?_
  refine Zab ?_
  refine ZaU i 1 he.2.2.2.2.2 rfl (by omega) ?_
  refine Zab (Zae rfl (by simp only [EV,Nat.reduceEqDiff,↓reduceIte,he];try rfl) ?_)
  refine Zaf ?_
  show ∃ n', n' < _ /\ _
  refine ⟨_, (by omega : pcs.length - (i + 1) < pcs.length - i), i + 1, fun x => S3 x \/ hbk pv4 = some x, pv4, rfl, hlt, ⟨by simp only [EV,Nat.reduceEqDiff,↓reduceIte,he];try rfl, by simp only [EV,Nat.reduceEqDiff,↓reduceIte,he];try rfl, by simp only [EV,Nat.reduceEqDiff,↓reduceIte,he];try rfl, by simp only [EV,Nat.reduceEqDiff,↓reduceIte,he];try rfl, by simp only [EV,Nat.reduceEqDiff,↓reduceIte,he];try rfl⟩, hEc, ?_, fun x hx => ?_, ?_⟩
  rotate_left
  ·rcases hx with hx | hx
   ·obtain ⟨g1, g2, g3⟩ := hnS x hx
    exact ⟨g1, hBc.used _ (hXa.used _ (hX9.used _ g2)), g3⟩
   ·rcases hnb4 x hx with g | g
    ·obtain ⟨g1, g2, g3⟩ := hnS x (hda.pvS (.inr g))
     exact ⟨g1, hBc.used _ (hXa.used _ (hX9.used _ g2)), g3⟩
    ·refine ⟨Za0.of g (hX09.trans hXa), hvc.used hx, fun e => ?_⟩
     have := hXa.keep _ _ htw9
     rw [<- e, g.1] at this
     cases this
  ·refine hBc.keep _ _ (fun g => (hnS tw (hda.pvS g)).2.2 rfl) (hXa.keep _ _ htw9)
  ·rw [List.take_succ_eq_append_getElem hlt, List.map_append, List.map_cons, List.map_nil, hpe, hqg]
   exact hdc
 ·have hke : i = pcs.length := by have := of_decide_eq_false ht; omega
  subst hke
  rw [List.take_length] at hd
  refine Zbe ?_
  show Zay _ _ _ _ _ _
  repeat refine Zac ?_
  first|refine Zaa ?_|refine Zad ?_
  refine Zab (Zae rfl he.1 ?_)
  refine Zab (Zae rfl (by simp only [EV,Nat.reduceEqDiff,↓reduceIte,he];try rfl) ?_)
  refine Zaf ?_
  refine Zax ?_
  show ∃ r, Zaj _ _ _ _ r /\ _
  exact ⟨_, Zal rfl rfl, hK υ bb2 S3 _ _ mb2 pv3 done hd hX (fun x hx => ⟨(hnS x hx).1, (hnS x hx).2.1⟩) ⟨rfl, hperm, fun q hq => (heach q hq).2, rfl⟩⟩
end
end Go.Proofs.Ytinpiaibhjmfaaa
