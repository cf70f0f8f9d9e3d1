/- XDc, XDt, XDtb, XDtc in one. -/
import Derived.Test.YtinpiaibhjmfaaaMd
import Derived.Test.YtinpiaibhjmfaaaDj
import Derived.Test.YtinpiaibhjmfaaaMc
namespace Go.Proofs.Ytinpiaibhjmfaaa
open Go.RowKit
set_option maxRecDepth 100000
set_option linter.unusedVariables false
set_option linter.unusedSimpArgs false
theorem Znv : Program.underlying Try.prog 86 = some (.map 76 76) := by kernel_rfl
theorem Zu5 {z0 v : AV} {pl : Nat -> Option (Nat × Nat)} (h0 : pl 0 = some (0, 1)) (hv : Zb7 v = true /\ v.cells = [v]) : ZcG pl [z0] ([0].zip [v]) = some [v] := by
 simp [ZcG, h0, hv.1, hv.2, ZaB]
section
variable {σ τ : St} {bb mb : Nat} {S : Nat -> Prop} {fs : List Fl} {pcs : List (Nat × Nat)} {size : Int} {pv : AV}
theorem DAt.addG (h : DAt σ bb S fs pcs size mb pv) {nb : Nat} {nm : List UInt8} {v : AV} {d : List UInt8} (hn : ¬ S nb) (k : But (fun c => c = mb \/ ¬ S c) σ τ) (hb : τ.blk nb = some (.own 78 [v])) (hu : τ.used nb) (hm : τ.blk mb = some (.map (Zei (ZaV (fs ++ [⟨nm, nb, v, d⟩]))))) (hv : Hd τ 5 1 v d.length (bys d)) (hnm : ∀ f ∈ fs, f.nm ≠ nm) (hvb : ∀ c, hbk v = some c -> ¬ S c) :
 DAt τ bb (fun c => S c \/ c = nb \/ hbk v = some c) (fs ++ [⟨nm, nb, v, d⟩]) pcs size mb pv := by
 obtain ⟨o1, o2, o3, o4⟩ := h.own
 have hkeep : ∀ b t cs, S b -> σ.blk b = some (.own t cs) -> τ.blk b = some (.own t cs) := fun b t cs hs hb' => k.keep _ _ (fun hq => by
  rcases hq with hq | hq
  ·exact ZbM hb' h.map hq
  ·exact hq hs) hb'
 have hkeepH : ∀ {e sz n : Nat} {u : AV} {cs : List AV}, Hd σ e sz u n cs -> (∀ c, hbk u = some c -> S c) -> Hd τ e sz u n cs := fun {e sz n u cs} hu' hs => hu'.but k fun c hc hq => by
  obtain ⟨all, hall⟩ := hu'.blk hc
  rcases hq with hq | hq
  ·exact ZbM hall h.map hq
  ·exact hq (hs c hc)
 have hold : ∀ f ∈ fs, f.b ≠ nb := fun f hf e => hn (by rw [<- e]; exact (o3 f hf).1)
 refine ⟨hkeep _ _ _ o1 h.obj, k.used _ h.used, hm, k.used _ h.umap, fun f hf => ?_, ?_, ?_, fun f hf g hg x hx hy => ?_, hkeepH h.pc o4, ⟨.inl o1, .inl o2, fun f hf => ?_, fun x hx => .inl (o4 x hx)⟩, fun p hp => ?_⟩
 ·rcases List.mem_append.1 hf with hf | hf
  ·obtain ⟨q1, q2, q3⟩ := h.file f hf
   exact ⟨hkeep _ _ _ (o3 f hf).1 q1, k.used _ q2, hkeepH q3 (o3 f hf).2⟩
  ·rw [List.mem_singleton.1 hf]
   exact ⟨hb, hu, hv⟩
 ·rw [List.map_append, List.nodup_append]
  refine ⟨h.nd, by simp, fun a ha b hb' e => ?_⟩
  obtain ⟨f, hf, rfl⟩ := List.mem_map.1 ha
  simp at hb'
  exact hold f hf (e.trans hb')
 ·rw [List.map_append, List.nodup_append]
  refine ⟨h.nn, by simp, fun a ha b hb' e => ?_⟩
  obtain ⟨f, hf, rfl⟩ := List.mem_map.1 ha
  simp at hb'
  exact hnm f hf (e.trans hb')
 ·rcases List.mem_append.1 hf with hf | hf
  ·rcases List.mem_append.1 hg with hg | hg
   ·exact h.far f hf g hg x hx hy
   ·rw [List.mem_singleton.1 hg] at hy
    exact absurd ((o3 f hf).2 x hx) (hvb x hy)
  ·rcases List.mem_append.1 hg with hg | hg
   ·rw [List.mem_singleton.1 hf] at hx
    exact absurd ((o3 g hg).2 x hy) (hvb x hx)
   ·rw [List.mem_singleton.1 hf, List.mem_singleton.1 hg]
 ·rcases List.mem_append.1 hf with hf | hf
  ·exact ⟨.inl (o3 f hf).1, fun x hx => .inl ((o3 f hf).2 x hx)⟩
  ·rw [List.mem_singleton.1 hf]
   exact ⟨.inr (.inl rfl), fun x hx => .inr (.inr hx)⟩
 ·obtain ⟨f, hf, e⟩ := h.inn p hp
  exact ⟨f, List.mem_append_left _ hf, e⟩
end
abbrev prs (done : List (Fl × Fl)) : List (Nat × Nat) := done.map fun q => (q.1.b, q.2.b)
structure Ziz (fs : List Fl) (pcs : List (Nat × Nat)) (fs2 : List Fl) (pcs2 : List (Nat × Nat)) (done : List (Fl × Fl)) : Prop where
 two : fs2 = done.map (·.2)
 one : (done.map (·.1)).Perm fs
 same : ∀ q ∈ done, q.2.nm = q.1.nm /\ q.2.d = q.1.d
 pcs : pcs2 = pcs.map fun p => ((Zhs (prs done) p.1).getD 0, p.2)
theorem Zmi {l : List MapEntry} (hn : (l.map (·.key)).Nodup) {x y : MapEntry} (hx : x ∈ l) (hy : y ∈ l) (e : x.key = y.key) : x = y := by
 induction l with
 | nil => cases hx
 | cons a l ih =>
  rw [List.map_cons, List.nodup_cons] at hn
  rcases List.mem_cons.1 hx with e1 | h1 <;> rcases List.mem_cons.1 hy with e2 | h2
  ·rw [e1, e2]
  ·exact absurd (List.mem_map.2 ⟨y, h2, by rw [<- e, e1]⟩) hn.1
  ·exact absurd (List.mem_map.2 ⟨x, h1, by rw [e, e2]⟩) hn.1
  ·exact ih hn.2 h1 h2
theorem Znw {s t : List UInt8} (h : sV s = sV t) : s = t := by
 unfold sV at h
 injection h with h
 injection h with h
 have := congrArg Array.toList h
 simpa using this
theorem ZrR {a b : Nat} (h : pV a = pV b) : a = b := by
 unfold pV at h
 injection h with h
 injection h with h
 injection h
section
variable {σ : St} {bb mb : Nat} {S : Nat -> Prop} {fs : List Fl} {pcs : List (Nat × Nat)} {size : Int} {pv : AV} {K : AV -> St -> Prop}
theorem Znx {arr : Array MapEntry} {c : Nat} (h : DAt σ bb S fs pcs size mb pv) (hM : Zjv arr c (Zei (ZaV fs))) : (arr.toList.map (·.key)).Nodup := by
 have e1 : arr.toList.map (·.key) = (arr.toList.map fun e : MapEntry => (e.key, e.val)).map (·.1) := by rw [List.map_map]; rfl
 rw [e1, hM.1]
 have e2 : (Zei (ZaV fs)).map (·.1) = (fs.map (·.nm)).map sV := by
  unfold Zei ZaV
  rw [List.map_map, List.map_map, List.map_map]
  rfl
 rw [e2]
 have hnn := h.nn
 generalize fs.map (·.nm) = l at hnn
 clear h hM e1 e2
 induction l with
 | nil => exact .nil
 | cons a l ih =>
  rw [List.nodup_cons] at hnn
  refine List.nodup_cons.2 ⟨fun ha => ?_, ih hnn.2⟩
  obtain ⟨x, hx, e⟩ := List.mem_map.1 ha
  exact hnn.1 (Znw e ▸ hx)
theorem Zny {arr : Array MapEntry} {c : Nat} (hM : Zjv arr c (Zei (ZaV fs))) {e : MapEntry} (he : e ∈ arr.toList) : ∃ f ∈ fs, e.key = sV f.nm /\ e.val = pV f.b := by
 have : (e.key, e.val) ∈ Zei (ZaV fs) := by
  rw [<- hM.1]
  exact List.mem_map.2 ⟨e, he, rfl⟩
 unfold Zei ZaV at this
 rw [List.map_map] at this
 obtain ⟨f, hf, hq⟩ := List.mem_map.1 this
 injection hq with q1 q2
 exact ⟨f, hf, q1.symm, q2.symm⟩
structure Zvy (σ : St) (fs : List Fl) (arr : Array MapEntry) (c mb ib tw bb2 mb2 : Nat) (size : Int) (υ : St) (done : List (Fl × Fl)) (seen : Array Nat) (D : List MapEntry) (S2 : Nat -> Prop) : Prop where
 came : Zrl arr seen D
 what : (D.map fun e : MapEntry => (e.key, e.val)) = done.map fun q => (sV q.1.nm, pV q.1.b)
 each : ∀ q ∈ done, q.1 ∈ fs /\ q.2.nm = q.1.nm /\ q.2.d = q.1.d
 disk : DAt υ bb2 S2 (done.map (·.2)) [] size mb2 (.lst none 0 0 [])
 newS : ∀ x, S2 x -> Zde σ x /\ υ.used x /\ x ≠ tw /\ x ≠ ib
 twin : υ.blk tw = some (.map (ZeR (prs done)))
 utw : υ.used tw
 iter : υ.blk ib = some (.map (Zku mb c seen c))
 uib : υ.used ib
 held : υ.blk mb = some (.map (Zgd arr c))
 but : But (fun x => x = mb) σ υ
theorem DAt.files_but {U : Nat -> Prop} {υ : St} (h : DAt σ bb S fs pcs size mb pv) (k : But U σ υ) (hU : ∀ x, U x -> σ.blk x = none \/ x = mb) : ∀ f ∈ fs, υ.blk f.b = some (.own 78 [f.v]) /\ Hd υ 5 1 f.v f.d.length (bys f.d) := fun f hf => by
 obtain ⟨q1, q2, q3⟩ := h.file f hf
 refine ⟨k.keep _ _ (fun hu => ?_) q1, q3.but k fun c hc hu => ?_⟩
 ·rcases hU _ hu with e | e
  ·rw [q1] at e; cases e
  ·exact ZbM q1 h.map e
 ·obtain ⟨all, hall⟩ := q3.blk hc
  rcases hU _ hu with e | e
  ·rw [hall] at e; cases e
  ·exact ZbM hall h.map e
theorem Zp5 {U : Nat -> Prop} {υ : St} {c : Nat} (hB : But U σ υ) (hU : ∀ x, U x -> υ.used x) (h : Zde υ c) : Zde σ c := by
 rcases Zix hB h with q | q
 ·exact absurd (hU c q) h.2
 ·exact q
set_option maxHeartbeats 4000000 in
theorem Zmj (h : DAt σ bb S fs pcs size mb pv) (hfl : ∀ f ∈ fs, f.d.length <= 1000000000) (hl : pcs.length <= 100000000)
 (hK : ∀ τ bb2 S2 fs2 pcs2 mb2 pv2 done, DAt τ bb2 S2 fs2 pcs2 size mb2 pv2 -> Ext σ τ -> (∀ x, S2 x -> Zde σ x /\ τ.used x) -> Ziz fs pcs fs2 pcs2 done -> K (ptr bb2 0) τ) : Zau Try.prog 18 [ptr bb 0] σ K := by
 refine ZaA ZaL Try.func18 rfl rfl rfl (Nat.le_of_ble_eq_true rfl) ?_
 refine ZdU 0 (v0 := ptr bb 0) rfl ?_
 intro e he
 first | refine Zaa ?_ | refine Zad ?_ | (refine Zac ?_; refine Zaa ?_) | (refine Zac ?_; refine Zac ?_; refine Zaa ?_)
 refine Zab (Zai rfl (by simp only [EV, Nat.reduceEqDiff, ↓reduceIte, he] <;> try rfl) ?_)
 refine Zah ?_
 apply ZdU 0
 ·simp only [EV, Nat.reduceEqDiff, ↓reduceIte, he] <;> try rfl
 clear he e
 intro e he
 first | refine Zaa ?_ | refine Zad ?_ | (refine Zac ?_; refine Zaa ?_) | (refine Zac ?_; refine Zac ?_; refine Zaa ?_)
 refine Zab (Zai rfl (by simp only [EV, Nat.reduceEqDiff, ↓reduceIte, he] <;> try rfl) ?_)
 refine Zab ?_
 refine Zas (vs := [ptr bb 0]) (by simp only [List.map_cons, List.map_nil, EV, Nat.reduceEqDiff, ↓reduceIte, he] <;> try rfl) ?_
 refine Zd7 h ?_
 refine Zab ?_
 with_reducible apply Zda
 case hx => simp only [EV, Nat.reduceEqDiff, ↓reduceIte, he] <;> try rfl
 refine Zah ?_
 apply ZcW 0 11
 ·simp only [EV, Nat.reduceEqDiff, ↓reduceIte, he] <;> try rfl
 ·simp only [EV, Nat.reduceEqDiff, ↓reduceIte, he] <;> try rfl
 clear he e
 intro e he
 refine ZaX (t := false) (by simp only [EV, Nat.reduceEqDiff, ↓reduceIte, he] <;> try rfl) (fun hf => by cases hf) (fun _ => ?_)
 refine Zbb ?_
 first | refine Zaa ?_ | refine Zad ?_ | (refine Zac ?_; refine Zaa ?_) | (refine Zac ?_; refine Zac ?_; refine Zaa ?_)
 refine Zab (Zai rfl (by simp only [EV, Nat.reduceEqDiff, ↓reduceIte, he] <;> try rfl) ?_)
 refine Zab ?_
 refine Zam (v := ptr bb 0) (by simp only [EV, Nat.reduceEqDiff, ↓reduceIte, he] <;> try rfl) rfl ?_
 refine Zab ?_
 refine Zae (b := bb) (o := 0) (by simp only [EV, Nat.reduceEqDiff, ↓reduceIte, he] <;> try rfl) Za3 rfl ?_
 refine Zab ?_
 refine Zar (b := bb) (o := 0 + 2) (r := .raw (.int .i64 size)) (by simp only [EV, Nat.reduceEqDiff, ↓reduceIte, he] <;> try rfl) h.obj Zek Zd5 rfl ?_
 refine Zab ?_
 refine Zas (vs := [.raw (.int .i64 size)]) (by simp only [List.map_cons, List.map_nil, EV, Nat.reduceEqDiff, ↓reduceIte, he] <;> try rfl) ?_
 refine ZpP fun bb2 mb2 σ1 h1 hE1 hnb hnm => ?_
 refine Zab ?_
 refine Zg5 (hm := Znv) fun tw hutw hntw => ?_
 have hX2 : Ext σ1 (σ1.put tw (.map [])) := Ext.put _ hntw
 have htw2 : (σ1.put tw (.map [])).blk tw = some (.map (ZeR [])) := ZaE _ _ _
 have hutw2 : (σ1.put tw (.map [])).used tw := .inr rfl
 generalize σ1.put tw (.map []) = σ2 at hX2 htw2 hutw2 ⊢
 refine Zab (Zai rfl (by simp only [EV, Nat.reduceEqDiff, ↓reduceIte, he] <;> try rfl) ?_)
 refine Zab (Zai rfl (by simp only [EV, Nat.reduceEqDiff, ↓reduceIte, he] <;> try rfl) ?_)
 refine Zah ?_
 apply ZcX 0 3 4
 ·simp only [EV, Nat.reduceEqDiff, ↓reduceIte, he] <;> try rfl
 ·simp only [EV, Nat.reduceEqDiff, ↓reduceIte, he] <;> try rfl
 ·simp only [EV, Nat.reduceEqDiff, ↓reduceIte, he] <;> try rfl
 clear he e
 intro e he
 have hE2 := hE1.trans hX2
 have h2 := h.ext hE2
 have htwN : Zde σ tw := Zde.of ⟨hntw, hutw⟩ hE1
 first | refine Zaa ?_ | refine Zad ?_ | (refine Zac ?_; refine Zaa ?_) | (refine Zac ?_; refine Zac ?_; refine Zaa ?_)
 refine Zab (Zai rfl (by simp only [EV, Nat.reduceEqDiff, ↓reduceIte, he] <;> try rfl) ?_)
 refine Zab ?_
 refine Zam (v := ptr bb 0) (by simp only [EV, Nat.reduceEqDiff, ↓reduceIte, he] <;> try rfl) rfl ?_
 refine Zab ?_
 refine Zae (b := bb) (o := 0) (by simp only [EV, Nat.reduceEqDiff, ↓reduceIte, he] <;> try rfl) Za3 rfl ?_
 refine Zab ?_
 refine Zar (b := bb) (o := 0 + 1) (r := Zbv mb) (by simp only [EV, Nat.reduceEqDiff, ↓reduceIte, he] <;> try rfl) h2.obj ZcN ZcM rfl ?_
 refine Zki (b := mb) (es := Zei (ZaV fs)) (by simp only [EV, Nat.reduceEqDiff, ↓reduceIte, he] <;> try rfl) h2.map (Zds _) Zd6 fun arr c ib σ3 hM hui hni hib hpin hit huib hB3 => ?_
 refine Zah ?_
 apply Zcm 0 3 4 22
 ·simp only [EV, Nat.reduceEqDiff, ↓reduceIte, he] <;> try rfl
 ·simp only [EV, Nat.reduceEqDiff, ↓reduceIte, he] <;> try rfl
 ·simp only [EV, Nat.reduceEqDiff, ↓reduceIte, he] <;> try rfl
 ·simp only [EV, Nat.reduceEqDiff, ↓reduceIte, he] <;> try rfl
 clear he e
 intro e he
 have hkeys := Znx h hM
 have hibN : Zde σ ib := Zde.of ⟨hni, hui⟩ hE2
 have hmbu : σ.used mb := h.umap
 have htwib : tw ≠ ib := fun q => by rw [q, hni] at htw2; cases htw2
 have htwmb : tw ≠ mb := fun q => htwN.2 (by rw [q]; exact hmbu)
 refine Zcq (fun env υ => ∃ done S2, (env 0 = ptr bb 0 /\ env 3 = ptr bb2 0 /\ env 4 = Zbv tw) /\ Ext σ υ /\ DAt υ bb2 S2 (done.map (·.2)) [] size mb2 (.lst none 0 0 []) /\ υ.blk tw = some (.map (ZeR (prs done))) /\ (∀ x, S2 x -> Zde σ x /\ υ.used x /\ x ≠ tw) /\ (∀ q ∈ done, q.1 ∈ fs /\ q.2.nm = q.1.nm /\ q.2.d = q.1.d) /\ (done.map (·.1)).Perm fs) ?_ ?_
 ·refine ZbB ?_
  refine ZcV (fun μ env υ => ∃ done seen D S2, μ = (leftOf arr seen).size /\ (env 0 = ptr bb 0 /\ env 3 = ptr bb2 0 /\ env 4 = Zbv tw /\ env 22 = ptr ib 0) /\ Zvy σ fs arr c mb ib tw bb2 mb2 size υ done seen D S2) ⟨_, [], #[], [], _, rfl, he, .nil arr, rfl, fun q hq => (by cases hq), (h1.ext hX2).but hB3 fun x hx q => ?_, fun x hx => ?_, hB3.keep _ _ htwmb htw2, hB3.used _ hutw2, hit, huib, hpin, hE2.but.trans hB3⟩ ?_
  ·rcases hx with rfl | rfl
   ·exact hnb.2 (by rw [q]; exact hmbu)
   ·exact hnm.2 (by rw [q]; exact hmbu)
  ·have hx2 : σ1.used x /\ Zde σ x /\ ∃ k, σ1.blk x = some k := by
    rcases hx with rfl | rfl
    ·exact ⟨h1.used, hnb, _, h1.obj⟩
    ·exact ⟨h1.umap, hnm, _, h1.map⟩
   obtain ⟨u1, u2, k, u3⟩ := hx2
   refine ⟨u2, hB3.used _ (hX2.used _ u1), fun q => hutw (by rw [<- q]; exact u1), fun q => ?_⟩
   have := hX2.keep _ _ u3
   rw [q, hni] at this
   cases this
  clear he e hpin hit huib hB3 h1 htw2 hutw2
  rintro _ e υ ⟨done, seen, D, S2, rfl, he, C⟩
  first | refine Zaa ?_ | refine Zad ?_ | (refine Zac ?_; refine Zaa ?_) | (refine Zac ?_; refine Zac ?_; refine Zaa ?_)
  refine Zmh (b := mb) (ib := ib) (es := Zei (ZaV fs)) (by simp only [EV, Nat.reduceEqDiff, ↓reduceIte, he] <;> try rfl) C.iter C.held hM (Zds _) (fun x hx => hM.2.1 _ (List.mem_map.2 ⟨x, hx, rfl⟩)) (Nat.le_refl _) (fun hz υ1 hmap hB1 => ?_) fun en hen υ1 hit1 hB1 => ?_
  ·refine Zab ?_
   refine Za0 (l := [vT false]) (by simp only [EV, Nat.reduceEqDiff, ↓reduceIte, he] <;> try rfl) rfl ?_
   refine Zah ?_
   apply ZcI 0 3 4 22 24
   ·simp only [EV, Nat.reduceEqDiff, ↓reduceIte, he] <;> try rfl
   ·simp only [EV, Nat.reduceEqDiff, ↓reduceIte, he] <;> try rfl
   ·simp only [EV, Nat.reduceEqDiff, ↓reduceIte, he] <;> try rfl
   ·simp only [EV, Nat.reduceEqDiff, ↓reduceIte, he] <;> try rfl
   ·simp only [EV, Nat.reduceEqDiff, ↓reduceIte, he] <;> try rfl
   clear he e
   intro e he
   refine ZaX (t := false) (by simp only [EV, Nat.reduceEqDiff, ↓reduceIte, he] <;> try rfl) (fun hf => by cases hf) (fun _ => ?_)
   refine ZdZ ?_
   have hperm := C.came.perm hM.2.2 hz
   have hp2 : (done.map fun q => (sV q.1.nm, pV q.1.b)).Perm (fs.map fun f => (sV f.nm, pV f.b)) := by
    rw [<- C.what]
    have e1 : (fs.map fun f => (sV f.nm, pV f.b)) = arr.toList.map fun e : MapEntry => (e.key, e.val) := by
     rw [hM.1]
     unfold Zei ZaV
     rw [List.map_map]
     rfl
    rw [e1]
    exact hperm.map _
   have hnd1 : (done.map (·.1)).Nodup := by
    have : (done.map fun q => (sV q.1.nm, pV q.1.b)).Nodup := by
     rw [hp2.nodup_iff]
     refine ZbZ (f := fun q : Value × Value => q.2) ?_
     rw [List.map_map]
     have hnd := h.nd
     rw [show ((fun q : Value × Value => q.2) ∘ fun f : Fl => (sV f.nm, pV f.b)) = pV ∘ fun f : Fl => f.b from rfl, <- List.map_map]
     generalize fs.map (fun f => f.b) = l at hnd
     clear hp2 hperm hB1 hmap C he
     induction l with
     | nil => exact .nil
     | cons a l ih =>
      rw [List.nodup_cons] at hnd
      refine List.nodup_cons.2 ⟨fun ha => ?_, ih hnd.2⟩
      obtain ⟨x, hx, e⟩ := List.mem_map.1 ha
      exact hnd.1 (ZrR e ▸ hx)
    have e3 : (done.map fun q => (sV q.1.nm, pV q.1.b)) = (done.map (·.1)).map fun f => (sV f.nm, pV f.b) := by rw [List.map_map]; rfl
    rw [e3] at this
    exact ZbZ this
   have hB4 : But (fun x => x = mb) σ υ1 := C.but.trans hB1
   refine ⟨rfl, done, S2, ⟨by simp only [EV, Nat.reduceEqDiff, ↓reduceIte, he] <;> try rfl, by simp only [EV, Nat.reduceEqDiff, ↓reduceIte, he] <;> try rfl, by simp only [EV, Nat.reduceEqDiff, ↓reduceIte, he] <;> try rfl⟩, ⟨fun x k hk => ?_, hB4.used⟩, C.disk.but hB1 fun x hx q => (C.newS x hx).1.2 (by rw [q]; exact hmbu), hB1.keep _ _ htwmb C.twin, fun x hx => ⟨(C.newS x hx).1, hB1.used _ (C.newS x hx).2.1, (C.newS x hx).2.2.1⟩, C.each, ?_⟩
   ·by_cases hx : x = mb
    ·rw [hx] at hk ⊢
     rw [hmap, <- hk, h.map]
    ·exact hB4.keep _ _ hx hk
   ·refine (List.perm_ext_iff_of_nodup hnd1 (ZbZ h.nn)).2 fun f => ⟨fun hf => ?_, fun hf => ?_⟩
    ·obtain ⟨q, hq, rfl⟩ := List.mem_map.1 hf
     exact (C.each q hq).1
    ·have hm : (sV f.nm, pV f.b) ∈ done.map fun q => (sV q.1.nm, pV q.1.b) := hp2.mem_iff.2 (List.mem_map.2 ⟨f, hf, rfl⟩)
     obtain ⟨q, hq, e⟩ := List.mem_map.1 hm
     injection e with _ e
     exact List.mem_map.2 ⟨q, hq, h.uniq (C.each q hq).1 hf (ZrR e)⟩
  ·obtain ⟨m1, m2⟩ := mem_left hen
   obtain ⟨f, hf, hek, hev⟩ := Zny hM m1
   have hC1 := C.came.push hen
   have hnot : ∀ q ∈ done, q.1.nm ≠ f.nm := fun q hq hqn => by
    have : (sV q.1.nm, pV q.1.b) ∈ D.map fun e : MapEntry => (e.key, e.val) := by
     rw [C.what]
     exact List.mem_map.2 ⟨q, hq, rfl⟩
    obtain ⟨x, hx, e⟩ := List.mem_map.1 this
    injection e with e1 _
    have hxe : x = en := Zmi hkeys (C.came.sub x hx) m1 (by rw [e1, hek, hqn])
    have hnd := hC1.nd
    rw [List.map_append, List.nodup_append] at hnd
    exact hnd.2.2 x.born (List.mem_map.2 ⟨x, hx, rfl⟩) en.born (by simp) (by rw [hxe])
   have hnotb : ∀ q ∈ done, q.1.b ≠ f.b := fun q hq e => hnot q hq (by rw [h.uniq (C.each q hq).1 hf e])
   refine Zab ?_
   refine Za0 (l := [vT true, .raw en.key, .raw en.val]) (by simp only [EV, Nat.reduceEqDiff, ↓reduceIte, he] <;> try rfl) rfl ?_
   refine Zah ?_
   apply ZcI 0 3 4 22 24
   ·simp only [EV, Nat.reduceEqDiff, ↓reduceIte, he] <;> try rfl
   ·simp only [EV, Nat.reduceEqDiff, ↓reduceIte, he] <;> try rfl
   ·simp only [EV, Nat.reduceEqDiff, ↓reduceIte, he] <;> try rfl
   ·simp only [EV, Nat.reduceEqDiff, ↓reduceIte, he] <;> try rfl
   ·simp only [EV, Nat.reduceEqDiff, ↓reduceIte, he] <;> try rfl
   clear he e
   intro e he
   refine ZaX (t := true) (by simp only [EV, Nat.reduceEqDiff, ↓reduceIte, he] <;> try rfl) (fun _ => ?_) (fun hf => by cases hf)
   refine Zbb ?_
   refine ZbB ?_
   have hheld1 : υ1.blk mb = some (.map (Zgd arr c)) := hB1.keep _ _ (fun q => hibN.2 (by rw [<- q]; exact hmbu)) C.held
   first | refine Zaa ?_ | refine Zad ?_ | (refine Zac ?_; refine Zaa ?_) | (refine Zac ?_; refine Zac ?_; refine Zaa ?_)
   refine Zmg (b := mb) (ib := ib) (e := en) (kv := .raw (sV f.nm)) (vv := ptr f.b 0) (by simp only [EV, Nat.reduceEqDiff, ↓reduceIte, he] <;> try rfl) hit1 hheld1 m1 hM.2.2 (by rw [hek]; rfl) (by rw [hev]; rfl) (fun w B => Zak _) (fun w B => Zak _) ?_
   refine Zab ?_
   refine Za0 (l := [.raw (sV f.nm), ptr f.b 0]) (by simp only [EV, Nat.reduceEqDiff, ↓reduceIte, he] <;> try rfl) rfl ?_
   refine Zab ?_
   refine Za0 (l := [.raw (sV f.nm), ptr f.b 0]) (by simp only [EV, Nat.reduceEqDiff, ↓reduceIte, he] <;> try rfl) rfl ?_
   refine Zab (Zai rfl (by simp only [EV, Nat.reduceEqDiff, ↓reduceIte, he] <;> try rfl) ?_)
   refine Zab (Zai rfl (by simp only [EV, Nat.reduceEqDiff, ↓reduceIte, he] <;> try rfl) ?_)
   refine Zah ?_
   apply Zgk 0 3 4 5 6 22
   ·simp only [EV, Nat.reduceEqDiff, ↓reduceIte, he] <;> try rfl
   ·simp only [EV, Nat.reduceEqDiff, ↓reduceIte, he] <;> try rfl
   ·simp only [EV, Nat.reduceEqDiff, ↓reduceIte, he] <;> try rfl
   ·simp only [EV, Nat.reduceEqDiff, ↓reduceIte, he] <;> try rfl
   ·simp only [EV, Nat.reduceEqDiff, ↓reduceIte, he] <;> try rfl
   ·simp only [EV, Nat.reduceEqDiff, ↓reduceIte, he] <;> try rfl
   clear he e
   intro e he
   have hB01 : But (fun x => x = mb \/ x = ib) σ υ1 := (C.but.sub fun x hx => .inl hx).trans (hB1.sub fun x hx => .inr hx)
   have hfb := h.files_but hB01 fun x hx => by
    rcases hx with rfl | rfl
    ·exact .inr rfl
    ·exact .inl hibN.1
   obtain ⟨p1, p3⟩ := hfb f hf
   first | refine Zaa ?_ | refine Zad ?_ | (refine Zac ?_; refine Zaa ?_) | (refine Zac ?_; refine Zac ?_; refine Zaa ?_)
   refine Zab (Zai rfl (by simp only [EV, Nat.reduceEqDiff, ↓reduceIte, he] <;> try rfl) ?_)
   refine Zab (Zai rfl (by simp only [EV, Nat.reduceEqDiff, ↓reduceIte, he] <;> try rfl) ?_)
   refine Zab (Zai rfl (by simp only [EV, Nat.reduceEqDiff, ↓reduceIte, he] <;> try rfl) ?_)
   refine Zab ?_
   refine Zam (v := ptr f.b 0) (by simp only [EV, Nat.reduceEqDiff, ↓reduceIte, he] <;> try rfl) rfl ?_
   refine Zab ?_
   refine Zae (b := f.b) (o := 0) (by simp only [EV, Nat.reduceEqDiff, ↓reduceIte, he] <;> try rfl) ZeD rfl ?_
   refine Zab ?_
   refine Zar (b := f.b) (o := 0 + 0) (r := f.v) (by simp only [EV, Nat.reduceEqDiff, ↓reduceIte, he] <;> try rfl) p1 Zf4 ZcZ rfl ?_
   refine Zab ?_
   refine Zas (vs := [f.v]) (by simp only [List.map_cons, List.map_nil, EV, Nat.reduceEqDiff, ↓reduceIte, he] <;> try rfl) ?_
   refine Zlf p3 (hfl f hf) _ fun v2 υ2 hv2 hX12 hn2 => ?_
   refine Zab ?_
   refine ZhU (vs := [v2]) (cells := [v2]) (by simp only [List.map_cons, List.map_nil, EV, Nat.reduceEqDiff, ↓reduceIte, he]; try rfl) Zpy Zpz (Zu5 rfl hv2.oneV.2) ?_
   refine Zab ?_
   refine ZfU (cs := [v2]) (v := .agg [v2]) (by simp only [EV, Nat.reduceEqDiff, ↓reduceIte, he] <;> try rfl) rfl fun nb υ3 hnn3 hnu3 hb3 hub3 hX23 => ?_
   have hX13 := hX12.trans hX23
   have htw3 : υ3.blk tw = some (.map (ZeR (prs done))) := hX13.keep _ _ (hB1.keep _ _ htwib C.twin)
   refine Zab ?_
   refine Zp4 (k := f.b) (n := nb) (es := prs done) (m := 0) (b := tw) (cs := [f.v]) (tk := 78) (by simp only [EV, Nat.reduceEqDiff, ↓reduceIte, he] <;> try rfl) (by simp only [EV, Nat.reduceEqDiff, ↓reduceIte, he] <;> try rfl) (by simp only [EV, Nat.reduceEqDiff, ↓reduceIte, he] <;> try rfl) htw3 Znv ZdL Zit (hX13.keep _ _ p1) (fun p hp => ?_) (fun p hp => ?_) fun υ4 htw4 k4 => ?_
   ·obtain ⟨q, hq, rfl⟩ := List.mem_map.1 hp
    exact ⟨_, _, hX13.keep _ _ (hfb q.1 (C.each q hq).1).1⟩
   ·obtain ⟨q, hq, rfl⟩ := List.mem_map.1 hp
    exact hnotb q hq
   refine Zah ?_
   have htwu : υ1.used tw := hB1.used _ C.utw
   have hnbtw : nb ≠ tw := fun q => hnu3 (by rw [q]; exact hX12.used _ htwu)
   have hd1 := C.disk.but hB1 fun x hx q => (C.newS x hx).2.2.2 q
   have hd4 : DAt υ4 bb2 S2 (done.map (·.2)) [] size mb2 (.lst none 0 0 []) := (hd1.ext hX13).but k4 fun x hx q => (C.newS x hx).2.2.1 q
   have hfb4 : υ4.blk f.b = some (.own 78 [f.v]) := k4.keep _ _ (fun q => ZbM (hX13.keep _ _ p1) htw3 q) (hX13.keep _ _ p1)
   have hnb4 : υ4.blk nb = some (.own 78 [v2]) := k4.keep _ _ hnbtw hb3
   have hv4 : Hd υ4 5 1 v2 f.d.length (bys f.d) := (hv2.ext hX23).but k4 fun x hx q => by
    obtain ⟨all, hall⟩ := (hv2.ext hX23).blk hx
    exact ZbM hall htw3 q
   apply Zgk 0 3 4 5 6 22
   ·simp only [EV, Nat.reduceEqDiff, ↓reduceIte, he] <;> try rfl
   ·simp only [EV, Nat.reduceEqDiff, ↓reduceIte, he] <;> try rfl
   ·simp only [EV, Nat.reduceEqDiff, ↓reduceIte, he] <;> try rfl
   ·simp only [EV, Nat.reduceEqDiff, ↓reduceIte, he] <;> try rfl
   ·simp only [EV, Nat.reduceEqDiff, ↓reduceIte, he] <;> try rfl
   ·simp only [EV, Nat.reduceEqDiff, ↓reduceIte, he] <;> try rfl
   clear he e
   intro e he
   refine Zfr ?_
   refine ⟨[0, 1, 2, 4, 5, 6, 3, 7, 8], [[], [0], [0, 1], [0, 1, 2], [], [], [], [5, 6], [0, 1, 2, 3, 4, 5, 6, 7]], fun _ => True, [3], [7], [], by kernel_rfl, ?_⟩
   apply Zao
   case hi => simp only [HIX]; try rfl
   case hw => rfl
   case how => rfl
   refine Zai rfl (by simp only [EV, Nat.reduceEqDiff, ↓reduceIte, he] <;> try rfl) ?_
   refine ZaY ?_
   apply Zao
   case hi => simp only [HIX]; try rfl
   case hw => rfl
   case how => rfl
   refine Zam (v := ptr bb2 0) (by simp only [EV, Nat.reduceEqDiff, ↓reduceIte, he] <;> try rfl) rfl ?_
   refine ZaY ?_
   apply Zao
   case hi => simp only [HIX]; try rfl
   case hw => rfl
   case how => rfl
   refine Zae (b := bb2) (o := 0) (by simp only [EV, Nat.reduceEqDiff, ↓reduceIte, he] <;> try rfl) Za3 rfl ?_
   refine ZaY ?_
   apply Zao
   case hi => simp only [HIX]; try rfl
   case hw => rfl
   case how => rfl
   refine Zai rfl (by simp only [EV, Nat.reduceEqDiff, ↓reduceIte, he] <;> try rfl) ?_
   refine ZaY ?_
   apply Zao
   case hi => simp only [HIX]; try rfl
   case hw => rfl
   case how => rfl
   refine Zai rfl (by simp only [EV, Nat.reduceEqDiff, ↓reduceIte, he] <;> try rfl) ?_
   refine ZaY ?_
   apply Zao
   case hi => simp only [HIX]; try rfl
   case hw => rfl
   case how => rfl
   refine Zai rfl (by simp only [EV, Nat.reduceEqDiff, ↓reduceIte, he] <;> try rfl) ?_
   refine ZaY ?_
   apply Zao
   case hi => simp only [HIX]; try rfl
   case hw => rfl
   case how => rfl
   refine Zar (b := bb2) (o := 0 + 1) (r := Zbv mb2) (by simp only [EV, Nat.reduceEqDiff, ↓reduceIte, he] <;> try rfl) hd4.obj ZcN ZcM rfl ?_
   refine ZaY ?_
   have hprn : ((prs done ++ [(f.b, nb)]).map (·.1)).Nodup := by
    rw [List.map_append, List.nodup_append]
    refine ⟨?_, by simp, fun a ha b hb e => ?_⟩
    ·rw [List.map_map]
     have hw := C.what
     have hnd2 : (D.map fun e : MapEntry => (e.key, e.val)).Nodup := by
      refine ZbZ (f := fun q : Value × Value => q.1) ?_
      rw [List.map_map]
      have hk2 := hkeys
      have hnd := C.came.nd
      have hsub := C.came.sub
      clear hw hC1 hnot C he
      induction D with
      | nil => exact .nil
      | cons x D ih =>
       rw [List.map_cons, List.nodup_cons] at hnd ⊢
       refine ⟨fun hx => ?_, ih hnd.2 fun y hy => hsub y (List.mem_cons_of_mem _ hy)⟩
       obtain ⟨y, hy, e⟩ := List.mem_map.1 hx
       have := Zmi hkeys (hsub y (List.mem_cons_of_mem _ hy)) (hsub x List.mem_cons_self) e
       exact hnd.1 (List.mem_map.2 ⟨y, hy, by rw [this]⟩)
     rw [hw] at hnd2
     have hall : ∀ q ∈ done, q.1 ∈ fs := fun q hq => (C.each q hq).1
     clear hw hC1 hnot hnotb C he hd1 hd4 htw3 htw4
     induction done with
     | nil => exact .nil
     | cons q l ih =>
      rw [List.map_cons, List.nodup_cons] at hnd2 ⊢
      refine ⟨fun hx => ?_, ih hnd2.2 fun y hy => hall y (List.mem_cons_of_mem _ hy)⟩
      obtain ⟨y, hy, e⟩ := List.mem_map.1 hx
      have := h.uniq (hall y (List.mem_cons_of_mem _ hy)) (hall q List.mem_cons_self) e
      exact hnd2.1 (List.mem_map.2 ⟨y, hy, by rw [this]⟩)
    ·simp at hb
     subst hb
     rw [List.map_map] at ha
     obtain ⟨q, hq, rfl⟩ := List.mem_map.1 ha
     exact hnotb q hq e
   apply Zao
   case hi => simp only [HIX]; try rfl
   case hw => rfl
   case how => rfl
   refine Zln (k := f.b) (n := nb) (es := prs done ++ [(f.b, nb)]) (m := 0) (b := tw) (cs := [f.v]) (tk := 78) (by simp only [EV, Nat.reduceEqDiff, ↓reduceIte, he] <;> try rfl) (by simp only [EV, Nat.reduceEqDiff, ↓reduceIte, he] <;> try rfl) htw4 Znv ZdL Zit hfb4 (fun p hp => ?_) (Zkk hprn (List.mem_append_right _ List.mem_cons_self)) ?_
   ·rcases List.mem_append.1 hp with hp | hp
    ·obtain ⟨q, hq, rfl⟩ := List.mem_map.1 hp
     have q1 := hX13.keep _ _ (hfb q.1 (C.each q hq).1).1
     exact ⟨_, _, k4.keep _ _ (fun e => ZbM q1 htw3 e) q1⟩
    ·rw [List.mem_singleton.1 hp]
     exact ⟨_, _, hfb4⟩
   refine ZaY ?_
   apply Zao
   case hi => simp only [HIX]; try rfl
   case hw => rfl
   case how => rfl
   refine Zin (k := f.nm) (n := nb) (es := ZaV (done.map (·.2))) (b := mb2) (by simp only [EV, Nat.reduceEqDiff, ↓reduceIte, he] <;> try rfl) (by simp only [EV, Nat.reduceEqDiff, ↓reduceIte, he] <;> try rfl) (by simp only [EV, Nat.reduceEqDiff, ↓reduceIte, he] <;> try rfl) hd4.map Zd6 Zel fun υ5 hm5 k5 => ?_
   refine ⟨(fun hf => by cases hf), ?_⟩
   refine Zfa ?_
   have hnbS : ¬ S2 nb := fun hs => hnu3 (hX12.used _ (hB1.used _ (C.newS nb hs).2.1))
   have hvS : ∀ x, hbk v2 = some x -> ¬ S2 x := fun x hx hs => (hn2 x hx).2 (hB1.used _ (C.newS x hs).2.1)
   have hnm2 : ∀ g ∈ done.map (·.2), g.nm ≠ f.nm := fun g hg => by
    obtain ⟨q, hq, rfl⟩ := List.mem_map.1 hg
    rw [(C.each q hq).2.1]
    exact hnot q hq
   have hnbm : nb ≠ mb2 := fun q => by
    have := hd4.map
    rw [<- q, hnb4] at this
    cases this
   have h5 := hd4.addG (τ := υ5) (nb := nb) (nm := f.nm) (v := v2) (d := f.d) hnbS (k5.sub fun x hx => .inl hx) (k5.keep _ _ hnbm hnb4) (k5.used _ (k4.used _ hub3)) (by rw [hm5, ZjV nb hnm2]; unfold ZaV; rw [List.map_append]; rfl) (hv4.but k5 fun x hx q => by
    obtain ⟨all, hall⟩ := hv4.blk hx
    exact ZbM hall hd4.map q) hnm2 hvS
   have hB05 : But (fun x => x = mb \/ x = ib \/ x = tw \/ x = mb2) σ υ5 := (((hB01.sub fun x hx => by
    rcases hx with hx | hx
    ·exact .inl hx
    ·exact .inr (.inl hx)).trans hX13.but).trans (k4.sub fun x hx => .inr (.inr (.inl hx)))).trans (k5.sub fun x hx => .inr (.inr (.inr hx)))
   have hB05' : But (fun x => x = mb) σ υ5 := ⟨fun x k hx hk => hB05.keep _ _ (fun q => by
    rcases q with q | q | q | q
    ·exact hx q
    ·rw [q, hibN.1] at hk; cases hk
    ·rw [q, htwN.1] at hk; cases hk
    ·rw [q, hnm.1] at hk; cases hk) hk, hB05.used⟩
   have hU3 : ∀ x, (x = mb \/ x = ib) -> υ1.used x := fun x hx => by
    rcases hx with rfl | rfl
    ·exact hB01.used _ hmbu
    ·exact hB1.used _ C.uib
   show ∃ n', n' < _ /\ _
   refine ⟨_, left_shrinks arr seen en hen, done ++ [(f, ⟨f.nm, nb, v2, f.d⟩)], seen.push en.born, D ++ [en], fun x => S2 x \/ x = nb \/ hbk v2 = some x, rfl, ⟨by simp only [EV, Nat.reduceEqDiff, ↓reduceIte, he] <;> try rfl, by simp only [EV, Nat.reduceEqDiff, ↓reduceIte, he] <;> try rfl, by simp only [EV, Nat.reduceEqDiff, ↓reduceIte, he] <;> try rfl, by simp only [EV, Nat.reduceEqDiff, ↓reduceIte, he] <;> try rfl⟩, hC1, ?_, fun q hq => ?_, ?_, fun x hx => ?_, ?_, k5.used _ (k4.used _ (hX13.used _ htwu)), ?_, k5.used _ (k4.used _ (hX13.used _ (hB1.used _ C.uib))), ?_, hB05'⟩
   ·rw [List.map_append, List.map_append, C.what, List.map_cons, List.map_cons, hek, hev]
    rfl
   ·rcases List.mem_append.1 hq with hq | hq
    ·exact C.each q hq
    ·rw [List.mem_singleton.1 hq]
     exact ⟨hf, rfl, rfl⟩
   ·rw [List.map_append]
    exact h5
   ·have hu5 : ∀ y, υ3.used y -> υ5.used y := fun y hy => k5.used _ (k4.used _ hy)
    rcases hx with hx | rfl | hx
    ·obtain ⟨g1, g2, g3, g4⟩ := C.newS x hx
     exact ⟨g1, hu5 _ (hX13.used _ (hB1.used _ g2)), g3, g4⟩
    ·exact ⟨Zp5 (hB01.trans hX12.but) (fun y hy => hX12.used _ (hU3 y hy)) ⟨hnn3, hnu3⟩, hu5 _ hub3, hnbtw, fun q => hnu3 (by rw [q]; exact hX12.used _ (hB1.used _ C.uib))⟩
    ·refine ⟨Zp5 hB01 hU3 (hn2 x hx), hu5 _ (hX23.used _ (hv2.used hx)), fun q => (hn2 x hx).2 (by rw [q]; exact htwu), fun q => (hn2 x hx).2 (by rw [q]; exact hB1.used _ C.uib)⟩
   ·rw [k5.keep _ _ (fun q => ?_) htw4]
    ·unfold prs
     rw [List.map_append]
     rfl
    ·exact absurd (C.newS mb2 C.disk.own.2.1).2.2.1 (fun hne => hne q.symm)
   ·refine k5.keep _ _ (fun q => (C.newS mb2 C.disk.own.2.1).2.2.2 q.symm) (k4.keep _ _ (fun q => htwib q.symm) (hX13.keep _ _ hit1))
   ·refine k5.keep _ _ (fun q => ?_) (k4.keep _ _ (fun q => htwmb q.symm) (hX13.keep _ _ hheld1))
    exact hnm.2 (by rw [<- q]; exact hmbu)
 clear he e hpin hit huib hB3 h1 htw2 hutw2
 rintro e υ ⟨done, S2, he, hX, hd, htw, hnS, heach, hperm⟩
 have hprn : ((prs done).map (·.1)).Nodup := by
  unfold prs
  rw [List.map_map, show ((fun x : Nat × Nat => x.1) ∘ fun q : Fl × Fl => (q.1.b, q.2.b)) = (fun f : Fl => f.b) ∘ fun q : Fl × Fl => q.1 from rfl, <- List.map_map]
  exact ((hperm.map _).nodup_iff).2 h.nd
 have htr : ∀ p ∈ pcs, ∃ q ∈ done, q.1.b = p.1 /\ Zhs (prs done) p.1 = some q.2.b := fun p hp => by
  obtain ⟨f, hf, hfb⟩ := h.inn p hp
  obtain ⟨q, hq, rfl⟩ := List.mem_map.1 (hperm.mem_iff.2 hf)
  exact ⟨q, hq, hfb, Zkk hprn (List.mem_map.2 ⟨q, hq, by rw [hfb]⟩)⟩
 have htwfix : ∀ x, S2 x -> Zde σ x /\ υ.used x /\ x ≠ tw := hnS
 have h3 := h.ext hX
 first | refine Zaa ?_ | refine Zad ?_ | (refine Zac ?_; refine Zaa ?_) | (refine Zac ?_; refine Zac ?_; refine Zaa ?_)
 refine Zab (Zai rfl (by simp only [EV, Nat.reduceEqDiff, ↓reduceIte, he] <;> try rfl) ?_)
 refine Zab ?_
 refine Zam (v := ptr bb 0) (by simp only [EV, Nat.reduceEqDiff, ↓reduceIte, he] <;> try rfl) rfl ?_
 refine Zab ?_
 refine Zae (b := bb) (o := 0) (by simp only [EV, Nat.reduceEqDiff, ↓reduceIte, he] <;> try rfl) Za3 rfl ?_
 refine Zab ?_
 refine Zae (b := bb) (o := 0 + 0) (by simp only [EV, Nat.reduceEqDiff, ↓reduceIte, he] <;> try rfl) Zca rfl ?_
 refine Zab ?_
 refine Zar (b := bb) (o := 0 + 0 + 0) (r := pv) (by simp only [EV, Nat.reduceEqDiff, ↓reduceIte, he] <;> try rfl) h3.obj Zdf Zcb rfl ?_
 refine Zab ?_
 refine ZcT (by simp only [EV, Nat.reduceEqDiff, ↓reduceIte, he] <;> try rfl) h3.pc rfl Zbt ?_
 refine Zab (Zai rfl (by simp only [EV, Nat.reduceEqDiff, ↓reduceIte, he] <;> try rfl) ?_)
 refine Zah ?_
 apply ZcI 3 4 49 50 51
 ·simp only [EV, Nat.reduceEqDiff, ↓reduceIte, he] <;> try rfl
 ·simp only [EV, Nat.reduceEqDiff, ↓reduceIte, he] <;> try rfl
 ·simp only [EV, Nat.reduceEqDiff, ↓reduceIte, he] <;> try rfl
 ·simp only [EV, Nat.reduceEqDiff, ↓reduceIte, he] <;> try rfl
 ·simp only [EV, Nat.reduceEqDiff, ↓reduceIte, he] <;> try rfl
 clear he e
 intro e he
 refine ZdD ?_
 refine ZcV (fun μ env υ => ∃ (i : Nat) (S3 : Nat -> Prop) (pv3 : AV), μ = pcs.length - i /\ i <= pcs.length /\ (env 3 = ptr bb2 0 /\ env 4 = Zbv tw /\ env 49 = pv /\ env 50 = vI pcs.length /\ env 51 = vI i) /\ Ext σ υ /\ DAt υ bb2 S3 (done.map (·.2)) ((pcs.take i).map fun p => ((Zhs (prs done) p.1).getD 0, p.2)) size mb2 pv3 /\ (∀ x, S3 x -> Zde σ x /\ υ.used x /\ x ≠ tw) /\ υ.blk tw = some (.map (ZeR (prs done)))) ⟨_, 0, S2, .lst none 0 0 [], rfl, Nat.zero_le _, he, hX, hd, hnS, htw⟩ ?_
 clear he e hX hd hnS htw h3 htwfix
 rintro _ e υ ⟨i, S3, pv3, rfl, hi, he, hX, hd, hnS, htw⟩
 first | refine Zaa ?_ | refine Zad ?_ | (refine Zac ?_; refine Zaa ?_) | (refine Zac ?_; refine Zac ?_; refine Zaa ?_)
 refine Zab ?_
 refine Zho i pcs.length (by simp only [EV, Nat.reduceEqDiff, ↓reduceIte, he] <;> try rfl) (by simp only [EV, Nat.reduceEqDiff, ↓reduceIte, he] <;> try rfl) ?_
 refine Zah ?_
 apply Zgk 3 4 49 50 51 52
 ·simp only [EV, Nat.reduceEqDiff, ↓reduceIte, he] <;> try rfl
 ·simp only [EV, Nat.reduceEqDiff, ↓reduceIte, he] <;> try rfl
 ·simp only [EV, Nat.reduceEqDiff, ↓reduceIte, he] <;> try rfl
 ·simp only [EV, Nat.reduceEqDiff, ↓reduceIte, he] <;> try rfl
 ·simp only [EV, Nat.reduceEqDiff, ↓reduceIte, he] <;> try rfl
 ·simp only [EV, Nat.reduceEqDiff, ↓reduceIte, he] <;> try rfl
 clear he e
 intro e he
 refine ZaX (t := decide (i < pcs.length)) (by simp only [EV, Nat.reduceEqDiff, ↓reduceIte, he] <;> try rfl) (fun ht => ?_) (fun ht => ?_)
 ·have hlt : i < pcs.length := of_decide_eq_true ht
  have h3 := h.ext hX
  have hpi := List.getElem_mem hlt
  obtain ⟨q, hq, hqb, hqg⟩ := htr _ hpi
  refine Zbb ?_
  refine ZdD ?_
  first | refine Zaa ?_ | refine Zad ?_ | (refine Zac ?_; refine Zaa ?_) | (refine Zac ?_; refine Zac ?_; refine Zaa ?_)
  refine Zab ?_
  refine ZcL (k := .i64) (j := i) (by simp only [EV, Nat.reduceEqDiff, ↓reduceIte, he] <;> try rfl) (by simp only [EV, Nat.reduceEqDiff, ↓reduceIte, he] <;> try rfl) Zbt Za6 h3.pc hlt fun b hb => ?_
  refine Zab ?_
  refine Zps (by simp only [EV, Nat.reduceEqDiff, ↓reduceIte, he] <;> try rfl) h3.pc hb hlt Zf5 Za6 ?_
  rw [Zj6 hlt]
  generalize hpe : pcs[i] = p at hpi hqb hqg
  refine Zab ?_
  refine ZhW ZdK rfl fun b8 υ8 hn8 hu8 hb8 hub8 hX8 => ?_
  refine Zab ?_
  refine ZfV (b := b8) (o := 0) (u := pcV p) (cs' := [ptr p.1 0, .raw (.int .i64 (p.2 : Int))]) (by simp only [EV, Nat.reduceEqDiff, ↓reduceIte, he] <;> try rfl) (by simp only [EV, Nat.reduceEqDiff, ↓reduceIte, he] <;> try rfl) hb8 Za6 rfl rfl fun υ9 hb9 k9 => ?_
  refine Zah ?_
  have hX9 : Ext υ υ9 := But.ext hX8 (fun g hg => by rw [hg]; exact hn8) k9
  have hd9 := hd.ext hX9
  have htw9 := hX9.keep _ _ htw
  have hX09 := hX.trans hX9
  apply Zgk 3 4 8 49 50 51
  ·simp only [EV, Nat.reduceEqDiff, ↓reduceIte, he] <;> try rfl
  ·simp only [EV, Nat.reduceEqDiff, ↓reduceIte, he] <;> try rfl
  ·simp only [EV, Nat.reduceEqDiff, ↓reduceIte, he] <;> try rfl
  ·simp only [EV, Nat.reduceEqDiff, ↓reduceIte, he] <;> try rfl
  ·simp only [EV, Nat.reduceEqDiff, ↓reduceIte, he] <;> try rfl
  ·simp only [EV, Nat.reduceEqDiff, ↓reduceIte, he] <;> try rfl
  clear he e
  intro e he
  refine Zfr ?_
  refine ⟨[0, 1, 2, 3, 4, 6, 7, 10, 5, 8, 11, 9, 12, 13, 14, 15, 16, 17, 18], [[], [], [1], [1, 2], [1, 2, 3], [1, 2, 3, 4], [], [], [7], [6, 7, 8], [], [10], [6, 7, 8, 9, 10, 11], [6, 7, 8, 9, 10, 11, 12], [1, 2, 3, 4, 5, 6, 7, 8, 9, 10, 11, 12, 13], [0, 1, 2, 3, 4, 5, 6, 7, 8, 9, 10, 11, 12, 13, 14], [0, 1, 2, 3, 4, 5, 6, 7, 8, 9, 10, 11, 12, 13, 14, 15], [0, 1, 2, 3, 4, 5, 6, 7, 8, 9, 10, 11, 12, 13, 14, 15, 16], [0, 1, 2, 3, 4, 5, 6, 7, 8, 9, 10, 11, 12, 13, 14, 15, 16, 17]], fun _ => True, [5, 11], [9], [], by kernel_rfl, ?_⟩
  apply Zao
  case hi => simp only [HIX]; try rfl
  case hw => rfl
  case how => rfl
  refine Zai rfl (by simp only [EV, Nat.reduceEqDiff, ↓reduceIte, he] <;> try rfl) ?_
  refine ZaY ?_
  apply Zao
  case hi => simp only [HIX]; try rfl
  case hw => rfl
  case how => rfl
  refine Zai rfl (by simp only [EV, Nat.reduceEqDiff, ↓reduceIte, he] <;> try rfl) ?_
  refine ZaY ?_
  apply Zao
  case hi => simp only [HIX]; try rfl
  case hw => rfl
  case how => rfl
  refine Zam (v := ptr bb2 0) (by simp only [EV, Nat.reduceEqDiff, ↓reduceIte, he] <;> try rfl) rfl ?_
  refine ZaY ?_
  apply Zao
  case hi => simp only [HIX]; try rfl
  case hw => rfl
  case how => rfl
  refine Zae (b := bb2) (o := 0) (by simp only [EV, Nat.reduceEqDiff, ↓reduceIte, he] <;> try rfl) Za3 rfl ?_
  refine ZaY ?_
  apply Zao
  case hi => simp only [HIX]; try rfl
  case hw => rfl
  case how => rfl
  refine Zae (b := bb2) (o := 0 + 0) (by simp only [EV, Nat.reduceEqDiff, ↓reduceIte, he] <;> try rfl) Zca rfl ?_
  refine ZaY ?_
  apply Zao
  case hi => simp only [HIX]; try rfl
  case hw => rfl
  case how => rfl
  refine Zai rfl (by simp only [EV, Nat.reduceEqDiff, ↓reduceIte, he] <;> try rfl) ?_
  refine ZaY ?_
  apply Zao
  case hi => simp only [HIX]; try rfl
  case hw => rfl
  case how => rfl
  refine Zae (b := b8) (o := 0) (by simp only [EV, Nat.reduceEqDiff, ↓reduceIte, he] <;> try rfl) ZdJ rfl ?_
  refine ZaY ?_
  apply Zao
  case hi => simp only [HIX]; try rfl
  case hw => rfl
  case how => rfl
  refine Zae (b := b8) (o := 0) (by simp only [EV, Nat.reduceEqDiff, ↓reduceIte, he] <;> try rfl) ZdJ rfl ?_
  refine ZaY ?_
  apply Zao
  case hi => simp only [HIX]; try rfl
  case hw => rfl
  case how => rfl
  refine Zar (b := bb2) (o := 0 + 0 + 0) (r := pv3) (by simp only [EV, Nat.reduceEqDiff, ↓reduceIte, he] <;> try rfl) hd9.obj Zdf Zcb rfl ?_
  refine ZaY ?_
  apply Zao
  case hi => simp only [HIX]; try rfl
  case hw => rfl
  case how => rfl
  refine Zar (b := b8) (o := 0 + 0) (r := ptr p.1 0) (by simp only [EV, Nat.reduceEqDiff, ↓reduceIte, he] <;> try rfl) hb9 Zip Zio rfl ?_
  refine ZaY ?_
  apply Zao
  case hi => simp only [HIX]; try rfl
  case hw => rfl
  case how => rfl
  refine Zar (b := b8) (o := 0 + 1) (r := .raw (.int .i64 (p.2 : Int))) (by simp only [EV, Nat.reduceEqDiff, ↓reduceIte, he] <;> try rfl) hb9 Zek Zd5 rfl ?_
  refine ZaY ?_
  obtain ⟨fp, hfp, hfpb⟩ := h.inn p hpi
  apply Zao
  case hi => simp only [HIX]; try rfl
  case hw => rfl
  case how => rfl
  refine Zln (k := p.1) (n := q.2.b) (es := prs done) (m := 0) (b := tw) (cs := [fp.v]) (tk := 78) (by simp only [EV, Nat.reduceEqDiff, ↓reduceIte, he] <;> try rfl) (by simp only [EV, Nat.reduceEqDiff, ↓reduceIte, he] <;> try rfl) htw9 Znv ZdL Zit (hX09.keep _ _ (by rw [<- hfpb]; exact (h.file fp hfp).1)) (fun r hr => ?_) hqg ?_
  ·obtain ⟨q', hq', rfl⟩ := List.mem_map.1 hr
   exact ⟨_, _, hX09.keep _ _ (h.file q'.1 (heach q' hq').1).1⟩
  refine ZaY ?_
  apply Zao
  case hi => simp only [HIX]; try rfl
  case hw => rfl
  case how => rfl
  refine ZhU (vs := [ptr q.2.b 0, .raw (.int .i64 (p.2 : Int))]) (cells := [ptr q.2.b 0, .raw (.int .i64 (p.2 : Int))]) (by simp only [List.map_cons, List.map_nil, EV, Nat.reduceEqDiff, ↓reduceIte, he]; try rfl) ZdK ZpA rfl ?_
  refine ZaY ?_
  apply Zao
  case hi => simp only [HIX]; try rfl
  case hw => rfl
  case how => rfl
  refine Zgl (vs := [pcV (q.2.b, p.2)]) (cells := [ptr q.2.b 0, .raw (.int .i64 (p.2 : Int))]) (by simp only [List.map_cons, List.map_nil, EV, Nat.reduceEqDiff, ↓reduceIte, he] <;> try rfl) Zbt Za6 ZdK rfl (by omega) rfl rfl fun rb υa hNa hXa => ?_
  refine ⟨(fun hf => by cases hf), ?_⟩
  have hda := hd9.ext hXa
  have hli : ((pcs.take i).map fun p => ((Zhs (prs done) p.1).getD 0, p.2)).length = i := by rw [List.length_map, List.length_take]; omega
  apply Zao
  case hi => simp only [HIX]; try rfl
  case hw => rfl
  case how => rfl
  refine Zim (m := 1) (news := [ptr q.2.b 0, .raw (.int .i64 (p.2 : Int))]) (r := .lst (some ⟨rb, 0, none⟩) 1 1 ([ptr q.2.b 0, .raw (.int .i64 (p.2 : Int))] ++ [])) (by simp only [EV, Nat.reduceEqDiff, ↓reduceIte, he] <;> try rfl) (by simp only [EV, Nat.reduceEqDiff, ↓reduceIte, he] <;> try rfl) Zbt Za6 ZdK ZpB rfl (by omega) hda.pc (Znd rfl (fun a ha => by
   simp only [List.mem_cons, List.not_mem_nil, or_false] at ha
   rcases ha with rfl | rfl <;> rfl) (fun q => by cases q)) (by unfold maxLen; omega) (by omega) fun pv4 υb hvb hBb hnb4 => ?_
  refine ⟨(fun hf => by cases hf), ?_⟩
  apply Zao
  case hi => simp only [HIX]; try rfl
  case hw => rfl
  case how => rfl
  refine Zam (v := ptr bb2 0) (by simp only [EV, Nat.reduceEqDiff, ↓reduceIte, he] <;> try rfl) rfl ?_
  refine ZaY ?_
  apply Zao
  case hi => simp only [HIX]; try rfl
  case hw => rfl
  case how => rfl
  refine Zae (b := bb2) (o := 0) (by simp only [EV, Nat.reduceEqDiff, ↓reduceIte, he] <;> try rfl) Za3 rfl ?_
  refine ZaY ?_
  apply Zao
  case hi => simp only [HIX]; try rfl
  case hw => rfl
  case how => rfl
  refine Zae (b := bb2) (o := 0 + 0) (by simp only [EV, Nat.reduceEqDiff, ↓reduceIte, he] <;> try rfl) Zca rfl ?_
  refine ZaY ?_
  apply Zao
  case hi => simp only [HIX]; try rfl
  case hw => rfl
  case how => rfl
  refine Zdu (b := bb2) (o := 0 + 0 + 0) (v := pv4) (by simp only [EV, Nat.reduceEqDiff, ↓reduceIte, he] <;> try rfl) (by simp only [EV, Nat.reduceEqDiff, ↓reduceIte, he] <;> try rfl) (hBb.keep _ _ hda.pvB hda.obj) Zcb hvb.oneV (Nat.zero_lt_succ _) fun υc hbc kc => ?_
  refine ⟨(fun hf => by cases hf), ?_⟩
  refine Zfa ?_
  have hBc : But (fun c => c = bb2 \/ hbk pv3 = some c) υa υc := (hBb.sub fun c hc => .inr hc).trans (kc.sub fun c hc => .inl hc)
  have hpc : pcC ((pcs.take i).map fun p => ((Zhs (prs done) p.1).getD 0, p.2)) ++ [ptr q.2.b 0, .raw (.int .i64 (p.2 : Int))] = pcC (((pcs.take i).map fun p => ((Zhs (prs done) p.1).getD 0, p.2)) ++ [(q.2.b, p.2)]) := by rw [Zg7]; rfl
  have hvc : Hd υc 80 2 pv4 (((pcs.take i).map fun p => ((Zhs (prs done) p.1).getD 0, p.2)) ++ [(q.2.b, p.2)]).length (pcC (((pcs.take i).map fun p => ((Zhs (prs done) p.1).getD 0, p.2)) ++ [(q.2.b, p.2)])) := by
   rw [List.length_append, <- hpc]
   refine hvb.but kc fun c hc hq => ?_
   obtain ⟨all, hall⟩ := hvb.blk hc
   exact ZcQ hall (hBb.keep _ _ hda.pvB hda.obj) (by decide) hq
  have hdc := hda.setP hBc hbc hvc fun r hr => by
   rcases List.mem_append.1 hr with hr | hr
   ·exact hda.inn r hr
   ·rw [List.mem_singleton.1 hr]
    exact ⟨q.2, List.mem_map.2 ⟨q, hq, rfl⟩, rfl⟩
  have hEc : Ext σ υc := But.ext (hX09.trans hXa) (fun c hc => (hnS c (hda.pvS hc)).1.1) hBc
  show ZaI _ _ _ _ _ _
  refine Zad ?_
  refine Zab ?_
  refine Zd4 i 1 (by simp only [EV, Nat.reduceEqDiff, ↓reduceIte, he] <;> try rfl) (by simp only [EV, Nat.reduceEqDiff, ↓reduceIte, he] <;> try rfl) (by omega) ?_
  refine Zab (Zai rfl (by simp only [EV, Nat.reduceEqDiff, ↓reduceIte, he] <;> try rfl) ?_)
  refine Zah ?_
  show ∃ n', n' < _ /\ _
  refine ⟨_, (by omega : pcs.length - (i + 1) < pcs.length - i), i + 1, fun x => S3 x \/ hbk pv4 = some x, pv4, rfl, hlt, ⟨by simp only [EV, Nat.reduceEqDiff, ↓reduceIte, he] <;> try rfl, by simp only [EV, Nat.reduceEqDiff, ↓reduceIte, he] <;> try rfl, by simp only [EV, Nat.reduceEqDiff, ↓reduceIte, he] <;> try rfl, by simp only [EV, Nat.reduceEqDiff, ↓reduceIte, he] <;> try rfl, by simp only [EV, Nat.reduceEqDiff, ↓reduceIte, he] <;> try rfl⟩, hEc, ?_, fun x hx => ?_, ?_⟩
  rotate_left
  ·rcases hx with hx | hx
   ·obtain ⟨g1, g2, g3⟩ := hnS x hx
    exact ⟨g1, hBc.used _ (hXa.used _ (hX9.used _ g2)), g3⟩
   ·rcases hnb4 x hx with g | g
    ·obtain ⟨g1, g2, g3⟩ := hnS x (hda.pvS (.inr g))
     exact ⟨g1, hBc.used _ (hXa.used _ (hX9.used _ g2)), g3⟩
    ·refine ⟨Zde.of g (hX09.trans hXa), hvc.used hx, fun e => ?_⟩
     have := hXa.keep _ _ htw9
     rw [<- e, g.1] at this
     cases this
  ·refine hBc.keep _ _ (fun g => (hnS tw (hda.pvS g)).2.2 rfl) (hXa.keep _ _ htw9)
  ·rw [List.take_succ_eq_append_getElem hlt, List.map_append, List.map_cons, List.map_nil, hpe, hqg]
   exact hdc
 ·have hke : i = pcs.length := by have := of_decide_eq_false ht; omega
  subst hke
  rw [List.take_length] at hd
  refine ZdZ ?_
  show ZaI _ _ _ _ _ _
  first | refine Zaa ?_ | refine Zad ?_ | (refine Zac ?_; refine Zaa ?_) | (refine Zac ?_; refine Zac ?_; refine Zaa ?_)
  refine Zab (Zai rfl (by simp only [EV, Nat.reduceEqDiff, ↓reduceIte, he] <;> try rfl) ?_)
  refine Zab (Zai rfl (by simp only [EV, Nat.reduceEqDiff, ↓reduceIte, he] <;> try rfl) ?_)
  refine Zah ?_
  refine ZaW ?_
  show ∃ r, Zan _ _ _ _ r /\ _
  exact ⟨_, ZaD rfl (by simp only [EV, Nat.reduceEqDiff, ↓reduceIte, he] <;> try rfl), hK υ bb2 S3 _ _ mb2 pv3 done hd hX (fun x hx => ⟨(hnS x hx).1, (hnS x hx).2.1⟩) ⟨rfl, hperm, fun q hq => (heach q hq).2, rfl⟩⟩
end
end Go.Proofs.Ytinpiaibhjmfaaa
namespace Go.Proofs.Ytinpiaibhjmfaaa
open Go.RowKit
set_option maxRecDepth 100000
set_option linter.unusedVariables false
set_option linter.unusedSimpArgs false
theorem ZsR : Zc4 Try.prog 33 = some false := by kernel_rfl
theorem Zmk : Zax Try.prog 33 = some 1 := by kernel_rfl
theorem ZsS : ZaN Try.prog 33 = some (.int .i64 0) := by kernel_rfl
theorem Zp6 : ZaN Try.prog 9 = some (.string ⟨#[]⟩) := by kernel_rfl
abbrev Zeb (k : List UInt8) (fs : List Fl) : List Fl := fs.filter fun f => !decide (f.nm = k)
theorem Zlp {k : List UInt8} {fs : List Fl} (h : ∀ f ∈ fs, f.nm ≠ k) : Zeb k fs = fs := List.filter_eq_self.2 fun f hf => by simp [h f hf]
theorem Zdv {k : List UInt8} {fs : List Fl} {f : Fl} : f ∈ Zeb k fs ↔ f ∈ fs /\ f.nm ≠ k := by simp [Zeb]
theorem Zkl {k : List UInt8} : ∀ {fs : List Fl}, (fs.map (·.nm)).Nodup -> Zpv (ZaV fs) k = ZaV (Zeb k fs)
 | [], _ => rfl
 | f :: fs, h => by
  rw [List.map_cons, List.nodup_cons] at h
  show (if k = f.nm then ZaV fs else (f.nm, f.b) :: Zpv (ZaV fs) k) = _
  by_cases hk : k = f.nm
  ·rw [if_pos hk]
   have : Zeb k (f :: fs) = Zeb k fs := by simp [Zeb, hk]
   rw [this, Zlp fun g hg e => h.1 (List.mem_map.2 ⟨g, hg, by rw [e, hk]⟩)]
  ·rw [if_neg hk, Zkl h.2]
   have : Zeb k (f :: fs) = f :: Zeb k fs := by simp [Zeb, Ne.symm hk]
   rw [this]
   rfl
section
variable {σ τ : St} {bb mb : Nat} {S : Nat -> Prop} {fs : List Fl} {pcs : List (Nat × Nat)} {size : Int} {pv : AV}
theorem ZgG {α β : Type} {f : α -> β} {l m : List α} (h : (l.map f).Nodup) (hs : m.Sublist l) : (m.map f).Nodup := (hs.map f).nodup h
theorem DAt.delF (h : DAt σ bb S fs pcs size mb pv) {k : List UInt8} (hp : ∀ p ∈ pcs, ∃ f ∈ Zeb k fs, f.b = p.1) (k4 : But (fun c => c = mb) σ τ) (hm : τ.blk mb = some (.map (Zei (Zpv (ZaV fs) k)))) : DAt τ bb S (Zeb k fs) pcs size mb pv := by
 obtain ⟨o1, o2, o3, o4⟩ := h.own
 have hH : ∀ {e sz n : Nat} {u : AV} {cs : List AV}, Hd σ e sz u n cs -> Hd τ e sz u n cs := fun {e sz n u cs} hu => hu.but k4 fun c hc hq => by
  obtain ⟨all, hall⟩ := hu.blk hc
  exact ZbM hall h.map hq
 have hsub : (Zeb k fs).Sublist fs := List.filter_sublist
 refine ⟨k4.keep _ _ (fun q => ZbM h.obj h.map q) h.obj, k4.used _ h.used, by rw [hm, Zkl h.nn], k4.used _ h.umap, fun f hf => ?_, ZgG h.nd hsub, ZgG h.nn hsub, fun f hf g hg => h.far f (hsub.subset hf) g (hsub.subset hg), hH h.pc, ⟨o1, o2, fun f hf => o3 f (hsub.subset hf), o4⟩, hp⟩
 obtain ⟨q1, q2, q3⟩ := h.file f (hsub.subset hf)
 exact ⟨k4.keep _ _ (fun q => ZbM q1 h.map q) q1, k4.used _ q2, hH q3⟩
theorem DAt.uniqN (h : DAt σ bb S fs pcs size mb pv) {f g : Fl} (hf : f ∈ fs) (hg : g ∈ fs) (e : f.nm = g.nm) : f = g := by
 have hnd := h.nn
 clear h
 induction fs with
 | nil => cases hf
 | cons a l ih =>
  rw [List.map_cons, List.nodup_cons] at hnd
  rcases List.mem_cons.1 hf with e1 | h1 <;> rcases List.mem_cons.1 hg with e2 | h2
  ·rw [e1, e2]
  ·exact absurd (List.mem_map.2 ⟨g, h2, by rw [<- e, e1]⟩) hnd.1
  ·exact absurd (List.mem_map.2 ⟨f, h1, by rw [e, e2]⟩) hnd.1
  ·exact ih h1 h2 hnd.2
theorem DAt.movF (h : DAt σ bb S fs pcs size mb pv) {f0 : Fl} (hf0 : f0 ∈ fs) {to : List UInt8} (hto : ∀ f ∈ fs, f.nm ≠ to) (k4 : But (fun c => c = mb) σ τ) (hm : τ.blk mb = some (.map (Zei (ZqX (Zpv (ZaV fs) f0.nm) to f0.b)))) : DAt τ bb S (Zeb f0.nm fs ++ [⟨to, f0.b, f0.v, f0.d⟩]) pcs size mb pv := by
 obtain ⟨o1, o2, o3, o4⟩ := h.own
 have hH : ∀ {e sz n : Nat} {u : AV} {cs : List AV}, Hd σ e sz u n cs -> Hd τ e sz u n cs := fun {e sz n u cs} hu => hu.but k4 fun c hc hq => by
  obtain ⟨all, hall⟩ := hu.blk hc
  exact ZbM hall h.map hq
 have hsub : (Zeb f0.nm fs).Sublist fs := List.filter_sublist
 have hnb : ∀ f ∈ Zeb f0.nm fs, f.b ≠ f0.b := fun f hf e => (Zdv.1 hf).2 (by rw [h.uniq (Zdv.1 hf).1 hf0 e])
 have hfile : ∀ f ∈ fs, τ.blk f.b = some (.own 78 [f.v]) /\ τ.used f.b /\ Hd τ 5 1 f.v f.d.length (bys f.d) := fun f hf => by
  obtain ⟨q1, q2, q3⟩ := h.file f hf
  exact ⟨k4.keep _ _ (fun q => ZbM q1 h.map q) q1, k4.used _ q2, hH q3⟩
 refine ⟨k4.keep _ _ (fun q => ZbM h.obj h.map q) h.obj, k4.used _ h.used, ?_, k4.used _ h.umap, fun f hf => ?_, ?_, ?_, fun f hf g hg x hx hy => ?_, hH h.pc, ⟨o1, o2, fun f hf => ?_, o4⟩, fun p hp => ?_⟩
 ·rw [hm, Zkl h.nn, ZjV _ fun f hf => hto f (hsub.subset hf)]
  unfold ZaV
  rw [List.map_append]
  rfl
 ·rcases List.mem_append.1 hf with hf | hf
  ·exact hfile f (hsub.subset hf)
  ·rw [List.mem_singleton.1 hf]
   exact hfile f0 hf0
 ·rw [List.map_append, List.nodup_append]
  refine ⟨ZgG h.nd hsub, by simp, fun a ha b hb e => ?_⟩
  obtain ⟨f, hf, rfl⟩ := List.mem_map.1 ha
  simp at hb
  exact hnb f hf (e.trans hb)
 ·rw [List.map_append, List.nodup_append]
  refine ⟨ZgG h.nn hsub, by simp, fun a ha b hb e => ?_⟩
  obtain ⟨f, hf, rfl⟩ := List.mem_map.1 ha
  simp at hb
  exact hto f (hsub.subset hf) (e.trans hb)
 ·rcases List.mem_append.1 hf with hf | hf <;> rcases List.mem_append.1 hg with hg | hg
  ·exact h.far f (hsub.subset hf) g (hsub.subset hg) x hx hy
  ·rw [List.mem_singleton.1 hg] at hy ⊢
   exact h.far f (hsub.subset hf) f0 hf0 x hx hy
  ·rw [List.mem_singleton.1 hf] at hx ⊢
   exact h.far f0 hf0 g (hsub.subset hg) x hx hy
  ·rw [List.mem_singleton.1 hf, List.mem_singleton.1 hg]
 ·rcases List.mem_append.1 hf with hf | hf
  ·exact o3 f (hsub.subset hf)
  ·rw [List.mem_singleton.1 hf]
   exact o3 f0 hf0
 ·obtain ⟨f, hf, e⟩ := h.inn p hp
  by_cases hn : f.nm = f0.nm
  ·have : f = f0 := h.uniqN hf hf0 hn
   exact ⟨_, List.mem_append_right _ List.mem_cons_self, by rw [<- e, this]⟩
  ·exact ⟨f, List.mem_append_left _ (Zdv.2 ⟨hf, hn⟩), e⟩
end
section
variable {σ : St} {bb mb : Nat} {S : Nat -> Prop} {fs : List Fl} {pcs : List (Nat × Nat)} {size : Int} {pv : AV} {K : AV -> St -> Prop}
theorem Zp7 (h : DAt σ bb S fs pcs size mb pv) (hl : pcs.length <= 1000000000) {f0 : Fl} (hf0 : f0 ∈ fs) (hK : ∀ τ pv', DAt τ bb S (Zeb f0.nm fs) (pcs.filter fun p => !decide (p.1 = f0.b)) size mb pv' -> But S σ τ -> K (.tup []) τ) : Zau Try.prog 63 [ptr bb 0, .raw (sV f0.nm), ptr f0.b 0] σ K := by
 refine ZaA ZaL Try.func63 rfl rfl rfl (Nat.le_of_ble_eq_true rfl) ?_
 refine ZcX 0 1 2 (v0 := ptr bb 0) (v1 := .raw (sV f0.nm)) (v2 := ptr f0.b 0) rfl rfl rfl ?_
 intro e he
 first | refine Zaa ?_ | refine Zad ?_ | (refine Zac ?_; refine Zaa ?_) | (refine Zac ?_; refine Zac ?_; refine Zaa ?_)
 refine Zab (Zai rfl (by simp only [EV, Nat.reduceEqDiff, ↓reduceIte, he] <;> try rfl) ?_)
 refine Zab ?_
 refine Zam (v := ptr bb 0) (by simp only [EV, Nat.reduceEqDiff, ↓reduceIte, he] <;> try rfl) rfl ?_
 refine Zab ?_
 refine Zae (b := bb) (o := 0) (by simp only [EV, Nat.reduceEqDiff, ↓reduceIte, he] <;> try rfl) Za3 rfl ?_
 refine Zab (Zai rfl (by simp only [EV, Nat.reduceEqDiff, ↓reduceIte, he] <;> try rfl) ?_)
 refine Zab ?_
 refine Zas (vs := [ptr bb 0, ptr f0.b 0]) (by simp only [List.map_cons, List.map_nil, EV, Nat.reduceEqDiff, ↓reduceIte, he] <;> try rfl) ?_
 refine ZpS h hl hf0 fun τ pv' h1 hB1 => ?_
 refine Zah ?_
 apply ZcW 0 1
 ·simp only [EV, Nat.reduceEqDiff, ↓reduceIte, he] <;> try rfl
 ·simp only [EV, Nat.reduceEqDiff, ↓reduceIte, he] <;> try rfl
 clear he e
 intro e he
 refine Zad ?_
 refine Zab (Zai rfl (by simp only [EV, Nat.reduceEqDiff, ↓reduceIte, he] <;> try rfl) ?_)
 refine Zab ?_
 refine Zam (v := ptr bb 0) (by simp only [EV, Nat.reduceEqDiff, ↓reduceIte, he] <;> try rfl) rfl ?_
 refine Zab ?_
 refine Zae (b := bb) (o := 0) (by simp only [EV, Nat.reduceEqDiff, ↓reduceIte, he] <;> try rfl) Za3 rfl ?_
 refine Zab ?_
 refine Zar (b := bb) (o := 0 + 1) (r := Zbv mb) (by simp only [EV, Nat.reduceEqDiff, ↓reduceIte, he] <;> try rfl) h1.obj ZcN ZcM rfl ?_
 refine Zab (Zai rfl (by simp only [EV, Nat.reduceEqDiff, ↓reduceIte, he] <;> try rfl) ?_)
 refine Zab ?_
 refine Zlo (k := f0.nm) (es := ZaV fs) (b := mb) (by simp only [EV, Nat.reduceEqDiff, ↓reduceIte, he] <;> try rfl) (by simp only [EV, Nat.reduceEqDiff, ↓reduceIte, he] <;> try rfl) h1.map Zd6 Zel fun τ2 hm2 k2 => ?_
 refine Zah ?_
 refine ⟨_, Zdo rfl, hK τ2 pv' (h1.delF (fun p hp => ?_) k2 hm2) (hB1.trans (k2.sub fun c hc => by rw [hc]; exact h.own.2.1))⟩
 obtain ⟨f, hf, e⟩ := h1.inn p hp
 refine ⟨f, Zdv.2 ⟨hf, fun q => ?_⟩, e⟩
 have hp2 := (List.mem_filter.1 hp).2
 rw [h.uniqN hf hf0 q] at e
 simp [e] at hp2
theorem ZsT {k : List UInt8} {b5 b7 b3 : Nat} {n : Int} (h : DAt σ bb S fs pcs size mb pv) (hl : pcs.length <= 1000000000) (hs : ∀ p ∈ pcs, p.2 <= 1000000000) {f0 : Fl} (hf0 : f0 ∈ fs) (hd : f0.d.length <= 1000000000) (hb5 : σ.blk b5 = some (.own 3 [.raw (.int .i64 n)])) (hb7 : σ.blk b7 = some (.own 33 [vI 0])) (hb3 : σ.blk b3 = some (.own 30 [ptr bb 0]))
 (hK2 : n < 0 \/ (f0.d.length : Int) < n -> ∀ τ, τ.blk b7 = some (.own 33 [vI 2]) -> But (fun c => c = b7) σ τ -> K (.tup []) τ)
 (hK0 : 0 <= n -> n <= (f0.d.length : Int) -> ∀ τ v' pv', DAt τ bb S (fs.map (Zcd f0.b v' (f0.d.take n.toNat))) ((shr f0.b (f0.d.length - n.toNat) pcs).filter fun p => !decide (p.2 = 0)) size mb pv' -> But S σ τ -> K (.tup []) τ) : Zau Try.prog 61 [.raw (sV k), ptr f0.b 0, ptr b5 0, ptr b7 0, ptr b3 0] σ K := by
 obtain ⟨p1, p2, p3⟩ := h.file f0 hf0
 refine ZaA ZaL Try.func61 rfl rfl rfl (Nat.le_of_ble_eq_true rfl) ?_
 refine Zcm 1 2 3 4 (v0 := ptr f0.b 0) (v1 := ptr b5 0) (v2 := ptr b7 0) (v3 := ptr b3 0) rfl rfl rfl rfl ?_
 intro e he
 refine Zac ?_
 refine Zcq (fun env υ => (env 1 = ptr f0.b 0 /\ env 2 = ptr b5 0 /\ env 3 = ptr b7 0 /\ env 4 = ptr b3 0 /\ env 17 = vT (decide (n < 0 \/ (f0.d.length : Int) < n))) /\ υ = σ) ?_ ?_
 ·refine Zfr ?_
  refine ⟨[0, 1, 2, 4, 5, 6, 3, 7, 8, 9, 10], [[], [0], [0, 1], [0, 1, 2], [0, 1, 2], [0, 1, 2, 4], [0, 1, 2, 4, 5], [0, 1, 2, 4, 5, 6], [0, 1, 2, 4, 5, 6, 7], [0, 1, 2, 3, 4, 5, 6, 7, 8], [0, 1, 2, 3, 4, 5, 6, 7, 8, 9]], fun _ => True, [], [], [], by kernel_rfl, ?_⟩
  apply Zao
  case hi => simp only [HIX]; try rfl
  case hw => rfl
  case how => rfl
  refine Zar (b := b5) (o := 0) (r := .raw (.int .i64 n)) (by simp only [EV, Nat.reduceEqDiff, ↓reduceIte, he] <;> try rfl) hb5 Zek Zd5 rfl ?_
  refine ZaY ?_
  apply Zao
  case hi => simp only [HIX]; try rfl
  case hw => rfl
  case how => rfl
  refine Ztj (k := .i64) (a := n) (b := 0) (by simp only [EV, Nat.reduceEqDiff, ↓reduceIte, he] <;> try rfl) (by simp only [EV, Nat.reduceEqDiff, ↓reduceIte, he] <;> try rfl) ?_
  refine ZaY ?_
  by_cases hn : n < 0
  ·rw [decide_eq_true hn]
   apply Zao
   case hi => simp only [HIX]; try rfl
   case hw => rfl
   case how => rfl
   refine Zai rfl (by simp only [EV, Nat.reduceEqDiff, ↓reduceIte, he] <;> try rfl) ?_
   refine ZaY ?_
   apply ZiR
   case hi => simp only [HIX]; try rfl
   case hg => rfl
   case how => rfl
   apply ZiR
   case hi => simp only [HIX]; try rfl
   case hg => rfl
   case how => rfl
   apply ZiR
   case hi => simp only [HIX]; try rfl
   case hg => rfl
   case how => rfl
   apply ZiR
   case hi => simp only [HIX]; try rfl
   case hg => rfl
   case how => rfl
   apply ZiR
   case hi => simp only [HIX]; try rfl
   case hg => rfl
   case how => rfl
   apply ZiR
   case hi => simp only [HIX]; try rfl
   case hg => rfl
   case how => rfl
   apply ZiR
   case hi => simp only [HIX]; try rfl
   case hg => rfl
   case how => rfl
   apply Zao
   case hi => simp only [HIX]; try rfl
   case hw => rfl
   case how => rfl
   refine ZbP (v := vT true) (by simp only [EV, Nat.reduceEqDiff, ↓reduceIte, he] <;> try rfl) (by simp only [EV, Nat.reduceEqDiff, ↓reduceIte, he] <;> try rfl) ?_
   refine ZaY ?_
   refine Zfa ?_
   refine ⟨rfl, ⟨by simp only [EV, Nat.reduceEqDiff, ↓reduceIte, he] <;> try rfl, by simp only [EV, Nat.reduceEqDiff, ↓reduceIte, he] <;> try rfl, by simp only [EV, Nat.reduceEqDiff, ↓reduceIte, he] <;> try rfl, by simp only [EV, Nat.reduceEqDiff, ↓reduceIte, he] <;> try rfl, ?_⟩, rfl⟩
   rw [decide_eq_true (.inl hn)]
   simp only [EV, Nat.reduceEqDiff, ↓reduceIte, he] <;> try rfl
  ·rw [decide_eq_false hn]
   apply Zao
   case hi => simp only [HIX]; try rfl
   case hw => rfl
   case how => rfl
   refine Zai rfl (by simp only [EV, Nat.reduceEqDiff, ↓reduceIte, he] <;> try rfl) ?_
   refine ZaY ?_
   apply Zao
   case hi => simp only [HIX]; try rfl
   case hw => rfl
   case how => rfl
   refine Zai rfl (v := ptr f0.b 0) (by simp only [EV, Nat.reduceEqDiff, ↓reduceIte, he] <;> try rfl) ?_
   refine ZaY ?_
   apply Zao
   case hi => simp only [HIX]; try rfl
   case hw => rfl
   case how => rfl
   refine Zam (v := ptr f0.b 0) (by simp only [EV, Nat.reduceEqDiff, ↓reduceIte, he] <;> try rfl) rfl ?_
   refine ZaY ?_
   apply Zao
   case hi => simp only [HIX]; try rfl
   case hw => rfl
   case how => rfl
   refine Zae (b := f0.b) (o := 0) (by simp only [EV, Nat.reduceEqDiff, ↓reduceIte, he] <;> try rfl) ZeD rfl ?_
   refine ZaY ?_
   apply Zao
   case hi => simp only [HIX]; try rfl
   case hw => rfl
   case how => rfl
   refine Zar (b := b5) (o := 0) (r := .raw (.int .i64 n)) (by simp only [EV, Nat.reduceEqDiff, ↓reduceIte, he] <;> try rfl) hb5 Zek Zd5 rfl ?_
   refine ZaY ?_
   apply Zao
   case hi => simp only [HIX]; try rfl
   case hw => rfl
   case how => rfl
   refine Zar (b := f0.b) (o := 0 + 0) (r := f0.v) (by simp only [EV, Nat.reduceEqDiff, ↓reduceIte, he] <;> try rfl) p1 Zf4 ZcZ rfl ?_
   refine ZaY ?_
   apply Zao
   case hi => simp only [HIX]; try rfl
   case hw => rfl
   case how => rfl
   refine ZcT (by simp only [EV, Nat.reduceEqDiff, ↓reduceIte, he] <;> try rfl) p3 rfl Zb3 ?_
   refine ZaY ?_
   apply Zao
   case hi => simp only [HIX]; try rfl
   case hw => rfl
   case how => rfl
   refine ZlG (k := .i64) (a := n) (b := (f0.d.length : Int)) (by simp only [EV, Nat.reduceEqDiff, ↓reduceIte, he] <;> try rfl) (by simp only [EV, Nat.reduceEqDiff, ↓reduceIte, he] <;> try rfl) ?_
   refine ZaY ?_
   apply Zao
   case hi => simp only [HIX]; try rfl
   case hw => rfl
   case how => rfl
   refine Zb4 (v := vT (decide ((f0.d.length : Int) < n))) (by simp only [EV, Nat.reduceEqDiff, ↓reduceIte, he] <;> try rfl) (by simp only [EV, Nat.reduceEqDiff, ↓reduceIte, he] <;> try rfl) ?_
   refine ZaY ?_
   refine Zfa ?_
   refine ⟨rfl, ⟨by simp only [EV, Nat.reduceEqDiff, ↓reduceIte, he] <;> try rfl, by simp only [EV, Nat.reduceEqDiff, ↓reduceIte, he] <;> try rfl, by simp only [EV, Nat.reduceEqDiff, ↓reduceIte, he] <;> try rfl, by simp only [EV, Nat.reduceEqDiff, ↓reduceIte, he] <;> try rfl, ?_⟩, rfl⟩
   rw [show decide (n < 0 \/ (f0.d.length : Int) < n) = decide ((f0.d.length : Int) < n) by congr 1; exact propext ⟨fun q => q.elim (fun q => absurd q hn) id, .inr⟩]
   simp only [EV, Nat.reduceEqDiff, ↓reduceIte, he] <;> try rfl
 clear he e
 rintro e _ ⟨he, rfl⟩
 refine ZaX (t := decide (n < 0 \/ (f0.d.length : Int) < n)) (by simp only [EV, Nat.reduceEqDiff, ↓reduceIte, he] <;> try rfl) (fun hb => ?_) (fun hb => ?_)
 ·first | refine Zaa ?_ | refine Zad ?_ | (refine Zac ?_; refine Zaa ?_) | (refine Zac ?_; refine Zac ?_; refine Zaa ?_)
  refine Zab ?_
  refine Zdu (b := b7) (o := 0) (v := vI 2) (by simp only [EV, Nat.reduceEqDiff, ↓reduceIte, he] <;> try rfl) (by simp only [EV, Nat.reduceEqDiff, ↓reduceIte, he] <;> try rfl) hb7 Zmk ⟨rfl, rfl, rfl⟩ (Nat.zero_lt_succ _) fun τ hbτ kτ => ?_
  refine Zah ?_
  refine ZhV ?_
  exact ⟨_, Zdo rfl, hK2 (of_decide_eq_true hb) τ hbτ kτ⟩
 ·have hb := of_decide_eq_false hb
  have h0 : 0 <= n := by omega
  have h1 : n <= (f0.d.length : Int) := by omega
  obtain ⟨m, rfl⟩ : ∃ m : Nat, n = m := ⟨n.toNat, by omega⟩
  rw [Int.toNat_natCast] at hK0
  refine Zbb ?_
  refine Zfr ?_
  refine ⟨[3, 4, 5, 6, 0, 1, 2, 7, 8, 9, 10, 11], [[], [0], [0, 1], [], [], [4], [4, 5], [4, 5, 6], [4, 5, 6, 7], [], [4, 5, 6, 7, 8, 9], [0, 1, 2, 3, 4, 5, 6, 7, 8, 9, 10]], fun _ => True, [], [], [], by kernel_rfl, ?_⟩
  apply Zao
  case hi => simp only [HIX]; try rfl
  case hw => rfl
  case how => rfl
  refine Zai rfl (by simp only [EV, Nat.reduceEqDiff, ↓reduceIte, he] <;> try rfl) ?_
  refine ZaY ?_
  apply Zao
  case hi => simp only [HIX]; try rfl
  case hw => rfl
  case how => rfl
  refine Zai rfl (by simp only [EV, Nat.reduceEqDiff, ↓reduceIte, he] <;> try rfl) ?_
  refine ZaY ?_
  apply Zao
  case hi => simp only [HIX]; try rfl
  case hw => rfl
  case how => rfl
  refine Zam (v := ptr f0.b 0) (by simp only [EV, Nat.reduceEqDiff, ↓reduceIte, he] <;> try rfl) rfl ?_
  refine ZaY ?_
  apply Zao
  case hi => simp only [HIX]; try rfl
  case hw => rfl
  case how => rfl
  refine Zae (b := f0.b) (o := 0) (by simp only [EV, Nat.reduceEqDiff, ↓reduceIte, he] <;> try rfl) ZeD rfl ?_
  refine ZaY ?_
  apply Zao
  case hi => simp only [HIX]; try rfl
  case hw => rfl
  case how => rfl
  refine Zar (b := b3) (o := 0) (r := ptr bb 0) (by simp only [EV, Nat.reduceEqDiff, ↓reduceIte, he] <;> try rfl) hb3 ZdP ZdQ rfl ?_
  refine ZaY ?_
  apply Zao
  case hi => simp only [HIX]; try rfl
  case hw => rfl
  case how => rfl
  refine Zam (v := ptr bb 0) (by simp only [EV, Nat.reduceEqDiff, ↓reduceIte, he] <;> try rfl) rfl ?_
  refine ZaY ?_
  apply Zao
  case hi => simp only [HIX]; try rfl
  case hw => rfl
  case how => rfl
  refine Zae (b := bb) (o := 0) (by simp only [EV, Nat.reduceEqDiff, ↓reduceIte, he] <;> try rfl) Za3 rfl ?_
  refine ZaY ?_
  apply Zao
  case hi => simp only [HIX]; try rfl
  case hw => rfl
  case how => rfl
  refine Zar (b := f0.b) (o := 0 + 0) (r := f0.v) (by simp only [EV, Nat.reduceEqDiff, ↓reduceIte, he] <;> try rfl) p1 Zf4 ZcZ rfl ?_
  refine ZaY ?_
  apply Zao
  case hi => simp only [HIX]; try rfl
  case hw => rfl
  case how => rfl
  refine ZcT (by simp only [EV, Nat.reduceEqDiff, ↓reduceIte, he] <;> try rfl) p3 rfl Zb3 ?_
  refine ZaY ?_
  apply Zao
  case hi => simp only [HIX]; try rfl
  case hw => rfl
  case how => rfl
  refine Zar (b := b5) (o := 0) (r := .raw (.int .i64 (m : Int))) (by simp only [EV, Nat.reduceEqDiff, ↓reduceIte, he] <;> try rfl) hb5 Zek Zd5 rfl ?_
  refine ZaY ?_
  apply Zao
  case hi => simp only [HIX]; try rfl
  case hw => rfl
  case how => rfl
  refine ZfQ (f0.d.length : Int) (m : Int) (by simp only [EV, Nat.reduceEqDiff, ↓reduceIte, he] <;> try rfl) (by simp only [EV, Nat.reduceEqDiff, ↓reduceIte, he] <;> try rfl) (by omega) (by omega) ?_
  refine ZaY ?_
  rw [show ((f0.d.length : Int) - (m : Int)) = ((f0.d.length - m : Nat) : Int) by omega]
  apply Zao
  case hi => simp only [HIX]; try rfl
  case hw => rfl
  case how => rfl
  refine Zas (vs := [ptr bb 0, ptr f0.b 0, vI (f0.d.length - m : Nat)]) (by simp only [List.map_cons, List.map_nil, EV, Nat.reduceEqDiff, ↓reduceIte, he] <;> try rfl) ?_
  refine Zjj h hl hs hf0 (m := f0.d.length - m) (Nat.sub_le _ _) hd fun τ v' pv' d1 d2 => ?_
  refine ⟨(fun hf => by cases hf), ?_⟩
  refine Zfa ?_
  rw [show f0.d.length - (f0.d.length - m) = m by omega] at d1
  exact ⟨_, Zdo rfl, hK0 h0 h1 τ v' pv' d1 d2⟩
end
end Go.Proofs.Ytinpiaibhjmfaaa
namespace Go.Proofs.Ytinpiaibhjmfaaa
open Go.RowKit
set_option maxRecDepth 100000
set_option linter.unusedVariables false
set_option linter.unusedSimpArgs false
def Zjm : List (List UInt8) -> List Fl -> List (Nat × Nat) -> List Fl × List (Nat × Nat) × Nat
 | [], fs, pcs => (fs, pcs, 0)
 | n :: ns, fs, pcs => match Zf3 (ZaV fs) n with
  | none => (fs, pcs, 6)
  | some fb => Zjm ns (Zeb n fs) (pcs.filter fun p => !decide (p.1 = fb))
theorem Zlq {fs : List Fl} {n : List UInt8} {ns : List (List UInt8)} {pcs : List (Nat × Nat)} (h : Zf3 (ZaV fs) n = none) : Zjm (n :: ns) fs pcs = (fs, pcs, 6) := by
 unfold Zjm
 rw [h]
theorem Zlr {fs : List Fl} {n : List UInt8} {ns : List (List UInt8)} {pcs : List (Nat × Nat)} {fb : Nat} (h : Zf3 (ZaV fs) n = some fb) : Zjm (n :: ns) fs pcs = Zjm ns (Zeb n fs) (pcs.filter fun p => !decide (p.1 = fb)) := by
 conv => lhs; unfold Zjm
 rw [h]
theorem Zrm {fs : List Fl} {pcs : List (Nat × Nat)} : Zjm [] fs pcs = (fs, pcs, 0) := rfl
def rnP (fs : List Fl) (pcs : List (Nat × Nat)) (to : List UInt8) : List (Nat × Nat) := match Zf3 (ZaV fs) to with
 | none => pcs
 | some ob => pcs.filter fun p => !decide (p.1 = ob)
def rnF (fs : List Fl) (f0 : Fl) (to : List UInt8) : List Fl := Zeb f0.nm (Zeb to fs) ++ [⟨to, f0.b, f0.v, f0.d⟩]
section
variable {σ : St} {bb mb : Nat} {S : Nat -> Prop} {fs : List Fl} {pcs : List (Nat × Nat)} {size : Int} {pv : AV} {K : AV -> St -> Prop}
theorem ZtW (h : DAt σ bb S fs pcs size mb pv) (hl : pcs.length <= 1000000000) {v : AV} {ns : List (List UInt8)} (hN : ZeP σ v ns) (hNS : ∀ c, hbk v = some c -> ¬ S c) (hnl : ns.length <= 1000000000)
 (hK : ∀ τ pv', DAt τ bb S (Zjm ns fs pcs).1 (Zjm ns fs pcs).2.1 size mb pv' -> But S σ τ -> K (vI (Zjm ns fs pcs).2.2) τ) : Zau Try.prog 31 [ptr bb 0, v] σ K := by
 refine ZaA ZaL Try.func31 rfl rfl rfl (Nat.le_of_ble_eq_true rfl) ?_
 refine ZcW 0 1 (v0 := ptr bb 0) (v1 := v) rfl rfl ?_
 intro e he
 first | refine Zaa ?_ | refine Zad ?_ | (refine Zac ?_; refine Zaa ?_) | (refine Zac ?_; refine Zac ?_; refine Zaa ?_)
 refine Zab (Zai rfl (by simp only [EV, Nat.reduceEqDiff, ↓reduceIte, he] <;> try rfl) ?_)
 refine Zah ?_
 apply ZcW 0 1
 ·simp only [EV, Nat.reduceEqDiff, ↓reduceIte, he] <;> try rfl
 ·simp only [EV, Nat.reduceEqDiff, ↓reduceIte, he] <;> try rfl
 clear he e
 intro e he
 first | refine Zaa ?_ | refine Zad ?_ | (refine Zac ?_; refine Zaa ?_) | (refine Zac ?_; refine Zac ?_; refine Zaa ?_)
 refine Zab (Zai rfl (by simp only [EV, Nat.reduceEqDiff, ↓reduceIte, he] <;> try rfl) ?_)
 refine Zab (Zai rfl (by simp only [EV, Nat.reduceEqDiff, ↓reduceIte, he] <;> try rfl) ?_)
 refine Zab ?_
 refine ZpF (us := [ptr bb 0]) (vs := []) (by simp only [List.map_cons, List.map_nil, EV, Nat.reduceEqDiff, ↓reduceIte, he] <;> try rfl) rfl ?_
 refine Zab (Zai rfl (by simp only [EV, Nat.reduceEqDiff, ↓reduceIte, he] <;> try rfl) ?_)
 refine Zab ?_
 refine Zas (vs := [ptr bb 0, fnG 63 #[.pointer (some ⟨bb, 0, none⟩)] #[], v]) (by simp only [List.map_cons, List.map_nil, EV, Nat.reduceEqDiff, ↓reduceIte, he] <;> try rfl) ?_
 have hfin : ∀ (a : Nat) (τ : St), (∃ pv', DAt τ bb S (Zjm ns fs pcs).1 (Zjm ns fs pcs).2.1 size mb pv') -> But S σ τ -> a = (Zjm ns fs pcs).2.2 -> K (vI a) τ := fun a τ ⟨pv', q1⟩ q2 q3 => by
  rw [q3]; exact hK τ pv' q1 q2
 refine Zkb (fun i υ => ∃ fs' pcs' pv', DAt υ bb S fs' pcs' size mb pv' /\ pcs'.length <= 1000000000 /\ Zjm (ns.drop i) fs' pcs' = Zjm ns fs pcs /\ But S σ υ /\ ZeP υ v ns) h hN hnl ⟨fs, pcs, pv, h, hl, rfl, .refl _ _, hN⟩ (fun i hi υ => ?_) (fun υ => ?_)
 ·rintro ⟨fs', pcs', pv', g1, g2, g3, g4, g6⟩
  rw [List.drop_eq_getElem_cons hi] at g3
  refine ⟨S, fs', pcs', size, mb, pv', g1, g6, fun hg => ?_, fun fb hg => ?_⟩
  ·rw [Zlq hg] at g3
   refine Zab (Zai rfl (by simp only [EV, Nat.reduceEqDiff, ↓reduceIte, he] <;> try rfl) ?_)
   refine Zah ?_
   refine ZaW ?_
   refine ⟨_, ZaD rfl (by simp only [EV, Nat.reduceEqDiff, ↓reduceIte, he] <;> try rfl), hfin 6 υ ⟨pv', ?_⟩ g4 ?_⟩
   ·rw [<- g3]; exact g1
   ·rw [<- g3]
  ·rw [Zlr hg] at g3
   obtain ⟨f0, hf0, hnm, rfl⟩ := ZcO hg
   show Zau Try.prog 63 [ptr bb 0, .raw (sV ns[i]), ptr f0.b 0] υ _
   rw [<- hnm] at g3 ⊢
   refine Zp7 g1 g2 hf0 fun τ pv2 k1 k2 => ⟨_, _, pv2, k1, Nat.le_trans (List.length_filter_le _ _) g2, g3, g4.trans k2, g6.but k2 hNS⟩
 ·rintro ⟨fs', pcs', pv', g1, g2, g3, g4, g6⟩
  rw [List.drop_eq_nil_of_le (Nat.le_refl _), Zrm] at g3
  refine Zab (Zai rfl (by simp only [EV, Nat.reduceEqDiff, ↓reduceIte, he] <;> try rfl) ?_)
  refine Zah ?_
  refine ZaW ?_
  refine ⟨_, ZaD rfl (by simp only [EV, Nat.reduceEqDiff, ↓reduceIte, he] <;> try rfl), hfin 0 υ ⟨pv', ?_⟩ g4 ?_⟩
  ·rw [<- g3]; exact g1
  ·rw [<- g3]
theorem ZtX (h : DAt σ bb S fs pcs size mb pv) (hS : ∀ c, S c -> σ.used c) (hl : pcs.length <= 1000000000) (hs : ∀ p ∈ pcs, p.2 <= 1000000000) (hfl : ∀ f ∈ fs, f.d.length <= 1000000000) {k : List UInt8} {n : Int}
 (hK6 : (∀ f ∈ fs, f.nm ≠ k) -> ∀ τ, Ext σ τ -> K (vI 6) τ)
 (hK2 : ∀ f0 ∈ fs, f0.nm = k -> (n < 0 \/ (f0.d.length : Int) < n) -> ∀ τ, Ext σ τ -> K (vI 2) τ)
 (hK0 : ∀ f0 ∈ fs, f0.nm = k -> 0 <= n -> n <= (f0.d.length : Int) -> ∀ τ v' pv', DAt τ bb S (fs.map (Zcd f0.b v' (f0.d.take n.toNat))) ((shr f0.b (f0.d.length - n.toNat) pcs).filter fun p => !decide (p.2 = 0)) size mb pv' -> But S σ τ -> K (vI 0) τ) : Zau Try.prog 29 [ptr bb 0, .raw (sV k), .raw (.int .i64 n)] σ K := by
 refine ZaA ZaL Try.func29 rfl rfl rfl (Nat.le_of_ble_eq_true rfl) ?_
 refine ZcX 0 1 2 (v0 := ptr bb 0) (v1 := .raw (sV k)) (v2 := .raw (.int .i64 n)) rfl rfl rfl ?_
 intro e he
 first | refine Zaa ?_ | refine Zad ?_ | (refine Zac ?_; refine Zaa ?_) | (refine Zac ?_; refine Zac ?_; refine Zaa ?_)
 refine Zab ?_
 refine ZfU (cs := [ptr bb 0]) (v := ptr bb 0) (by simp only [EV, Nat.reduceEqDiff, ↓reduceIte, he] <;> try rfl) rfl fun b3 σ1 hn3 hu3 hb3 hub3 hX1 => ?_
 refine Zab ?_
 refine ZfU (cs := [.raw (.int .i64 n)]) (v := .raw (.int .i64 n)) (by simp only [EV, Nat.reduceEqDiff, ↓reduceIte, he] <;> try rfl) rfl fun b5 σ2 hn5 hu5 hb5 hub5 hX2 => ?_
 refine Zab (Zai rfl (by simp only [EV, Nat.reduceEqDiff, ↓reduceIte, he] <;> try rfl) ?_)
 refine Zah ?_
 apply ZcX 1 3 5
 ·simp only [EV, Nat.reduceEqDiff, ↓reduceIte, he] <;> try rfl
 ·simp only [EV, Nat.reduceEqDiff, ↓reduceIte, he] <;> try rfl
 ·simp only [EV, Nat.reduceEqDiff, ↓reduceIte, he] <;> try rfl
 clear he e
 intro e he
 first | refine Zaa ?_ | refine Zad ?_ | (refine Zac ?_; refine Zaa ?_) | (refine Zac ?_; refine Zac ?_; refine Zaa ?_)
 refine Zab ?_
 refine ZhW ZsS rfl fun b7 σ3 hn7 hu7 hb7 hub7 hX3 => ?_
 refine Zab ?_
 refine Zdu (b := b7) (o := 0) (v := vI 0) (by simp only [EV, Nat.reduceEqDiff, ↓reduceIte, he] <;> try rfl) (by simp only [EV, Nat.reduceEqDiff, ↓reduceIte, he] <;> try rfl) hb7 Zmk ⟨rfl, rfl, rfl⟩ (Nat.zero_lt_succ _) fun σ4 hb74 k4 => ?_
 refine Zah ?_
 have hX4 : Ext σ2 σ4 := But.ext hX3 (fun g hg => by rw [hg]; exact hn7) k4
 have hE4 : Ext σ σ4 := (hX1.trans hX2).trans hX4
 have h3S : ¬ S b3 := fun q => hu3 (hS _ q)
 have h5S : ¬ S b5 := fun q => hu5 (hX1.used _ (hS _ q))
 have h7S : ¬ S b7 := fun q => hu7 (hX2.used _ (hX1.used _ (hS _ q)))
 apply Zcm 1 3 5 7
 ·simp only [EV, Nat.reduceEqDiff, ↓reduceIte, he] <;> try rfl
 ·simp only [EV, Nat.reduceEqDiff, ↓reduceIte, he] <;> try rfl
 ·simp only [EV, Nat.reduceEqDiff, ↓reduceIte, he] <;> try rfl
 ·simp only [EV, Nat.reduceEqDiff, ↓reduceIte, he] <;> try rfl
 clear he e
 intro e he
 refine Zcq (fun env υ => ∃ r : Nat, (env 7 = ptr b7 0 /\ env 8 = vI r) /\ (r ≠ 0 -> K (vI r) υ) /\ (r = 0 -> ∃ x : Nat, υ.blk b7 = some (.own 33 [vI x]) /\ K (vI x) υ)) ?_ ?_
 ·first | refine Zaa ?_ | refine Zad ?_ | (refine Zac ?_; refine Zaa ?_) | (refine Zac ?_; refine Zac ?_; refine Zaa ?_)
  refine Zab ?_
  refine Zar (b := b3) (o := 0) (r := ptr bb 0) (by simp only [EV, Nat.reduceEqDiff, ↓reduceIte, he] <;> try rfl) (hX4.keep _ _ (hX2.keep _ _ hb3)) ZdP ZdQ rfl ?_
  refine Zab ?_
  refine ZgE (vs := [ptr b5 0, ptr b7 0, ptr b3 0]) (by simp only [List.map_cons, List.map_nil, EV, Nat.reduceEqDiff, ↓reduceIte, he] <;> try rfl) ?_
  refine Zab (Zai rfl (by simp only [EV, Nat.reduceEqDiff, ↓reduceIte, he] <;> try rfl) ?_)
  refine Zab ?_
  refine Zgl (vs := [.raw (sV k)]) (cells := [.raw (sV k)]) (by simp only [List.map_cons, List.map_nil, EV, Nat.reduceEqDiff, ↓reduceIte, he] <;> try rfl) Zfd ZcR Zp6 rfl (by omega) rfl rfl fun b12 σ5 hN5 hX5 => ?_
  have hE5 := hE4.trans hX5
  have h5 := h.ext hE5
  have hb35 := hX5.keep _ _ (hX4.keep _ _ (hX2.keep _ _ hb3))
  have hb55 := hX5.keep _ _ (hX4.keep _ _ hb5)
  have hb75 := hX5.keep _ _ hb74
  have hNm : ∀ υ, ZeP υ (.lst (some ⟨b12, 0, none⟩) 1 1 [.raw (sV k)]) [k] := fun υ => .inl ⟨some ⟨b12, 0, none⟩, 1, [], rfl, fun q => (by cases q)⟩
  refine Zab ?_
  refine Zas (vs := [ptr bb 0, fnG 61 #[] #[.pointer (some ⟨b5, 0, none⟩), .pointer (some ⟨b7, 0, none⟩), .pointer (some ⟨b3, 0, none⟩)], .lst (some ⟨b12, 0, none⟩) 1 1 [.raw (sV k)]]) (by simp only [List.map_cons, List.map_nil, EV, Nat.reduceEqDiff, ↓reduceIte, he] <;> try rfl) ?_
  refine Zkb (ns := [k]) (fun i υ => match i with
   | 0 => υ = σ5
   | _ => (∃ f0 ∈ fs, f0.nm = k /\ (n < 0 \/ (f0.d.length : Int) < n) /\ Ext σ υ /\ υ.blk b7 = some (.own 33 [vI 2])) \/ ∃ f0 ∈ fs, f0.nm = k /\ 0 <= n /\ n <= (f0.d.length : Int) /\ υ.blk b7 = some (.own 33 [vI 0]) /\ But S σ υ /\ ∃ v' pv', DAt υ bb S (fs.map (Zcd f0.b v' (f0.d.take n.toNat))) ((shr f0.b (f0.d.length - n.toNat) pcs).filter fun p => !decide (p.2 = 0)) size mb pv') h5 (hNm _) (by simp) rfl (fun i hi υ hI => ?_) (fun υ hI => ?_)
  ·obtain rfl : i = 0 := by simp at hi; exact hi
   have hI : υ = σ5 := hI
   subst hI
   refine ⟨S, fs, pcs, size, mb, pv, h5, hNm _, fun hg => ?_, fun fb hg => ?_⟩
   ·refine Zab (Zai rfl (by simp only [EV, Nat.reduceEqDiff, ↓reduceIte, he] <;> try rfl) ?_)
    refine Zah ?_
    refine ⟨rfl, 6, ⟨by simp only [EV, Nat.reduceEqDiff, ↓reduceIte, he] <;> try rfl, by simp only [EV, Nat.reduceEqDiff, ↓reduceIte, he] <;> try rfl⟩, fun _ => hK6 (ZcP.1 hg) _ hE5, fun q => absurd q (by decide)⟩
   ·obtain ⟨f0, hf0, hnm, rfl⟩ := ZcO hg
    refine ZsT (n := n) h5 hl hs hf0 (hfl f0 hf0) hb55 hb75 hb35 (fun hbad τ hτ kτ => ?_) fun q0 q1 τ v' pv' d1 d2 => ?_
    ·exact .inl ⟨f0, hf0, hnm, hbad, But.ext hE5 (fun c hc => by rw [hc]; exact Zde.of ⟨hn7, hu7⟩ (hX1.trans hX2) |>.1) kτ, hτ⟩
    ·exact .inr ⟨f0, hf0, hnm, q0, q1, d2.keep _ _ h7S hb75, hE5.but.trans d2, v', pv', d1⟩
  ·refine Zab (Zai rfl (by simp only [EV, Nat.reduceEqDiff, ↓reduceIte, he] <;> try rfl) ?_)
   refine Zah ?_
   refine ⟨rfl, 0, ⟨by simp only [EV, Nat.reduceEqDiff, ↓reduceIte, he] <;> try rfl, by simp only [EV, Nat.reduceEqDiff, ↓reduceIte, he] <;> try rfl⟩, fun q => absurd rfl q, fun _ => ?_⟩
   rcases hI with ⟨f0, hf0, hnm, hbad, hX, h7⟩ | ⟨f0, hf0, hnm, q0, q1, h7, hB, v', pv', hd⟩
   ·exact ⟨2, h7, hK2 f0 hf0 hnm hbad υ hX⟩
   ·exact ⟨0, h7, hK0 f0 hf0 hnm q0 q1 υ v' pv' hd hB⟩
 clear he e
 rintro e υ ⟨r, he, g1, g2⟩
 first | refine Zaa ?_ | refine Zad ?_ | (refine Zac ?_; refine Zaa ?_) | (refine Zac ?_; refine Zac ?_; refine Zaa ?_)
 refine Zab (Zai rfl (by simp only [EV, Nat.reduceEqDiff, ↓reduceIte, he] <;> try rfl) ?_)
 refine Zab ?_
 refine ZjA (k := .i64) (a := (r : Int)) (b := 0) (by simp only [EV, Nat.reduceEqDiff, ↓reduceIte, he] <;> try rfl) (by simp only [EV, Nat.reduceEqDiff, ↓reduceIte, he] <;> try rfl) ?_
 refine Zah ?_
 apply ZcX 7 8 15
 ·simp only [EV, Nat.reduceEqDiff, ↓reduceIte, he] <;> try rfl
 ·simp only [EV, Nat.reduceEqDiff, ↓reduceIte, he] <;> try rfl
 ·simp only [EV, Nat.reduceEqDiff, ↓reduceIte, he] <;> try rfl
 clear he e
 intro e he
 refine ZaX (t := decide ((r : Int) ≠ 0)) (by simp only [EV, Nat.reduceEqDiff, ↓reduceIte, he] <;> try rfl) (fun hr => ?_) (fun hr => ?_)
 ·have hr := of_decide_eq_true hr
  first | refine Zaa ?_ | refine Zad ?_ | (refine Zac ?_; refine Zaa ?_) | (refine Zac ?_; refine Zac ?_; refine Zaa ?_)
  refine Zab (Zai rfl (by simp only [EV, Nat.reduceEqDiff, ↓reduceIte, he] <;> try rfl) ?_)
  refine Zab (Zai rfl (by simp only [EV, Nat.reduceEqDiff, ↓reduceIte, he] <;> try rfl) ?_)
  refine Zah ?_
  refine ZhV ?_
  show ∃ r, Zan _ _ _ _ r /\ _
  exact ⟨_, ZaD rfl (by simp only [EV, Nat.reduceEqDiff, ↓reduceIte, he] <;> try rfl), g1 (by omega)⟩
 ·have hr := of_decide_eq_false hr
  obtain ⟨x, h7, hKx⟩ := g2 (by omega)
  refine Zbb ?_
  first | refine Zaa ?_ | refine Zad ?_ | (refine Zac ?_; refine Zaa ?_) | (refine Zac ?_; refine Zac ?_; refine Zaa ?_)
  refine Zab ?_
  refine Zar (b := b7) (o := 0) (r := vI x) (by simp only [EV, Nat.reduceEqDiff, ↓reduceIte, he] <;> try rfl) h7 ZsR Zmk rfl ?_
  refine Zab (Zai rfl (by simp only [EV, Nat.reduceEqDiff, ↓reduceIte, he] <;> try rfl) ?_)
  refine Zah ?_
  refine ZaW ?_
  show ∃ r, Zan _ _ _ _ r /\ _
  exact ⟨_, ZaD rfl (by simp only [EV, Nat.reduceEqDiff, ↓reduceIte, he] <;> try rfl), hKx⟩
theorem ZsU {k to : List UInt8} {b2 b3 b4 : Nat} (h : DAt σ bb S fs pcs size mb pv) (hl : pcs.length <= 1000000000) {f0 : Fl} (hf0 : f0 ∈ fs) (hb2 : σ.blk b2 = some (.own 9 [.raw (sV f0.nm)])) (hb3 : σ.blk b3 = some (.own 9 [.raw (sV to)])) (hb4 : σ.blk b4 = some (.own 30 [ptr bb 0])) (hn2 : ¬ S b2) (hn3 : ¬ S b3) (hn4 : ¬ S b4)
 (hK1 : f0.nm = to -> K (.tup []) σ) (hK2 : f0.nm ≠ to -> ∀ τ pv', DAt τ bb S (rnF fs f0 to) (rnP fs pcs to) size mb pv' -> But S σ τ -> K (.tup []) τ) : Zau Try.prog 62 [.raw (sV k), ptr f0.b 0, ptr b2 0, ptr b3 0, ptr b4 0] σ K := by
 refine ZaA ZaL Try.func62 rfl rfl rfl (Nat.le_of_ble_eq_true rfl) ?_
 refine Zcm 1 2 3 4 (v0 := ptr f0.b 0) (v1 := ptr b2 0) (v2 := ptr b3 0) (v3 := ptr b4 0) rfl rfl rfl rfl ?_
 intro e he
 first | refine Zaa ?_ | refine Zad ?_ | (refine Zac ?_; refine Zaa ?_) | (refine Zac ?_; refine Zac ?_; refine Zaa ?_)
 refine Zab ?_
 refine Zar (b := b2) (o := 0) (r := .raw (sV f0.nm)) (by simp only [EV, Nat.reduceEqDiff, ↓reduceIte, he] <;> try rfl) hb2 ZdO ZcR rfl ?_
 refine Zab ?_
 refine Zar (b := b3) (o := 0) (r := .raw (sV to)) (by simp only [EV, Nat.reduceEqDiff, ↓reduceIte, he] <;> try rfl) hb3 ZdO ZcR rfl ?_
 refine Zab ?_
 refine Zq4 (a := f0.nm) (c := to) Zel (by simp only [EV, Nat.reduceEqDiff, ↓reduceIte, he] <;> try rfl) (by simp only [EV, Nat.reduceEqDiff, ↓reduceIte, he] <;> try rfl) ?_
 refine Zah ?_
 apply ZcI 1 2 3 4 10
 ·simp only [EV, Nat.reduceEqDiff, ↓reduceIte, he] <;> try rfl
 ·simp only [EV, Nat.reduceEqDiff, ↓reduceIte, he] <;> try rfl
 ·simp only [EV, Nat.reduceEqDiff, ↓reduceIte, he] <;> try rfl
 ·simp only [EV, Nat.reduceEqDiff, ↓reduceIte, he] <;> try rfl
 ·simp only [EV, Nat.reduceEqDiff, ↓reduceIte, he] <;> try rfl
 clear he e
 intro e he
 refine ZaX (t := decide (f0.nm = to)) (by simp only [EV, Nat.reduceEqDiff, ↓reduceIte, he] <;> try rfl) (fun hq => ?_) (fun hq => ?_)
 ·refine ZhV ?_
  exact ⟨_, Zdo rfl, hK1 (of_decide_eq_true hq)⟩
 have hq := of_decide_eq_false hq
 refine Zbb ?_
 refine Zcq (fun env υ => (env 1 = ptr f0.b 0 /\ env 2 = ptr b2 0 /\ env 3 = ptr b3 0 /\ env 4 = ptr b4 0) /\ But S σ υ /\ ∃ pv', DAt υ bb S (Zeb to fs) (rnP fs pcs to) size mb pv') ?_ ?_
 ·refine ZgU ?_
  refine ⟨[0, 1, 2, 3, 4, 5, 6], [[], [0], [0, 1], [0, 1, 2], [], [0, 1, 2, 3, 4], [0, 1, 2, 3, 4, 5]], fun _ => True, [], [], [], by kernel_rfl, ?_⟩
  apply Zao
  case hi => simp only [HIX]; try rfl
  case hw => rfl
  case how => rfl
  refine Zar (b := b4) (o := 0) (r := ptr bb 0) (by simp only [EV, Nat.reduceEqDiff, ↓reduceIte, he] <;> try rfl) hb4 ZdP ZdQ rfl ?_
  refine ZaY ?_
  apply Zao
  case hi => simp only [HIX]; try rfl
  case hw => rfl
  case how => rfl
  refine Zam (v := ptr bb 0) (by simp only [EV, Nat.reduceEqDiff, ↓reduceIte, he] <;> try rfl) rfl ?_
  refine ZaY ?_
  apply Zao
  case hi => simp only [HIX]; try rfl
  case hw => rfl
  case how => rfl
  refine Zae (b := bb) (o := 0) (by simp only [EV, Nat.reduceEqDiff, ↓reduceIte, he] <;> try rfl) Za3 rfl ?_
  refine ZaY ?_
  apply Zao
  case hi => simp only [HIX]; try rfl
  case hw => rfl
  case how => rfl
  refine Zar (b := bb) (o := 0 + 1) (r := Zbv mb) (by simp only [EV, Nat.reduceEqDiff, ↓reduceIte, he] <;> try rfl) h.obj ZcN ZcM rfl ?_
  refine ZaY ?_
  apply Zao
  case hi => simp only [HIX]; try rfl
  case hw => rfl
  case how => rfl
  refine Zar (b := b3) (o := 0) (r := .raw (sV to)) (by simp only [EV, Nat.reduceEqDiff, ↓reduceIte, he] <;> try rfl) hb3 ZdO ZcR rfl ?_
  refine ZaY ?_
  apply Zao
  case hi => simp only [HIX]; try rfl
  case hw => rfl
  case how => rfl
  refine Zej (k := to) (es := ZaV fs) (b := mb) (by simp only [EV, Nat.reduceEqDiff, ↓reduceIte, he] <;> try rfl) (by simp only [EV, Nat.reduceEqDiff, ↓reduceIte, he] <;> try rfl) h.map Zd6 Zel Zg6 ?_
  refine ZaY ?_
  apply Zao
  case hi => simp only [HIX]; try rfl
  case hw => rfl
  case how => rfl
  refine Zai rfl (by simp only [EV, Nat.reduceEqDiff, ↓reduceIte, he] <;> try rfl) ?_
  refine ZaY ?_
  refine Zfa ?_
  apply ZcI 1 2 3 4 7
  ·simp only [EV, Nat.reduceEqDiff, ↓reduceIte, he] <;> try rfl
  ·simp only [EV, Nat.reduceEqDiff, ↓reduceIte, he] <;> try rfl
  ·simp only [EV, Nat.reduceEqDiff, ↓reduceIte, he] <;> try rfl
  ·simp only [EV, Nat.reduceEqDiff, ↓reduceIte, he] <;> try rfl
  ·simp only [EV, Nat.reduceEqDiff, ↓reduceIte, he] <;> try rfl
  clear he e
  intro e he
  first | refine Zaa ?_ | refine Zad ?_ | (refine Zac ?_; refine Zaa ?_) | (refine Zac ?_; refine Zac ?_; refine Zaa ?_)
  refine Zab (Zai rfl (by simp only [EV, Nat.reduceEqDiff, ↓reduceIte, he] <;> try rfl) ?_)
  cases hg : Zf3 (ZaV fs) to with
  | none =>
   rw [hg] at he
   refine Zab ?_
   refine Zgm (p := none) ZdL (by simp only [EV, Nat.reduceEqDiff, ↓reduceIte, he] <;> try rfl) rfl (by simp only [EV, Nat.reduceEqDiff, ↓reduceIte, he] <;> try rfl) ?_
   refine Zah ?_
   refine ZbQ (t := false) (by simp only [EV, Nat.reduceEqDiff, ↓reduceIte, he] <;> try rfl) (fun hf => by cases hf) (fun _ => ?_)
   refine ZdC ?_
   refine ⟨rfl, ⟨by simp only [EV, Nat.reduceEqDiff, ↓reduceIte, he] <;> try rfl, by simp only [EV, Nat.reduceEqDiff, ↓reduceIte, he] <;> try rfl, by simp only [EV, Nat.reduceEqDiff, ↓reduceIte, he] <;> try rfl, by simp only [EV, Nat.reduceEqDiff, ↓reduceIte, he] <;> try rfl⟩, .refl _ _, pv, ?_⟩
   have e1 : rnP fs pcs to = pcs := by unfold rnP; rw [hg]
   rw [e1, Zlp (ZcP.1 hg)]
   exact h
  | some ob =>
   rw [hg] at he
   obtain ⟨g0, hg0, hgn, rfl⟩ := ZcO hg
   refine Zab ?_
   refine Zgm (p := some ⟨g0.b, 0, none⟩) ZdL (by simp only [EV, Nat.reduceEqDiff, ↓reduceIte, he] <;> try rfl) rfl (by simp only [EV, Nat.reduceEqDiff, ↓reduceIte, he] <;> try rfl) ?_
   refine Zah ?_
   apply Zgk 1 2 3 4 7 18
   ·simp only [EV, Nat.reduceEqDiff, ↓reduceIte, he] <;> try rfl
   ·simp only [EV, Nat.reduceEqDiff, ↓reduceIte, he] <;> try rfl
   ·simp only [EV, Nat.reduceEqDiff, ↓reduceIte, he] <;> try rfl
   ·simp only [EV, Nat.reduceEqDiff, ↓reduceIte, he] <;> try rfl
   ·simp only [EV, Nat.reduceEqDiff, ↓reduceIte, he] <;> try rfl
   ·simp only [EV, Nat.reduceEqDiff, ↓reduceIte, he] <;> try rfl
   clear he e
   intro e he
   refine ZbQ (t := true) (by simp only [EV, Nat.reduceEqDiff, ↓reduceIte, he] <;> try rfl) (fun _ => ?_) (fun hf => by cases hf)
   first | refine Zaa ?_ | refine Zad ?_ | (refine Zac ?_; refine Zaa ?_) | (refine Zac ?_; refine Zac ?_; refine Zaa ?_)
   refine Zab ?_
   refine Zar (b := b4) (o := 0) (r := ptr bb 0) (by simp only [EV, Nat.reduceEqDiff, ↓reduceIte, he] <;> try rfl) hb4 ZdP ZdQ rfl ?_
   refine Zab ?_
   refine Zar (b := b3) (o := 0) (r := .raw (sV to)) (by simp only [EV, Nat.reduceEqDiff, ↓reduceIte, he] <;> try rfl) hb3 ZdO ZcR rfl ?_
   refine Zab (Zai rfl (by simp only [EV, Nat.reduceEqDiff, ↓reduceIte, he] <;> try rfl) ?_)
   refine Zab ?_
   refine Zas (vs := [ptr bb 0, .raw (sV to), ptr g0.b 0]) (by simp only [List.map_cons, List.map_nil, EV, Nat.reduceEqDiff, ↓reduceIte, he] <;> try rfl) ?_
   rw [<- hgn]
   refine Zp7 h hl hg0 fun τ pv' d1 d2 => ?_
   refine Zah ?_
   refine ⟨rfl, ⟨by simp only [EV, Nat.reduceEqDiff, ↓reduceIte, he] <;> try rfl, by simp only [EV, Nat.reduceEqDiff, ↓reduceIte, he] <;> try rfl, by simp only [EV, Nat.reduceEqDiff, ↓reduceIte, he] <;> try rfl, by simp only [EV, Nat.reduceEqDiff, ↓reduceIte, he] <;> try rfl⟩, d2, pv', ?_⟩
   have e1 : rnP fs pcs g0.nm = pcs.filter fun p => !decide (p.1 = g0.b) := by
    unfold rnP
    rw [hgn, hg]
   rw [e1]
   exact d1
 clear he e
 rintro e υ ⟨he, hB, pv', hd⟩
 have hb2' := hB.keep _ _ hn2 hb2
 have hb3' := hB.keep _ _ hn3 hb3
 have hb4' := hB.keep _ _ hn4 hb4
 refine ZgU ?_
 refine ⟨[0, 1, 2, 3, 4, 5], [[], [0], [0, 1], [0, 1, 2], [], [0, 1, 2, 3, 4]], fun _ => True, [], [], [], by kernel_rfl, ?_⟩
 apply Zao
 case hi => simp only [HIX]; try rfl
 case hw => rfl
 case how => rfl
 refine Zar (b := b4) (o := 0) (r := ptr bb 0) (by simp only [EV, Nat.reduceEqDiff, ↓reduceIte, he] <;> try rfl) hb4' ZdP ZdQ rfl ?_
 refine ZaY ?_
 apply Zao
 case hi => simp only [HIX]; try rfl
 case hw => rfl
 case how => rfl
 refine Zam (v := ptr bb 0) (by simp only [EV, Nat.reduceEqDiff, ↓reduceIte, he] <;> try rfl) rfl ?_
 refine ZaY ?_
 apply Zao
 case hi => simp only [HIX]; try rfl
 case hw => rfl
 case how => rfl
 refine Zae (b := bb) (o := 0) (by simp only [EV, Nat.reduceEqDiff, ↓reduceIte, he] <;> try rfl) Za3 rfl ?_
 refine ZaY ?_
 apply Zao
 case hi => simp only [HIX]; try rfl
 case hw => rfl
 case how => rfl
 refine Zar (b := bb) (o := 0 + 1) (r := Zbv mb) (by simp only [EV, Nat.reduceEqDiff, ↓reduceIte, he] <;> try rfl) hd.obj ZcN ZcM rfl ?_
 refine ZaY ?_
 apply Zao
 case hi => simp only [HIX]; try rfl
 case hw => rfl
 case how => rfl
 refine Zar (b := b2) (o := 0) (r := .raw (sV f0.nm)) (by simp only [EV, Nat.reduceEqDiff, ↓reduceIte, he] <;> try rfl) hb2' ZdO ZcR rfl ?_
 refine ZaY ?_
 apply Zao
 case hi => simp only [HIX]; try rfl
 case hw => rfl
 case how => rfl
 refine Zlo (k := f0.nm) (es := ZaV (Zeb to fs)) (b := mb) (by simp only [EV, Nat.reduceEqDiff, ↓reduceIte, he] <;> try rfl) (by simp only [EV, Nat.reduceEqDiff, ↓reduceIte, he] <;> try rfl) hd.map Zd6 Zel fun υ2 hm2 k2 => ?_
 refine ⟨(fun hf => by cases hf), ?_⟩
 refine Zfa ?_
 have hne : ∀ c t cs, υ.blk c = some (.own t cs) -> υ2.blk c = some (.own t cs) := fun c t cs hc => k2.keep _ _ (fun q => ZbM hc hd.map q) hc
 apply Zcm 1 2 3 4
 ·simp only [EV, Nat.reduceEqDiff, ↓reduceIte, he] <;> try rfl
 ·simp only [EV, Nat.reduceEqDiff, ↓reduceIte, he] <;> try rfl
 ·simp only [EV, Nat.reduceEqDiff, ↓reduceIte, he] <;> try rfl
 ·simp only [EV, Nat.reduceEqDiff, ↓reduceIte, he] <;> try rfl
 clear he e
 intro e he
 refine Zfr ?_
 refine ⟨[5, 0, 1, 2, 3, 4, 6], [[], [0], [0, 1], [0, 1, 2], [], [], [0, 1, 2, 3, 4, 5]], fun _ => True, [], [], [], by kernel_rfl, ?_⟩
 apply Zao
 case hi => simp only [HIX]; try rfl
 case hw => rfl
 case how => rfl
 refine Zai rfl (by simp only [EV, Nat.reduceEqDiff, ↓reduceIte, he] <;> try rfl) ?_
 refine ZaY ?_
 apply Zao
 case hi => simp only [HIX]; try rfl
 case hw => rfl
 case how => rfl
 refine Zar (b := b4) (o := 0) (r := ptr bb 0) (by simp only [EV, Nat.reduceEqDiff, ↓reduceIte, he] <;> try rfl) (hne _ _ _ hb4') ZdP ZdQ rfl ?_
 refine ZaY ?_
 apply Zao
 case hi => simp only [HIX]; try rfl
 case hw => rfl
 case how => rfl
 refine Zam (v := ptr bb 0) (by simp only [EV, Nat.reduceEqDiff, ↓reduceIte, he] <;> try rfl) rfl ?_
 refine ZaY ?_
 apply Zao
 case hi => simp only [HIX]; try rfl
 case hw => rfl
 case how => rfl
 refine Zae (b := bb) (o := 0) (by simp only [EV, Nat.reduceEqDiff, ↓reduceIte, he] <;> try rfl) Za3 rfl ?_
 refine ZaY ?_
 apply Zao
 case hi => simp only [HIX]; try rfl
 case hw => rfl
 case how => rfl
 refine Zar (b := bb) (o := 0 + 1) (r := Zbv mb) (by simp only [EV, Nat.reduceEqDiff, ↓reduceIte, he] <;> try rfl) (hne _ _ _ hd.obj) ZcN ZcM rfl ?_
 refine ZaY ?_
 apply Zao
 case hi => simp only [HIX]; try rfl
 case hw => rfl
 case how => rfl
 refine Zar (b := b3) (o := 0) (r := .raw (sV to)) (by simp only [EV, Nat.reduceEqDiff, ↓reduceIte, he] <;> try rfl) (hne _ _ _ hb3') ZdO ZcR rfl ?_
 refine ZaY ?_
 apply Zao
 case hi => simp only [HIX]; try rfl
 case hw => rfl
 case how => rfl
 refine Zin (k := to) (n := f0.b) (es := Zpv (ZaV (Zeb to fs)) f0.nm) (b := mb) (by simp only [EV, Nat.reduceEqDiff, ↓reduceIte, he] <;> try rfl) (by simp only [EV, Nat.reduceEqDiff, ↓reduceIte, he] <;> try rfl) (by simp only [EV, Nat.reduceEqDiff, ↓reduceIte, he] <;> try rfl) hm2 Zd6 Zel fun υ3 hm3 k3 => ?_
 refine ⟨(fun hf => by cases hf), ?_⟩
 refine Zfa ?_
 have hf0' : f0 ∈ Zeb to fs := Zdv.2 ⟨hf0, hq⟩
 exact ⟨_, Zdo rfl, hK2 hq υ3 pv' (hd.movF hf0' (fun f hf => (Zdv.1 hf).2) (k2.trans k3) hm3) (hB.trans ((k2.trans k3).sub fun c hc => by rw [hc]; exact h.own.2.1))⟩
end
end Go.Proofs.Ytinpiaibhjmfaaa
namespace Go.Proofs.Ytinpiaibhjmfaaa
open Go.RowKit
set_option maxRecDepth 100000
set_option linter.unusedVariables false
set_option linter.unusedSimpArgs false
section
variable {σ : St} {bb mb : Nat} {S : Nat -> Prop} {fs : List Fl} {pcs : List (Nat × Nat)} {size : Int} {pv : AV} {K : AV -> St -> Prop}
theorem ZtY {fr to : List UInt8} (h : DAt σ bb S fs pcs size mb pv) (hS : ∀ c, S c -> σ.used c) (hl : pcs.length <= 1000000000)
 (hK2 : (∃ f ∈ fs, f.nm = fr) -> ¬ (to ≠ [] /\ to.length <= 40) -> ∀ τ, Ext σ τ -> K (vI 2) τ)
 (hK6 : (∀ f ∈ fs, f.nm ≠ fr) -> ∀ τ, Ext σ τ -> K (vI 6) τ)
 (hKs : ∀ f0 ∈ fs, f0.nm = fr -> fr = to -> ∀ τ, Ext σ τ -> K (vI 0) τ)
 (hK0 : ∀ f0 ∈ fs, f0.nm = fr -> fr ≠ to -> (to ≠ [] /\ to.length <= 40) -> ∀ τ pv', DAt τ bb S (rnF fs f0 to) (rnP fs pcs to) size mb pv' -> But S σ τ -> K (vI 0) τ) : Zau Try.prog 30 [ptr bb 0, .raw (sV fr), .raw (sV to)] σ K := by
 refine ZaA ZaL Try.func30 rfl rfl rfl (Nat.le_of_ble_eq_true rfl) ?_
 refine ZcX 0 1 2 (v0 := ptr bb 0) (v1 := .raw (sV fr)) (v2 := .raw (sV to)) rfl rfl rfl ?_
 intro e he
 first | refine Zaa ?_ | refine Zad ?_ | (refine Zac ?_; refine Zaa ?_) | (refine Zac ?_; refine Zac ?_; refine Zaa ?_)
 refine Zab ?_
 refine ZfU (cs := [ptr bb 0]) (v := ptr bb 0) (by simp only [EV, Nat.reduceEqDiff, ↓reduceIte, he] <;> try rfl) rfl fun b3 σ1 hn3 hu3 hb3 hub3 hX1 => ?_
 refine Zab ?_
 refine ZfU (cs := [.raw (sV fr)]) (v := .raw (sV fr)) (by simp only [EV, Nat.reduceEqDiff, ↓reduceIte, he] <;> try rfl) rfl fun b4 σ2 hn4 hu4 hb4 hub4 hX2 => ?_
 refine Zab ?_
 refine ZfU (cs := [.raw (sV to)]) (v := .raw (sV to)) (by simp only [EV, Nat.reduceEqDiff, ↓reduceIte, he] <;> try rfl) rfl fun b5 σ3 hn5 hu5 hb5 hub5 hX3 => ?_
 refine Zab (Zai rfl (by simp only [EV, Nat.reduceEqDiff, ↓reduceIte, he] <;> try rfl) ?_)
 refine Zah ?_
 have hE3 := (hX1.trans hX2).trans hX3
 have h3 := h.ext hE3
 have h3S : ¬ S b3 := fun q => hu3 (hS _ q)
 have h4S : ¬ S b4 := fun q => hu4 (hX1.used _ (hS _ q))
 have h5S : ¬ S b5 := fun q => hu5 (hX2.used _ (hX1.used _ (hS _ q)))
 have hb33 := hX3.keep _ _ (hX2.keep _ _ hb3)
 have hb43 := hX3.keep _ _ hb4
 apply ZcX 3 4 5
 ·simp only [EV, Nat.reduceEqDiff, ↓reduceIte, he] <;> try rfl
 ·simp only [EV, Nat.reduceEqDiff, ↓reduceIte, he] <;> try rfl
 ·simp only [EV, Nat.reduceEqDiff, ↓reduceIte, he] <;> try rfl
 clear he e
 intro e he
 refine Zac ?_
 refine Zcq (fun env υ => ∃ b : Bool, (env 3 = ptr b3 0 /\ env 4 = ptr b4 0 /\ env 5 = ptr b5 0 /\ env 22 = vT b) /\ Ext σ3 υ /\ (b = true -> (∃ f ∈ fs, f.nm = fr) /\ ¬ (to ≠ [] /\ to.length <= 40)) /\ (b = false -> (∃ f ∈ fs, f.nm = fr) -> (to ≠ [] /\ to.length <= 40))) ?_ ?_
 ·refine Zfr ?_
  refine ⟨[0, 1, 2, 3, 4, 5, 6, 7, 8, 9, 10, 11, 12, 13, 14, 15], [[], [0], [0, 1], [0, 1, 2], [0, 1, 2, 3], [0, 1, 2, 3, 4], [0, 1, 2, 3, 4, 5], [0, 1, 2], [0, 1, 2, 3, 4, 5, 6, 7], [0, 1, 2, 3, 4, 5, 6, 7, 8], [0, 1, 2, 3, 4, 5, 6, 7, 8, 9], [0, 1, 2, 3, 4, 5, 6, 7, 8, 9, 10], [0, 1, 2, 3, 4, 5, 6, 7, 8, 9, 10, 11], [0, 1, 2, 3, 4, 5, 6, 7, 8, 9, 10, 11, 12], [0, 1, 2, 3, 4, 5, 6, 7, 8, 9, 10, 11, 12, 13], [0, 1, 2, 3, 4, 5, 6, 7, 8, 9, 10, 11, 12, 13, 14]], fun _ => True, [], [], [], by kernel_rfl, ?_⟩
  apply Zao
  case hi => simp only [HIX]; try rfl
  case hw => rfl
  case how => rfl
  refine Zar (b := b3) (o := 0) (r := ptr bb 0) (by simp only [EV, Nat.reduceEqDiff, ↓reduceIte, he] <;> try rfl) hb33 ZdP ZdQ rfl ?_
  refine ZaY ?_
  apply Zao
  case hi => simp only [HIX]; try rfl
  case hw => rfl
  case how => rfl
  refine Zas (vs := [ptr bb 0]) (by simp only [List.map_cons, List.map_nil, EV, Nat.reduceEqDiff, ↓reduceIte, he] <;> try rfl) ?_
  refine Zd7 h3 ?_
  refine ZaY ?_
  apply Zao
  case hi => simp only [HIX]; try rfl
  case hw => rfl
  case how => rfl
  refine Zai rfl (by simp only [EV, Nat.reduceEqDiff, ↓reduceIte, he] <;> try rfl) ?_
  refine ZaY ?_
  apply Zao
  case hi => simp only [HIX]; try rfl
  case hw => rfl
  case how => rfl
  refine Zar (b := b3) (o := 0) (r := ptr bb 0) (by simp only [EV, Nat.reduceEqDiff, ↓reduceIte, he] <;> try rfl) hb33 ZdP ZdQ rfl ?_
  refine ZaY ?_
  apply Zao
  case hi => simp only [HIX]; try rfl
  case hw => rfl
  case how => rfl
  refine Zam (v := ptr bb 0) (by simp only [EV, Nat.reduceEqDiff, ↓reduceIte, he] <;> try rfl) rfl ?_
  refine ZaY ?_
  apply Zao
  case hi => simp only [HIX]; try rfl
  case hw => rfl
  case how => rfl
  refine Zae (b := bb) (o := 0) (by simp only [EV, Nat.reduceEqDiff, ↓reduceIte, he] <;> try rfl) Za3 rfl ?_
  refine ZaY ?_
  apply Zao
  case hi => simp only [HIX]; try rfl
  case hw => rfl
  case how => rfl
  refine Zar (b := bb) (o := 0 + 1) (r := Zbv mb) (by simp only [EV, Nat.reduceEqDiff, ↓reduceIte, he] <;> try rfl) h3.obj ZcN ZcM rfl ?_
  refine ZaY ?_
  apply Zao
  case hi => simp only [HIX]; try rfl
  case hw => rfl
  case how => rfl
  refine Zar (b := b4) (o := 0) (r := .raw (sV fr)) (by simp only [EV, Nat.reduceEqDiff, ↓reduceIte, he] <;> try rfl) hb43 ZdO ZcR rfl ?_
  refine ZaY ?_
  apply Zao
  case hi => simp only [HIX]; try rfl
  case hw => rfl
  case how => rfl
  refine Zej (k := fr) (es := ZaV fs) (b := mb) (by simp only [EV, Nat.reduceEqDiff, ↓reduceIte, he] <;> try rfl) (by simp only [EV, Nat.reduceEqDiff, ↓reduceIte, he] <;> try rfl) h3.map Zd6 Zel Zg6 ?_
  refine ZaY ?_
  cases hg : Zf3 (ZaV fs) fr with
  | none =>
   apply Zao
   case hi => simp only [HIX]; try rfl
   case hw => rfl
   case how => rfl
   refine Zgm (p := none) ZdL (by simp only [EV, Nat.reduceEqDiff, ↓reduceIte, he] <;> try rfl) rfl (by simp only [EV, Nat.reduceEqDiff, ↓reduceIte, he] <;> try rfl) ?_
   refine ZaY ?_
   apply Zao
   case hi => simp only [HIX]; try rfl
   case hw => rfl
   case how => rfl
   refine ZbP (v := vT false) (by simp only [EV, Nat.reduceEqDiff, ↓reduceIte, he] <;> try rfl) (by simp only [EV, Nat.reduceEqDiff, ↓reduceIte, he] <;> try rfl) ?_
   refine ZaY ?_
   apply Zao
   case hi => simp only [HIX]; try rfl
   case hw => rfl
   case how => rfl
   refine Zai rfl (by simp only [EV, Nat.reduceEqDiff, ↓reduceIte, he] <;> try rfl) ?_
   refine ZaY ?_
   apply ZiR
   case hi => simp only [HIX]; try rfl
   case hg => rfl
   case how => rfl
   apply ZiR
   case hi => simp only [HIX]; try rfl
   case hg => rfl
   case how => rfl
   apply ZiR
   case hi => simp only [HIX]; try rfl
   case hg => rfl
   case how => rfl
   apply Zao
   case hi => simp only [HIX]; try rfl
   case hw => rfl
   case how => rfl
   refine Zb4 (v := vT false) (by simp only [EV, Nat.reduceEqDiff, ↓reduceIte, he] <;> try rfl) (by simp only [EV, Nat.reduceEqDiff, ↓reduceIte, he] <;> try rfl) ?_
   refine ZaY ?_
   refine Zfa ?_
   refine ⟨rfl, false, ⟨by simp only [EV, Nat.reduceEqDiff, ↓reduceIte, he] <;> try rfl, by simp only [EV, Nat.reduceEqDiff, ↓reduceIte, he] <;> try rfl, by simp only [EV, Nat.reduceEqDiff, ↓reduceIte, he] <;> try rfl, by simp only [EV, Nat.reduceEqDiff, ↓reduceIte, he] <;> try rfl⟩, .refl _, (fun q => by cases q), fun _ ⟨f, hf, hn⟩ => absurd hn (ZcP.1 hg f hf)⟩
  | some fb =>
   obtain ⟨f0, hf0, hnm, rfl⟩ := ZcO hg
   apply Zao
   case hi => simp only [HIX]; try rfl
   case hw => rfl
   case how => rfl
   refine Zgm (p := some ⟨f0.b, 0, none⟩) ZdL (by simp only [EV, Nat.reduceEqDiff, ↓reduceIte, he] <;> try rfl) rfl (by simp only [EV, Nat.reduceEqDiff, ↓reduceIte, he] <;> try rfl) ?_
   refine ZaY ?_
   apply Zao
   case hi => simp only [HIX]; try rfl
   case hw => rfl
   case how => rfl
   refine ZbP (v := vT true) (by simp only [EV, Nat.reduceEqDiff, ↓reduceIte, he] <;> try rfl) (by simp only [EV, Nat.reduceEqDiff, ↓reduceIte, he] <;> try rfl) ?_
   refine ZaY ?_
   apply Zao
   case hi => simp only [HIX]; try rfl
   case hw => rfl
   case how => rfl
   refine Zai rfl (by simp only [EV, Nat.reduceEqDiff, ↓reduceIte, he] <;> try rfl) ?_
   refine ZaY ?_
   apply Zao
   case hi => simp only [HIX]; try rfl
   case hw => rfl
   case how => rfl
   refine Zar (b := b5) (o := 0) (r := .raw (sV to)) (by simp only [EV, Nat.reduceEqDiff, ↓reduceIte, he] <;> try rfl) hb5 ZdO ZcR rfl ?_
   refine ZaY ?_
   apply Zao
   case hi => simp only [HIX]; try rfl
   case hw => rfl
   case how => rfl
   refine Zas (vs := [.raw (sV to)]) (by simp only [List.map_cons, List.map_nil, EV, Nat.reduceEqDiff, ↓reduceIte, he] <;> try rfl) ?_
   refine Zno _ fun υ hX => ?_
   refine ⟨(fun hf => by cases hf), ?_⟩
   apply Zao
   case hi => simp only [HIX]; try rfl
   case hw => rfl
   case how => rfl
   refine Zda (by simp only [EV, Nat.reduceEqDiff, ↓reduceIte, he] <;> try rfl) ?_
   refine ZaY ?_
   apply Zao
   case hi => simp only [HIX]; try rfl
   case hw => rfl
   case how => rfl
   refine ZbP (v := vT (!decide (to ≠ [] /\ to.length <= 40))) (by simp only [EV, Nat.reduceEqDiff, ↓reduceIte, he] <;> try rfl) (by simp only [EV, Nat.reduceEqDiff, ↓reduceIte, he] <;> try rfl) ?_
   refine ZaY ?_
   refine Zfa ?_
   refine ⟨rfl, !decide (to ≠ [] /\ to.length <= 40), ⟨by simp only [EV, Nat.reduceEqDiff, ↓reduceIte, he] <;> try rfl, by simp only [EV, Nat.reduceEqDiff, ↓reduceIte, he] <;> try rfl, by simp only [EV, Nat.reduceEqDiff, ↓reduceIte, he] <;> try rfl, by simp only [EV, Nat.reduceEqDiff, ↓reduceIte, he] <;> try rfl⟩, hX, fun q => ⟨⟨f0, hf0, hnm⟩, ?_⟩, fun q _ => ?_⟩
   ·rw [Bool.not_eq_true'] at q
    exact of_decide_eq_false q
   ·rw [Bool.not_eq_false'] at q
    exact of_decide_eq_true q
 clear he e
 rintro e υ ⟨b, he, hX, g1, g2⟩
 refine ZaX (t := b) (by simp only [EV, Nat.reduceEqDiff, ↓reduceIte, he] <;> try rfl) (fun hb => ?_) (fun hb => ?_)
 ·first | refine Zaa ?_ | refine Zad ?_ | (refine Zac ?_; refine Zaa ?_) | (refine Zac ?_; refine Zac ?_; refine Zaa ?_)
  refine Zab (Zai rfl (by simp only [EV, Nat.reduceEqDiff, ↓reduceIte, he] <;> try rfl) ?_)
  refine Zah ?_
  refine ZhV ?_
  obtain ⟨q1, q2⟩ := g1 hb
  show ∃ r, Zan _ _ _ _ r /\ _
  exact ⟨_, ZaD rfl (by simp only [EV, Nat.reduceEqDiff, ↓reduceIte, he] <;> try rfl), hK2 q1 q2 υ (hE3.trans hX)⟩
 have g2 := g2 hb
 refine Zbb ?_
 have hE := hE3.trans hX
 have hb3' := hX.keep _ _ hb33
 have hb4' := hX.keep _ _ hb43
 have hb5' := hX.keep _ _ hb5
 first | refine Zaa ?_ | refine Zad ?_ | (refine Zac ?_; refine Zaa ?_) | (refine Zac ?_; refine Zac ?_; refine Zaa ?_)
 refine Zab ?_
 refine Zar (b := b3) (o := 0) (r := ptr bb 0) (by simp only [EV, Nat.reduceEqDiff, ↓reduceIte, he] <;> try rfl) hb3' ZdP ZdQ rfl ?_
 refine Zab ?_
 refine ZgE (vs := [ptr b4 0, ptr b5 0, ptr b3 0]) (by simp only [List.map_cons, List.map_nil, EV, Nat.reduceEqDiff, ↓reduceIte, he] <;> try rfl) ?_
 refine Zab ?_
 refine Zar (b := b4) (o := 0) (r := .raw (sV fr)) (by simp only [EV, Nat.reduceEqDiff, ↓reduceIte, he] <;> try rfl) hb4' ZdO ZcR rfl ?_
 refine Zab ?_
 refine Zgl (vs := [.raw (sV fr)]) (cells := [.raw (sV fr)]) (by simp only [List.map_cons, List.map_nil, EV, Nat.reduceEqDiff, ↓reduceIte, he] <;> try rfl) Zfd ZcR Zp6 rfl (by omega) rfl rfl fun b26 υ5 hN5 hX5 => ?_
 have hE5 := hE.trans hX5
 have h5 := h.ext hE5
 have hNm : ∀ υ, ZeP υ (.lst (some ⟨b26, 0, none⟩) 1 1 [.raw (sV fr)]) [fr] := fun υ => .inl ⟨some ⟨b26, 0, none⟩, 1, [], rfl, fun q => (by cases q)⟩
 refine Zab ?_
 refine Zas (vs := [ptr bb 0, fnG 62 #[] #[.pointer (some ⟨b4, 0, none⟩), .pointer (some ⟨b5, 0, none⟩), .pointer (some ⟨b3, 0, none⟩)], .lst (some ⟨b26, 0, none⟩) 1 1 [.raw (sV fr)]]) (by simp only [List.map_cons, List.map_nil, EV, Nat.reduceEqDiff, ↓reduceIte, he] <;> try rfl) ?_
 refine Zkb (ns := [fr]) (fun i τ => match i with
  | 0 => τ = υ5
  | _ => K (vI 0) τ) h5 (hNm _) (by simp) rfl (fun i hi τ hI => ?_) (fun τ hI => ?_)
 ·obtain rfl : i = 0 := by simp at hi; exact hi
  have hI : τ = υ5 := hI
  subst hI
  refine ⟨S, fs, pcs, size, mb, pv, h5, hNm _, fun hg => ?_, fun fb hg => ?_⟩
  ·refine Zab (Zai rfl (by simp only [EV, Nat.reduceEqDiff, ↓reduceIte, he] <;> try rfl) ?_)
   refine Zah ?_
   refine ZaW ?_
   show ∃ r, Zan _ _ _ _ r /\ _
   exact ⟨_, ZaD rfl (by simp only [EV, Nat.reduceEqDiff, ↓reduceIte, he] <;> try rfl), hK6 (ZcP.1 hg) _ hE5⟩
  ·obtain ⟨f0, hf0, hnm, rfl⟩ := ZcO hg
   have hnm : f0.nm = fr := hnm
   refine ZsU (to := to) h5 hl hf0 (by rw [hnm]; exact hX5.keep _ _ hb4') (hX5.keep _ _ hb5') (hX5.keep _ _ hb3') h4S h5S h3S (fun q => ?_) fun q τ2 pv' d1 d2 => ?_
   ·exact hKs f0 hf0 hnm (hnm ▸ q) _ hE5
   ·exact hK0 f0 hf0 hnm (hnm ▸ q) (g2 ⟨f0, hf0, hnm⟩) τ2 pv' d1 (hE5.but.trans d2)
 ·refine Zab (Zai rfl (by simp only [EV, Nat.reduceEqDiff, ↓reduceIte, he] <;> try rfl) ?_)
  refine Zah ?_
  refine ZaW ?_
  show ∃ r, Zan _ _ _ _ r /\ _
  exact ⟨_, ZaD rfl (by simp only [EV, Nat.reduceEqDiff, ↓reduceIte, he] <;> try rfl), hI⟩
end
end Go.Proofs.Ytinpiaibhjmfaaa
