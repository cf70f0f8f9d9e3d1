/- A deed on both disks; both copied; both made. -/
import Derived.Test.YtinpiaibhjmfaaaMn
import Derived.Test.YtinpiaibhjmfaaaRec
import Derived.Test.YtinpiaibhjmfaaaReb
namespace Go.Proofs.Ytinpiaibhjmfaaa
open Go.RowKit
set_option maxRecDepth 100000
set_option linter.unusedVariables false
set_option linter.unusedSimpArgs false
def ZpW (σ : St) (size : Int) (M B bb rb : Nat) (S T : Nat -> Prop) (kd n : Int) (nm : List UInt8) (ns : List (List UInt8)) (d : List UInt8) (a : Nat) : Prop := ∃ mb fs pcs pv mb' fs' pcs' pv' l ps fv pr g, ∃ (σ0 : St) (S0 : Nat -> Prop), DAt σ0 bb S0 fs pcs size mb pv /\ Wf fs pcs /\ sumD fs <= B /\ fs.length <= M /\ pcs.length <= M /\ (∀ f ∈ fs, f.d.length <= 1000000000) /\ Zcy pcs <= 1000000000 /\ Inv σ bb mb' size S fs' pcs' pv' (M + 1) (B + d.length) /\ ZgZ size nm ns n d fs pcs (Zd4 kd 8) fs' pcs' a /\ RAt σ rb T l ps size fv pr /\ Rl g fs pcs l ps /\ ∀ c, S c -> ¬ T c
section
variable {σ τ : St} {size : Int} {M B bb rb : Nat} {S T : Nat -> Prop} {K : AV -> St -> Prop} {kd n : Int} {nm d : List UInt8} {ns pa : List (List UInt8)} {vN vP : AV} {a : Nat}
theorem ZpW.ext (h : ZpW σ size M B bb rb S T kd n nm ns d a) (k : Ext σ τ) : ZpW τ size M B bb rb S T kd n nm ns d a := by
 obtain ⟨mb, fs, pcs, pv, mb', fs', pcs', pv', l, ps, fv, pr, g, σ0, S0, h1, h2, h3, h4, h5, h6, h7, h8, h9, h10, h11, h12⟩ := h
 exact ⟨mb, fs, pcs, pv, mb', fs', pcs', pv', l, ps, fv, pr, g, σ0, S0, h1, h2, h3, h4, h5, h6, h7, h8.ext k, h9, h10.ext k, h11, h12⟩
theorem Zmv (h : Two σ size M B bb rb S T) (hB : B + d.length <= 100000000) (hM : M <= 10000000) (hn : -9223372036854775808 <= n /\ n <= 9223372036854775807)
 (hN : Zc6 σ vN ns) (hNS : ∀ c, hbk vN = some c -> ¬ S c) (hnl : ns.length <= 1000000000) (h1 : vN.one = true /\ vP.one = true) (h1b : Zbi vN = true /\ Zbi vP = true)
 (hcat : ∀ τ0, Ext σ τ0 -> ∀ K' : AV -> St -> Prop, (∀ v τ, Hd τ 5 1 v d.length (bys d) -> Ext τ0 τ -> (∀ b, hbk v = some b -> Za0 τ0 b) -> K' v τ) -> Zat Try.prog 36 [vP] τ0 K')
 (hK : ∀ τ S' a, ZpW τ size M B bb rb S' T kd n nm ns d a -> But S σ τ -> (∀ c, S c -> S' c) -> (∀ c, S' c -> S c \/ Za0 σ c) -> K (vI (a : Int)) τ) : Zat Try.prog 22 [ptr bb 0, .agg (Zb2 kd nm vN n vP)] σ K := by
 obtain ⟨mb, fs, pcs, pv, l, ps, fv, pr, g, h⟩ := h
 refine ZpJ (d := d) h.d hB hM hn hN hNS hnl h1 h1b hcat fun τ S' fs' pcs' pv' a I' hb hs1 hs2 hA => ?_
 refine hK τ S' a ⟨mb, fs, pcs, pv, mb, fs', pcs', pv', l, ps, fv, pr, g, σ, S, h.d.disk, h.d.wf, h.d.sum, h.d.nfs, h.d.few, h.d.file (by omega), h.d.pcs_ (by omega), I', hA, h.m.but hb fun c hc hq => h.sep c hq hc, h.r, fun c hc hq => ?_⟩ hb hs1 hs2
 rcases hs2 c hc with q | q
 ·exact h.sep c q hq
 ·exact q.2 (h.m.su c hq)
theorem Zi0 (h : ZpW σ size M B bb rb S T kd n nm ns pa.flatten a) (hB : B + pa.flatten.length <= 100000000) (hM : M <= 1000000) (hpl : pa.length <= 1000000) (hn : -9223372036854775808 <= n /\ n <= 9223372036854775807)
 (hN : Zc6 σ vN ns) (hNS : ∀ c, hbk vN = some c -> ¬ T c) (hnl : ns.length <= 1000000000) (h1 : vN.one = true /\ vP.one = true) (h1b : Zbi vN = true /\ Zbi vP = true) (hP : SV CT 0 ZdC (.sl 3 pa none) vP)
 (hK : ∀ τ T', Two τ size (M + 1) (B + pa.flatten.length) bb rb S T' -> But T σ τ -> (∀ c, T c -> T' c) -> (∀ c, T' c -> T c \/ Za0 σ c) -> K (vI (a : Int)) τ) : Zat Try.prog 23 [ptr rb 0, .agg (Zb2 kd nm vN n vP)] σ K := by
 obtain ⟨mb, fs, pcs, pv, mb', fs', pcs', pv', l, ps, fv, pr, g, σ0, S0, h0, hwf, hsum, hfs, hpc, hff, hpp, I, hA, m, R, hsep⟩ := h
 have B0 := ZnU h0 m
 refine Zmm m (by rw [R.len B0]; omega) (by rw [R.plen]; omega) (R.wf B0 hwf) (by rw [R.psum]; omega) (fun r hr => ?_) hpl (by rw [R.sum B0]; omega) hn hN hNS hnl h1 h1b hP fun τ T' l' ps' fv' pr' a' m' hb hs1 hs2 hR => ?_
 ·obtain ⟨f, hf, _, e⟩ := (R.files r.nm r.d).2 ⟨r, hr, rfl, rfl⟩
  rw [<- e]
  exact hff f hf
 ·obtain ⟨rfl, g', R'⟩ := ZqK h0 I.disk R B0 hA hR
  refine hK τ T' ⟨mb', fs', pcs', pv', l', ps', fv', pr', g', I.but hb fun c hc hq => hsep c hc hq, m', R', fun c hc hq => ?_⟩ hb hs1 hs2
  rcases hs2 c hq with q | q
  ·exact hsep c hc q
  ·exact q.2 (I.used c hc)
theorem ZpX {bb2 mb mb2 : Nat} {S2 : Nat -> Prop} {fs fs2 : List Fl} {pcs pcs2 : List (Nat × Nat)} {pv pv2 : AV} {done : List (Fl × Fl)} {l l2 : List Rw} {ps : PL} {g : Nat -> List UInt8} (h : DAt σ bb S fs pcs size mb pv) (h2 : DAt τ bb2 S2 fs2 pcs2 size mb2 pv2) (c : ZgY fs pcs fs2 pcs2 done) (hw : Wf fs pcs) (R : Rl g fs pcs l ps) (hd : ZdO l2 = ZdO l) : ∃ g2, Rl g2 fs2 pcs2 l2 ps := by
 have hfind : ∀ f ∈ fs2, ((fs2.find? fun q => decide (q.b = f.b)).map (·.nm)).getD [] = f.nm := fun f hf => by
  cases hq : fs2.find? fun q => decide (q.b = f.b) with
  | none =>
   have := List.find?_eq_none.1 hq f hf
   simp at this
  | some q =>
   have h1 := List.mem_of_find?_eq_some hq
   have h3 := List.find?_some hq
   have : q = f := ZbK h2.nd q h1 f hf (of_decide_eq_true h3)
   rw [this]
   rfl
 have hnm : l2.map (·.nm) = l.map (·.nm) := by
  have := congrArg (List.map Prod.fst) hd
  unfold ZdO at this
  rw [List.map_map, List.map_map] at this
  exact this
 refine ⟨fun b => ((fs2.find? fun q => decide (q.b = b)).map (·.nm)).getD [], hfind, fun k d => ?_, ?_, by rw [hnm]; exact R.asc⟩
 ·have hl : (∃ r ∈ l2, r.nm = k /\ r.d = d) ↔ ∃ r ∈ l, r.nm = k /\ r.d = d := by
   have e : ∀ m : List Rw, (∃ r ∈ m, r.nm = k /\ r.d = d) ↔ (k, d) ∈ ZdO m := fun m => by
    unfold ZdO
    rw [List.mem_map]
    constructor
    ·rintro ⟨r, hr, rfl, rfl⟩
     exact ⟨r, hr, rfl⟩
    ·rintro ⟨r, hr, q⟩
     injection q with q1 q2
     exact ⟨r, hr, q1, q2⟩
   rw [e, e, hd]
  rw [hl, <- R.files]
  constructor
  ·rintro ⟨f2, hf2, e1, e2⟩
   obtain ⟨f, hf, q1, q2⟩ := (c.wf h h2 hw).2.2.2.2 f2 hf2
   exact ⟨f, hf, by rw [<- q1, e1], by rw [<- q2, e2]⟩
  ·rintro ⟨f, hf, e1, e2⟩
   obtain ⟨f2, hf2, q1, q2, _⟩ := c.ren h h2 f hf
   exact ⟨f2, hf2, by rw [q1, e1], by rw [q2, e2]⟩
 ·rw [c.pcs, R.pcs, List.map_map]
  refine List.map_congr_left fun p hp => ?_
  obtain ⟨f, hf, e⟩ := h.inn p hp
  obtain ⟨f2, hf2, q1, q2, q3, _⟩ := c.ren h h2 f hf
  have := hfind f2 hf2
  rw [q3, e, q1, <- R.blk f hf, e] at this
  show (g p.1, p.2) = _
  dsimp only [Function.comp]
  rw [this]
def ZpY (σ : St) (size : Int) (M B bb rb b2 : Nat) (S T S2 : Nat -> Prop) : Prop := ∃ mb2 fs2 pcs2 pv2 l ps fv pr, Inv σ b2 mb2 size S2 fs2 pcs2 pv2 M B /\ RAt σ rb T l ps size fv pr /\ l.length <= M /\ ps.length <= M /\ (∀ r ∈ l, r.d.length <= 1000000000) /\ (∀ l2, ZdO l2 = ZdO l -> ∃ g2, Rl g2 fs2 pcs2 l2 ps) /\ ∀ c, S2 c -> ¬ T c
theorem Zmw (h : Two σ size M B bb rb S T) (hB : B <= 100000000) (hM : M <= 10000000) (hK : ∀ τ b2 S2, ZpY τ size M B bb rb b2 S T S2 -> Ext σ τ -> (∀ c, S2 c -> Za0 σ c) -> K (ptr b2 0) τ) : Zat Try.prog 18 [ptr bb 0] σ K := by
 obtain ⟨mb, fs, pcs, pv, l, ps, fv, pr, g, h⟩ := h
 have hll := h.len
 have hpl := h.plen
 have hfw := h.d.few
 refine ZoB h.d.disk (h.d.file (by omega)) (by omega) fun τ b2 S2 fs2 pcs2 mb2 pv2 done D hX hS C => ?_
 have I2 := C.inv h.d D fun x hx => (hS x hx).2
 exact hK τ b2 S2 ⟨mb2, fs2, pcs2, pv2, l, ps, fv, pr, I2, h.m.ext hX, hll, hpl, h.fl hB, fun l2 hl2 => ZpX h.d.disk D C h.d.wf h.r hl2, fun c hc hq => (hS c hc).1.2 (h.m.su c hq)⟩ hX fun c hc => (hS c hc).1
theorem Zmx {b2 : Nat} {S2 : Nat -> Prop} (h : ZpY σ size M B bb rb b2 S T S2) (hM : M <= 10000000) (hK : ∀ τ r2 T2, Two τ size M B b2 r2 S2 T2 -> Ext σ τ -> (∀ c, T2 c -> Za0 σ c) -> K (ptr r2 0) τ) : Zat Try.prog 19 [ptr rb 0] σ K := by
 obtain ⟨mb2, fs2, pcs2, pv2, l, ps, fv, pr, I, m, hl, hp, hf, hR, hsep⟩ := h
 refine Znr m (by omega) (by omega) hf fun τ r2 T2 l2 fv2 pr2 m2 hd hX hT => ?_
 obtain ⟨g2, R2⟩ := hR l2 hd
 exact hK τ r2 T2 ⟨mb2, fs2, pcs2, pv2, l2, ps, fv2, pr2, g2, I.ext hX, m2, R2, fun c hc hq => (hT c hq).2 (I.used c hc)⟩ hX hT
theorem ZoK {mb : Nat} (h : DAt σ bb (fun b => b = bb \/ b = mb) [] [] size mb (.lst none 0 0 [])) (hm : σ.blk rb = some (.own 46 [.raw (.int .i64 size), .lst none 0 0 [], .lst none 0 0 []])) (hu : σ.used rb) (hne : rb ≠ bb /\ rb ≠ mb) : Two σ size 0 0 bb rb (fun b => b = bb \/ b = mb) (fun b => b = rb) := by
 refine ⟨mb, [], [], _, [], [], _, _, fun _ => [], ⟨h, fun c hc => ?_, ⟨(fun p hp => by cases hp), fun f hf => by cases hf⟩, (fun f hf => by cases hf), Nat.le_refl _, Nat.le_refl _, Nat.le_refl _, fun q => by show ((0 : Nat) : Int) <= size; omega⟩, ⟨hm, hu, ⟨rfl, by simp [rfC], .inl ⟨.inl rfl, rfl⟩⟩, (fun r hr => by cases hr), .nil, (fun r hr => by cases hr), ⟨rfl, by simp [rpC], .inl ⟨.inl rfl, rfl⟩⟩, ⟨rfl, (fun x hx => by cases hx), (fun r hr => by cases hr), fun x hx => by cases hx⟩, fun c hc => by rw [hc]; exact hu⟩, ⟨(fun f hf => by cases hf), fun k d => ⟨fun ⟨f, hf, _⟩ => (by cases hf), fun ⟨r, hr, _⟩ => (by cases hr)⟩, rfl, .nil⟩, fun c hc hq => ?_⟩
 ·rcases hc with rfl | rfl
  ·exact h.used
  ·exact h.umap
 ·rw [hq] at hc
  rcases hc with hc | hc
  ·exact hne.1 hc
  ·exact hne.2 hc
end
end Go.Proofs.Ytinpiaibhjmfaaa
