/- XFtc, XFtd in one. -/
import Derived.Test.YtklmbkkeiihgdaaFtg
import Derived.Test.YtklmbkkeiihgdaaMd
/- What FrameTells calls, by contract. -/
namespace Go.Proofs.Ytklmbkkeiihgdaa
open Go.RowKit
set_option maxRecDepth 100000
set_option linter.unusedVariables false
set_option linter.unusedSimpArgs false
section
variable {σ : St} {K : AV → St → Prop}
theorem great_call {l : List DFrame} {a : AV} {r : Bool} (hs : SV CT 0 noRho (.sl 6 l none) a) (h : watershedlaw03_great l = some (r, ())) (hK : ∀ τ, Ext σ τ → K (vT r) τ) : CallsA Try.prog 7 [a] σ K :=
 call_same (watershedlaw03_great_ce.ok (l, ()) () (r, ()) h) hs (fun N ρ a h => sv_bool.1 h) K hK
theorem awake_call (hK : ∀ τ, Ext σ τ → K (vT true) τ) : CallsA Try.prog 8 [] σ K :=
 call_same (watershedlaw03_awake_ce.ok () () (true, ()) awake_p) .none (fun N ρ a h => sv_bool.1 h) K hK
theorem sameb_call {d : List UInt8} {a b : AV} (hl : d.length ≤ 140737488355328) (ha : SV CT 0 noRho (.sl 1 d none) a) (hb : SV CT 0 noRho (.sl 1 d none) b) (hK : ∀ τ, Ext σ τ → K (vT true) τ) : CallsA Try.prog 15 [a, b] σ K :=
 call_same (watershedkit_SameBytes_ce.ok (d, d, ()) () (true, ()) (by
  show watershedkit_SameBytes d d = _
  rw [SameBytes_p d d hl, decide_eq_true rfl]
  rfl)) (.cons ha hb) (fun N ρ a h => sv_bool.1 h) K hK
theorem same_call {l : List DFrame} {a b : AV} (hl : l.length ≤ 1000000) (hd : ∀ f ∈ l, f.data.length ≤ 140737488355328) (ha : SV CT 0 noRho (.sl 6 l none) a) (hb : SV CT 0 noRho (.sl 7 (l.map t2) none) b) (hK : ∀ τ, Ext σ τ → K (vT true) τ) : CallsA Try.prog 16 [a, b] σ K :=
 call_same (watershedlaw03_same_ce.ok (l, l.map t2, ()) () (true, ()) (same_p hl hd)) (.cons ha hb) (fun N ρ a h => sv_bool.1 h) K hK
theorem kept_call {d : List UInt8} {a b : AV} (hl : d.length ≤ 1000000) (ha : SV CT 0 noRho (.slx 1 d (markZ 12)) a) (hb : SV CT 0 noRho (.sl 1 d none) b) (hK : ∀ τ, Ext σ τ → K (vT true) τ) : CallsA Try.prog 17 [a, b] σ K :=
 call_same (watershedkit_KeptBytes_ce.ok ((d, markZ 12), d, ()) () (true, ()) (Kept_p hl)) (.cons ha hb) (fun N ρ a h => sv_bool.1 h) K hK
theorem lent_call {d : List UInt8} {a : AV} (hl : d.length ≤ 1000000) (ha : SV CT 0 noRho (.sl 1 d none) a) (hK : ∀ v τ, SV CT 0 noRho (.slx 1 d (markZ 12)) v → Ext σ τ → K v τ) : CallsA Try.prog 9 [a] σ K :=
 call_tr (watershedkit_LentBytes_x_ce.ok (d, ()) () ((d, markZ 12), ()) (Lent_p hl)) ha K fun v τ ρ' q1 _ q3 _ => hK v τ (SVs.shut q1 (by intro x hx; rw [List.mem_singleton.1 hx]; rfl)) q3
theorem turned_call {l : List DFrame} {a : AV} (hl : l.length ≤ 1000000) (ha : SV CT 0 noRho (.sl 6 l none) a) (hK : ∀ v τ, SV CT 0 noRho (.sl 7 (l.map t2) none) v → Ext σ τ → K v τ) : CallsA Try.prog 12 [a] σ K :=
 call_tr (watershedlaw03_turned_ce.ok (l, ()) () (l.map t2, ((), ())) (turned_p hl)) ha K fun v τ ρ' q1 _ q3 _ => hK v τ (SVs.shut ((Wk.drop _ _ _).sv q1) (by intro x hx; rw [List.mem_singleton.1 hx]; rfl)) q3
/-- What is put. -/
def putR (l : List Fr) : List UInt8 × Int := match putErr l with
 | some e => ([], e)
 | none => (codes l, 0)
theorem putR_len {l : List Fr} {n : Nat} (h : (codes l).length ≤ n) : (putR l).1.length ≤ n := by
 unfold putR
 split
 ·simp
 ·exact h
theorem put_call {l : List DFrame} {a : AV} (hl : l.length ≤ 10000000) (hc : (codes (l.map fr)).length ≤ 10000000) (ha : SV CT 0 noRho (.sl 6 l none) a) (hK : ∀ v τ, Hd τ 5 1 v (putR (l.map fr)).1.length (bys (putR (l.map fr)).1) → (∀ b, hbk v = some b → NewB σ b) → Ext σ τ → K (.tup [v, .raw (.int .i64 (putR (l.map fr)).2)]) τ) : CallsA Try.prog 10 [a] σ K := by
 refine call_tr (frame_Put_ar_ce.ok (l, ()) () (((putR (l.map fr)).1.length, (putR (l.map fr)).2, ()), ((putR (l.map fr)).1, ())) ?_) ha K fun v τ ρ' q1 q2 q3 q4 => ?_
 ·show frame_Put_ar l = _
  unfold frame_Put_ar putR
  rw [Put_p l hl hc]
  cases putErr (l.map fr) <;> rfl
 ·obtain ⟨ls, rfl, h1⟩ := sv_tup.1 q1
  obtain ⟨v0, v1, rfl, g0, g1⟩ := svs2.1 h1
  obtain rfl := sv_int.1 g1
  obtain ⟨cells, k1, k2, k3⟩ := hd_of_arr g0 q2 rfl (Nat.le_refl _)
  have k3 := sv_bys (k3 0 noRho)
  rw [List.take_length] at k3
  subst k3
  exact hK v0 τ k1 (fun b hb => q4 0 _ b rfl rfl (k2 b hb)) q3
theorem rput_call {l : List DFrame2} {a : AV} (hl : l.length ≤ 10000000) (hc : (codes (l.map fr2)).length ≤ 10000000) (ha : SV CT 0 noRho (.sl 7 l none) a) (hK : ∀ v τ, SV CT 0 noRho (.sl 1 (putR (l.map fr2)).1 none) v → Ext σ τ → K (.tup [v, .raw (.int .i64 (putR (l.map fr2)).2)]) τ) : CallsA Try.prog 11 [a] σ K := by
 refine call_tr (watershedref03_Put_ce.ok (l, ()) () (((putR (l.map fr2)).1, (putR (l.map fr2)).2, ()), ((), ())) ?_) ha K fun v τ ρ' q1 _ q3 _ => ?_
 ·show watershedref03_Put l = _
  unfold putR
  rw [rPut_p l hl hc]
  cases putErr (l.map fr2) <;> rfl
 ·obtain ⟨ls, rfl, h1⟩ := sv_tup.1 q1
  obtain ⟨v0, v1, rfl, g0, g1⟩ := svs2.1 h1
  obtain rfl := sv_int.1 g1
  exact hK v0 τ (SVs.shut ((Wk.drop _ _ _).sv g0) (by intro x hx; rw [List.mem_singleton.1 hx]; rfl)) q3
theorem rget_call {b : List UInt8} {a : AV} (hl : b.length ≤ 1000000) (ha : SV CT 0 noRho (.sl 1 b none) a) (hK : ∀ v τ, SV CT 0 noRho (.sl 7 ((getAll b).1.map toD2) none) v → Ext σ τ → K (.tup [v, .raw (.int .i64 ((getAll b).2 : Int))]) τ) : CallsA Try.prog 14 [a] σ K := by
 refine call_tr (watershedref03_Get_ce.ok (b, ()) () (((getAll b).1.map toD2, ((getAll b).2 : Int), ()), ((), ())) (rGet_p hl)) ha K fun v τ ρ' q1 _ q3 _ => ?_
 obtain ⟨ls, rfl, h1⟩ := sv_tup.1 q1
 obtain ⟨v0, v1, rfl, g0, g1⟩ := svs2.1 h1
 obtain rfl := sv_int.1 g1
 exact hK v0 τ (SVs.shut ((Wk.drop _ _ _).sv g0) (by intro x hx; rw [List.mem_singleton.1 hx]; rfl)) q3
theorem mark_call (k i : Nat) (σ : St) (K : AV → St → Prop) (hK : ∀ τ, Ext σ τ → K (agg1 (mkS (fun k i => markV k i) k i)) τ) : CallsA Try.prog 23 [vI k, vI i] σ K :=
 call_same (watershedkit_markByte_ce.ok ((k : Int), (i : Int), ()) () (markV k i, ()) (markV_p _ _)) (.cons (sv_int.2 rfl) (sv_int.2 rfl)) (fun N ρ a h => sv_int.1 h) K hK
end
/-- A frame's cells, told. -/
theorem fr_cells {N : Nat} {ρ : Nat → AV} : ∀ {l : List DFrame} {cs : List AV}, SVs CT N ρ (l.flatMap (CT.enc 6)) cs → ∀ (i : Nat) (h : i < l.length), ∃ v, cs[i * 2]? = some (.raw (.int .i64 l[i].kind)) ∧ cs[i * 2 + 1]? = some v ∧ SV CT N ρ (.sl 1 l[i].data none) v
 | f :: l, cs, hs, i, hi => by
  rw [List.flatMap_cons] at hs
  obtain ⟨a0, as_, rfl, h0, h1⟩ := SVs.to (v := XV.int .i64 f.kind) hs
  have h1 : SVs CT N ρ (.sl 1 f.data none :: l.flatMap (CT.enc 6)) as_ := h1
  obtain ⟨a1, bs, rfl, h2, h3⟩ := h1.to
  cases i with
  | zero => exact ⟨a1, by rw [sv_int.1 h0]; rfl, rfl, h2⟩
  | succ i =>
   obtain ⟨v, g1, g2, g3⟩ := fr_cells (l := l) h3 i (by simpa using hi)
   refine ⟨v, ?_, ?_, g3⟩
   ·rw [show (i + 1) * 2 = i * 2 + 1 + 1 by omega]
    exact g1
   ·rw [show (i + 1) * 2 + 1 = i * 2 + 1 + 1 + 1 by omega]
    exact g2
/-- Frames lent: their cells. -/
noncomputable def inV (f : DFrame) : List (XV Ty) := [.int .i64 f.kind, .slx 1 f.data (markZ 12)]
theorem in_cells {N : Nat} {ρ : Nat → AV} : ∀ {l : List DFrame} {cs : List AV}, SVs CT N ρ (l.flatMap inV) cs → ∀ (i : Nat) (h : i < l.length), ∃ v, cs[i * 2 + 1]? = some v ∧ SV CT N ρ (.slx 1 l[i].data (markZ 12)) v
 | f :: l, cs, hs, i, hi => by
  rw [List.flatMap_cons] at hs
  obtain ⟨a0, as_, rfl, h0, h1⟩ := SVs.to (v := XV.int .i64 f.kind) hs
  have h1 : SVs CT N ρ (.slx 1 f.data (markZ 12) :: l.flatMap inV) as_ := h1
  obtain ⟨a1, bs, rfl, h2, h3⟩ := h1.to
  cases i with
  | zero => exact ⟨a1, rfl, h2⟩
  | succ i =>
   obtain ⟨v, g2, g3⟩ := in_cells (l := l) h3 i (by simpa using hi)
   refine ⟨v, ?_, g3⟩
   rw [show (i + 1) * 2 + 1 = i * 2 + 1 + 1 + 1 by omega]
   exact g2
theorem in_sl {N : Nat} {ρ : Nat → AV} : ∀ {l : List DFrame} {cs : List AV}, SVs CT N ρ (l.flatMap inV) cs → SVs CT N ρ (l.flatMap (CT.enc 6)) cs
 | [], cs, hs => hs
 | f :: l, cs, hs => by
  rw [List.flatMap_cons] at hs
  obtain ⟨a0, as_, rfl, h0, h1⟩ := SVs.to (v := XV.int .i64 f.kind) hs
  have h1 : SVs CT N ρ (.slx 1 f.data (markZ 12) :: l.flatMap inV) as_ := h1
  obtain ⟨a1, bs, rfl, h2, h3⟩ := h1.to
  rw [List.flatMap_cons]
  exact .cons h0 (.cons ((Wk.spare _ _ _).sv h2) (in_sl h3))
theorem sl_cells {N : Nat} {ρ : Nat → AV} : ∀ {l : List DFrame} {cs : List AV}, SVs CT N ρ (l.map fun f => XV.sl 1 f.data none) cs → ∀ (i : Nat) (h : i < l.length), ∃ v, cs[i]? = some v ∧ SV CT N ρ (.sl 1 l[i].data none) v
 | f :: l, cs, hs, i, hi => by
  have hs : SVs CT N ρ (.sl 1 f.data none :: l.map fun f => XV.sl 1 f.data none) cs := hs
  obtain ⟨a0, as_, rfl, h0, h1⟩ := hs.to
  cases i with
  | zero => exact ⟨a0, rfl, h0⟩
  | succ i => exact sl_cells (l := l) h1 i (by simpa using hi)
theorem svs_snoc {N : Nat} {ρ : Nat → AV} : ∀ {l m : List (XV Ty)} {cs ds : List AV}, SVs CT N ρ l cs → SVs CT N ρ m ds → SVs CT N ρ (l ++ m) (cs ++ ds)
 | [], m, cs, ds, h, k => by
  rw [SVs_nil.1 h]
  exact k
 | v :: l, m, cs, ds, h, k => by
  obtain ⟨a0, as_, rfl, h0, h1⟩ := h.to
  exact .cons h0 (svs_snoc h1 k)
theorem Lot.app {te : Nat} {σ : St} {ds : List (List UInt8)} {hs : List AV} (h : Lot te σ ds hs) : ∀ (ds' : List (List UInt8)) (hs' : List AV), Lot te σ ds' hs' → (∀ (i j : Nat) (u v : AV) (b : Nat), hs[i]? = some u → hs'[j]? = some v → hbk u = some b → hbk v ≠ some b) → Lot te σ (ds ++ ds') (hs ++ hs') := by
 intro ds' hs' k hf
 refine ⟨by rw [List.length_append, List.length_append, h.len, k.len], fun j v d hv hd => ?_, fun i j u v b hu hv hb hb' => ?_⟩
 ·rcases Nat.lt_or_ge j hs.length with hj | hj
  ·rw [List.getElem?_append_left hj] at hv
   rw [List.getElem?_append_left (by rw [← h.len]; exact hj)] at hd
   exact h.at_ j v d hv hd
  ·rw [List.getElem?_append_right hj] at hv
   rw [List.getElem?_append_right (by rw [← h.len]; exact hj), ← h.len] at hd
   exact k.at_ _ v d hv hd
 ·rcases Nat.lt_or_ge i hs.length with hi | hi <;> rcases Nat.lt_or_ge j hs.length with hj | hj
  ·rw [List.getElem?_append_left hi] at hu
   rw [List.getElem?_append_left hj] at hv
   exact h.far i j u v b hu hv hb hb'
  ·rw [List.getElem?_append_left hi] at hu
   rw [List.getElem?_append_right hj] at hv
   exact absurd hb' (hf _ _ u v b hu hv hb)
  ·rw [List.getElem?_append_right hi] at hu
   rw [List.getElem?_append_left hj] at hv
   exact absurd hb (hf _ _ v u b hv hu hb')
  ·rw [List.getElem?_append_right hi] at hu
   rw [List.getElem?_append_right hj] at hv
   have := k.far _ _ u v b hu hv hb hb'
   omega
/-- Lists that lie apart are found to. -/
theorem apart_call {σ : St} {ds : List (List UInt8)} {hs : List AV} {A : Option Addr} {c : Nat} (h : Lot 5 σ ds hs) (hm : hs.length ≤ 1000) (hA : A = none → hs.length = 0) (hd : ∀ d ∈ ds, d.length ≤ 1000000) (K : AV → St → Prop) (hK : ∀ τ, K (vT true) τ) : CallsA Try.prog 18 [.lst A hs.length c hs] σ K := by
 have hap := apart_ok (r0 := []) (A := A) (c := c) (nn := fun j => (ds.getD j []).length) (X0 := fun j => bys (ds.getD j [])) (m := fun k i => markV k i) mark_call hm hA (fun j => ?_) (fun j v hv => ?_) (fun k v hv i u b hik hu hub hb => ?_) (σ := σ)
 ·rw [List.append_nil] at hap
  exact hap.mono fun r τ hr => by rw [hr.1]; exact hK τ
 ·try dsimp only
  rw [List.getD_eq_getElem?_getD]
  cases hq : ds[j]? with
  | none => exact Nat.zero_le _
  | some d => exact hd d (List.mem_of_getElem? hq)
 ·obtain ⟨d, h1, h2⟩ := h.hd hv
  try dsimp only
  rw [List.getD_eq_getElem?_getD, h1]
  exact h2
 ·exact hik (h.far i k u v b hu hv hub hb)
/-- Frames that were got, lent. -/
theorem got_lend {G : Nat → Prop} {σ : St} : ∀ (fs : List Fr) (hs : List AV), hs.length = fs.length → (∀ (j : Nat) (v : AV) (f : Fr), hs[j]? = some v → fs[j]? = some f → Hd σ 5 1 v f.2.length (bys f.2)) → (∀ (j : Nat) (v : AV) (b : Nat), hs[j]? = some v → hbk v = some b → G b) → (∀ f ∈ fs, f.2.length ≤ 1000000) →
  ∃ cells, LendL G σ (frC fs hs) cells ∧ SVs CT 0 noRho ((fs.map toD).flatMap (CT.enc 6)) cells
 | [], [], _, _, _, _ => ⟨[], trivial, .none⟩
 | f :: fs, h :: hs, hl, ha, hG, hb => by
  obtain ⟨cells, k1, k2⟩ := got_lend (G := G) (σ := σ) fs hs (by simpa using hl) (fun j v g hv hg => ha (j + 1) v g hv hg) (fun j v b hv hb => hG (j + 1) v b hv hb) (fun g hg => hb g (List.mem_cons_of_mem _ hg))
  have hh := ha 0 h f rfl rfl
  have hfb := hb f List.mem_cons_self
  obtain ⟨A, c, l1, l2, l3, l4⟩ := hh.lends (G := G) (fun b hq => hG 0 h b rfl hq) (LendL.refl _)
  refine ⟨.raw (.int .i64 f.1) :: .lst A f.2.length c (bys f.2) :: cells, ⟨.refl _, l1, k1⟩, ?_⟩
  have := bytes_sv (N := 0) (ρ := noRho) (d := f.2) (A := A) (c := c) (rest := []) ⟨l2, l3, by omega, l4⟩
  rw [List.append_nil] at this
  exact .cons (sv_int.2 rfl) (.cons this k2)
end Go.Proofs.Ytklmbkkeiihgdaa
/- FrameTells, by hand. -/
namespace Go.Proofs.Ytklmbkkeiihgdaa
open Go.RowKit
set_option maxRecDepth 100000
set_option linter.unusedVariables false
set_option linter.unusedSimpArgs false
theorem neq_self (n : Int) : decide (n ≠ n) = false := by simp
set_option maxHeartbeats 8000000 in
theorem tells_ok {x0 : List DFrame} {x1 : List UInt8} {A0 A1 : Option Addr} {c0 c1 : Nat} {cs0 rest0 rest1 : List AV} {σ : St} (K : AV → St → Prop) (hl0 : x0.length ≤ 140737488355328) (hd0 : ∀ f ∈ x0, f.data.length ≤ 140737488355328) (hA0 : A0 = none → x0.length = 0) (hL0 : x0.length ≤ c0 ∧ c0 ≤ maxLen ∧ (A0 = none → x0.length = 0 ∧ c0 = 0)) (hs0 : SVs CT 0 noRho (x0.flatMap (CT.enc 6)) cs0) (hA1 : Lst A1 x1.length c1) (hK : ∀ τ, K (vT true) τ) :
  CallsA Try.prog 3 [.lst A0 x0.length c0 (cs0 ++ rest0), .lst A1 x1.length c1 (bys x1 ++ rest1)] σ K := by
 obtain ⟨rg, hg1, hg2⟩ := great_p hl0 hd0
 have hsa0 : SV CT 0 noRho (.sl 6 x0 none) (.lst A0 x0.length c0 (cs0 ++ rest0)) := sv_sl.2 ⟨A0, c0, cs0, rest0, rfl, hL0.1, hL0.2.1, hl0, hL0.2.2, hs0⟩
 have hsa1 : SV CT 0 noRho (.sl 1 x1 none) (.lst A1 x1.length c1 (bys x1 ++ rest1)) := bytes_sv hA1
 generalize ha0 : AV.lst A0 x0.length c0 (cs0 ++ rest0) = a0 at hsa0 ⊢
 generalize ha1 : AV.lst A1 x1.length c1 (bys x1 ++ rest1) = a1 at hsa1 ⊢
 have hx1 := hA1.small
 refine callsA_of fl_mixed Try.func3 rfl rfl rfl (Nat.le_of_ble_eq_true rfl) ?_
 refine comp2 0 1 (v0 := a0) (v1 := a1) rfl rfl ?_
 intro e he
 refine k_region ?_
 refine k_cons (c_mv rfl (by simp only [EV, Nat.reduceEqDiff, ↓reduceIte, he] <;> try rfl) ?_)
 refine k_nil ?_
 apply comp2 0 1
 ·simp only [EV, Nat.reduceEqDiff, ↓reduceIte, he] <;> try rfl
 ·simp only [EV, Nat.reduceEqDiff, ↓reduceIte, he] <;> try rfl
 clear he e
 intro e he
 refine k_assoc ?_
 by_cases hbig : rg = true ∨ 8000 < x1.length
 ·-- too much
  refine k_cutS (fun env υ => env 28 = vT true) ?_ ?_
  ·cases rg with
   | true =>
    refine k_region1 ?_
    refine k_cons (c_mv rfl (by simp only [EV, Nat.reduceEqDiff, ↓reduceIte, he] <;> try rfl) ?_)
    refine k_cons ?_
    refine s_call (vs := [a0]) (by simp only [List.map_cons, List.map_nil, EV, Nat.reduceEqDiff, ↓reduceIte, he]) ?_
    refine great_call hsa0 hg1 fun τ hX => ?_
    refine k_cons (c_mv rfl (by simp only [EV, Nat.reduceEqDiff, ↓reduceIte, he] <;> try rfl) ?_)
    refine k_cons (s_guard_off (y_is rfl (by simp only [EV, Nat.reduceEqDiff, ↓reduceIte, he] <;> try rfl)) ?_)
    refine k_cons (s_guard_off (y_is rfl (by simp only [EV, Nat.reduceEqDiff, ↓reduceIte, he] <;> try rfl)) ?_)
    refine k_cons (s_guard_off (y_is rfl (by simp only [EV, Nat.reduceEqDiff, ↓reduceIte, he] <;> try rfl)) ?_)
    refine k_cons ?_
    refine s_pick_t (v := vT true) (by simp only [EV, Nat.reduceEqDiff, ↓reduceIte, he] <;> try rfl) (by simp only [EV, Nat.reduceEqDiff, ↓reduceIte, he] <;> try rfl) ?_
    refine k_nil ?_
    exact ⟨rfl, by simp only [EV, Nat.reduceEqDiff, ↓reduceIte, he] <;> try rfl⟩
   | false =>
    have hb : 8000 < x1.length := by rcases hbig with q | q; exact absurd q (by decide); exact q
    refine k_region1 ?_
    refine k_cons (c_mv rfl (by simp only [EV, Nat.reduceEqDiff, ↓reduceIte, he] <;> try rfl) ?_)
    refine k_cons ?_
    refine s_call (vs := [a0]) (by simp only [List.map_cons, List.map_nil, EV, Nat.reduceEqDiff, ↓reduceIte, he]) ?_
    refine great_call hsa0 hg1 fun τ hX => ?_
    refine k_cons (c_mv rfl (by simp only [EV, Nat.reduceEqDiff, ↓reduceIte, he] <;> try rfl) ?_)
    refine k_cons (s_guard_on (y_is rfl (by simp only [EV, Nat.reduceEqDiff, ↓reduceIte, he] <;> try rfl)) ?_)
    refine c_mv rfl (by simp only [EV, Nat.reduceEqDiff, ↓reduceIte, he] <;> try rfl) ?_
    refine k_cons (s_guard_on (y_is rfl (by simp only [EV, Nat.reduceEqDiff, ↓reduceIte, he] <;> try rfl)) ?_)
    refine s_lenN (n := x1.length) (c := c1) (A := A1) (by simp only [EV, Nat.reduceEqDiff, ↓reduceIte, he] <;> try rfl) (by rw [← ha1]; rfl) rfl fl_slS ?_
    refine k_cons (s_guard_on (y_is rfl (by simp only [EV, Nat.reduceEqDiff, ↓reduceIte, he] <;> try rfl)) ?_)
    refine s_gtr (k := .i64) (a := (x1.length : Int)) (b := 8000) (by simp only [EV, Nat.reduceEqDiff, ↓reduceIte, he] <;> try rfl) (by simp only [EV, Nat.reduceEqDiff, ↓reduceIte, he] <;> try rfl) ?_
    rw [decide_eq_true (by omega : (8000 : Int) < (x1.length : Int))]
    refine k_cons ?_
    refine s_pick_f (v := vT true) (by simp only [EV, Nat.reduceEqDiff, ↓reduceIte, he] <;> try rfl) (by simp only [EV, Nat.reduceEqDiff, ↓reduceIte, he] <;> try rfl) ?_
    refine k_nil ?_
    exact ⟨rfl, by simp only [EV, Nat.reduceEqDiff, ↓reduceIte, he] <;> try rfl⟩
  ·clear he e
   intro e υ he
   refine k_cond (t := true) (by simp only [EV, Nat.reduceEqDiff, ↓reduceIte, he] <;> try rfl) (fun _ => ?_) (fun q => by cases q)
   refine k_assoc ?_
   refine k_region ?_
   refine k_cons ?_
   refine s_call (vs := []) rfl ?_
   refine awake_call fun τ hX => ?_
   refine k_cons (c_mv rfl (by simp only [EV, Nat.reduceEqDiff, ↓reduceIte, he] <;> try rfl) ?_)
   refine k_nil ?_
   refine k_ret ?_
   show ∃ r, aResults _ _ _ _ r ∧ _
   exact ⟨_, res_tmp rfl (by simp only [EV, Nat.reduceEqDiff, ↓reduceIte, he] <;> try rfl), hK τ⟩
 have hrg : rg = false := by cases rg; rfl; exact absurd (.inl rfl) hbig
 subst hrg
 have hx1l : x1.length ≤ 8000 := by
  rcases Nat.lt_or_ge 8000 x1.length with q | q
  ·exact absurd (.inr q) hbig
  ·exact q
 have hgl := hg2 rfl
 have hcod := codes_dsum x0
 have hcod2 : (codes ((x0.map t2).map fr2)).length ≤ 10000000 := by rw [map_fr2]; omega
 have hdl : ∀ f ∈ x0, f.data.length ≤ 1000000 := fun f hf => by have := dsum_mem hf; omega
 refine k_region ?_
 refine k_cons (c_mv rfl (by simp only [EV, Nat.reduceEqDiff, ↓reduceIte, he] <;> try rfl) ?_)
 refine k_cons ?_
 refine s_call (vs := [a0]) (by simp only [List.map_cons, List.map_nil, EV, Nat.reduceEqDiff, ↓reduceIte, he]) ?_
 refine great_call hsa0 hg1 fun τ1 hX1 => ?_
 refine k_cons (c_mv rfl (by simp only [EV, Nat.reduceEqDiff, ↓reduceIte, he] <;> try rfl) ?_)
 refine k_cons (s_guard_on (y_is rfl (by simp only [EV, Nat.reduceEqDiff, ↓reduceIte, he] <;> try rfl)) ?_)
 refine c_mv rfl (by simp only [EV, Nat.reduceEqDiff, ↓reduceIte, he] <;> try rfl) ?_
 refine k_cons (s_guard_on (y_is rfl (by simp only [EV, Nat.reduceEqDiff, ↓reduceIte, he] <;> try rfl)) ?_)
 refine s_lenN (n := x1.length) (c := c1) (A := A1) (by simp only [EV, Nat.reduceEqDiff, ↓reduceIte, he] <;> try rfl) (by rw [← ha1]; rfl) rfl fl_slS ?_
 refine k_cons (s_guard_on (y_is rfl (by simp only [EV, Nat.reduceEqDiff, ↓reduceIte, he] <;> try rfl)) ?_)
 refine s_gtr (k := .i64) (a := (x1.length : Int)) (b := 8000) (by simp only [EV, Nat.reduceEqDiff, ↓reduceIte, he] <;> try rfl) (by simp only [EV, Nat.reduceEqDiff, ↓reduceIte, he] <;> try rfl) ?_
 rw [decide_eq_false (by omega : ¬ (8000 : Int) < (x1.length : Int))]
 refine k_cons ?_
 refine s_pick_f (v := vT false) (by simp only [EV, Nat.reduceEqDiff, ↓reduceIte, he] <;> try rfl) (by simp only [EV, Nat.reduceEqDiff, ↓reduceIte, he] <;> try rfl) ?_
 refine k_nil ?_
 apply comp3 0 1 28
 ·simp only [EV, Nat.reduceEqDiff, ↓reduceIte, he] <;> try rfl
 ·simp only [EV, Nat.reduceEqDiff, ↓reduceIte, he] <;> try rfl
 ·simp only [EV, Nat.reduceEqDiff, ↓reduceIte, he] <;> try rfl
 clear he e
 intro e he
 refine k_cond (t := false) (by simp only [EV, Nat.reduceEqDiff, ↓reduceIte, he] <;> try rfl) (fun q => by cases q) (fun _ => ?_)
 refine k_skip ?_
 refine k_region ?_
 refine k_cons (c_mv rfl (by simp only [EV, Nat.reduceEqDiff, ↓reduceIte, he] <;> try rfl) ?_)
 refine k_nil ?_
 refine k_region ?_
 refine k_cons (c_mv rfl (by simp only [EV, Nat.reduceEqDiff, ↓reduceIte, he] <;> try rfl) ?_)
 refine k_nil ?_
 refine k_assoc ?_
 refine k_region ?_
 refine k_cons (c_mv rfl (by simp only [EV, Nat.reduceEqDiff, ↓reduceIte, he] <;> try rfl) ?_)
 refine k_nil ?_
 -- the frames, lent
 refine k_cutS (fun env υ => ∃ dv iv dc ic, (env 0 = a0 ∧ env 1 = a1 ∧ env 5 = dv ∧ env 6 = iv) ∧ Own υ 23 1 dv x0.length dc ∧ Own υ 28 2 iv x0.length ic ∧ SVs CT 0 noRho (x0.map fun f => XV.sl 1 f.data none) dc ∧ SVs CT 0 noRho (x0.flatMap inV) ic) ?_ ?_
 ·apply comp5 0 1 5 6 7
  ·simp only [EV, Nat.reduceEqDiff, ↓reduceIte, he] <;> try rfl
  ·simp only [EV, Nat.reduceEqDiff, ↓reduceIte, he] <;> try rfl
  ·simp only [EV, Nat.reduceEqDiff, ↓reduceIte, he] <;> try rfl
  ·simp only [EV, Nat.reduceEqDiff, ↓reduceIte, he] <;> try rfl
  ·simp only [EV, Nat.reduceEqDiff, ↓reduceIte, he] <;> try rfl
  clear he e
  intro e he
  refine k_block1 ?_
  refine k_loopE (fun μ env υ => ∃ (i : Nat) (dv iv : AV) (dc ic : List AV), μ = x0.length - i ∧ i ≤ x0.length ∧ (env 0 = a0 ∧ env 1 = a1 ∧ env 5 = dv ∧ env 6 = iv ∧ env 7 = vI i) ∧ Own υ 23 1 dv i dc ∧ Own υ 28 2 iv i ic ∧ SVs CT 0 noRho ((x0.take i).map fun f => XV.sl 1 f.data none) dc ∧ SVs CT 0 noRho ((x0.take i).flatMap inV) ic) ⟨_, 0, .lst none 0 0 [], .lst none 0 0 [], [], [], rfl, Nat.zero_le _, he, ⟨by simp, .inl ⟨rfl, rfl⟩⟩, ⟨by simp, .inl ⟨rfl, rfl⟩⟩, .none, .none⟩ ?_
  clear he e hX1 τ1
  rintro _ e υ ⟨i, dv, iv, dc, ic, rfl, hi, he, hD, hI, hdc, hic⟩
  refine k_assoc ?_
  refine k_region ?_
  refine k_cons (c_mv rfl (by simp only [EV, Nat.reduceEqDiff, ↓reduceIte, he] <;> try rfl) ?_)
  refine k_cons (c_mv rfl (by simp only [EV, Nat.reduceEqDiff, ↓reduceIte, he] <;> try rfl) ?_)
  refine k_cons ?_
  refine s_lenN (n := x0.length) (c := c0) (A := A0) (by simp only [EV, Nat.reduceEqDiff, ↓reduceIte, he] <;> try rfl) (by rw [← ha0]; rfl) rfl fg_sl22 ?_
  refine k_cons ?_
  refine s_lssN i x0.length (by simp only [EV, Nat.reduceEqDiff, ↓reduceIte, he] <;> try rfl) (by simp only [EV, Nat.reduceEqDiff, ↓reduceIte, he] <;> try rfl) ?_
  refine k_nil ?_
  apply comp6 0 1 5 6 7 33
  ·simp only [EV, Nat.reduceEqDiff, ↓reduceIte, he] <;> try rfl
  ·simp only [EV, Nat.reduceEqDiff, ↓reduceIte, he] <;> try rfl
  ·simp only [EV, Nat.reduceEqDiff, ↓reduceIte, he] <;> try rfl
  ·simp only [EV, Nat.reduceEqDiff, ↓reduceIte, he] <;> try rfl
  ·simp only [EV, Nat.reduceEqDiff, ↓reduceIte, he] <;> try rfl
  ·simp only [EV, Nat.reduceEqDiff, ↓reduceIte, he] <;> try rfl
  clear he e
  intro e he
  refine k_cond (t := decide (i < x0.length)) (by simp only [EV, Nat.reduceEqDiff, ↓reduceIte, he] <;> try rfl) (fun ht => ?_) (fun ht => ?_)
  ·have hlt : i < x0.length := of_decide_eq_true ht
   obtain ⟨v, hv0, hv1, hvs⟩ := fr_cells hs0 i hlt
   have hvl := hdl _ (List.getElem_mem hlt)
   have hcl0 : i * 2 + 1 < cs0.length := lt_of_get hv1
   obtain ⟨Av, cv, rv, hvf, hvL⟩ := sv_bytes hvs
   refine k_skip ?_
   refine k_block ?_
   refine k_region ?_
   refine k_cons (c_mv rfl (by simp only [EV, Nat.reduceEqDiff, ↓reduceIte, he] <;> try rfl) ?_)
   refine k_cons (c_mv rfl (by simp only [EV, Nat.reduceEqDiff, ↓reduceIte, he] <;> try rfl) ?_)
   refine k_cons (c_mv rfl (by simp only [EV, Nat.reduceEqDiff, ↓reduceIte, he] <;> try rfl) ?_)
   refine k_cons ?_
   refine s_indexD (k := .i64) (j := i) (A := A0) (n := x0.length) (c := c0) (cells := cs0 ++ rest0) (Eq.trans (b := a0) (by simp only [EV, Nat.reduceEqDiff, ↓reduceIte, he] <;> try rfl) ha0.symm) (by simp only [EV, Nat.reduceEqDiff, ↓reduceIte, he] <;> try rfl) fg_sl22 fn_sz28 hlt hA0 rfl fun ad => ?_
   refine k_cons ?_
   refine s_fieldAddr_e (by simp only [EV, Nat.reduceEqDiff, ↓reduceIte, he] <;> try rfl) fn_st28 rfl ?_
   refine k_cons ?_
   refine r_load_e (r := v) (by simp only [EV, Nat.reduceEqDiff, ↓reduceIte, he] <;> try rfl) fl_agS fl_szS ?_ ?_
   ·show (((cs0 ++ rest0).drop (i * 2)).drop 1)[0]? = _
    rw [List.getElem?_drop, List.getElem?_drop, List.getElem?_append_left (by omega), show i * 2 + (1 + 0) = i * 2 + 1 by omega]
    exact hv1
   refine k_cons ?_
   refine r_row (vs := [v]) (cells := [v]) (by simp only [List.map_cons, List.map_nil, EV, Nat.reduceEqDiff, ↓reduceIte, he]) fl_slL fl_szS fl_zeS rfl (by omega) (by rw [hvf]; rfl) rfl fun rb υ1 hN1 hX1 => ?_
   refine k_cons ?_
   refine r_append (by simp only [EV, Nat.reduceEqDiff, ↓reduceIte, he] <;> try rfl) (by simp only [EV, Nat.reduceEqDiff, ↓reduceIte, he] <;> try rfl) fl_slL fl_szS fl_zeS fl_byS rfl (by omega) (hD.ext hX1) (m := 1) (by simp) (fun a ha => by
    have ha := List.mem_of_mem_take ha
    rw [List.mem_singleton.1 ha, hvf]
    rfl) (by omega) fun dv2 υ2 hD2 hB2 hn2 => ?_
   refine k_cons (c_mv rfl (by simp only [EV, Nat.reduceEqDiff, ↓reduceIte, he] <;> try rfl) ?_)
   refine k_nil ?_
   have hI2 : Own υ2 28 2 iv i ic := (hI.ext hX1).but hB2 fun g hg q => by
    obtain ⟨_, _, q2⟩ := (hI.ext hX1).blk_ hg
    obtain ⟨_, _, q3⟩ := (hD.ext hX1).blk_ q
    rw [q2] at q3
    injection q3 with q3
    injection q3 with q3
    cases q3
   apply comp5 0 1 5 6 7
   ·simp only [EV, Nat.reduceEqDiff, ↓reduceIte, he] <;> try rfl
   ·simp only [EV, Nat.reduceEqDiff, ↓reduceIte, he] <;> try rfl
   ·simp only [EV, Nat.reduceEqDiff, ↓reduceIte, he] <;> try rfl
   ·simp only [EV, Nat.reduceEqDiff, ↓reduceIte, he] <;> try rfl
   ·simp only [EV, Nat.reduceEqDiff, ↓reduceIte, he] <;> try rfl
   clear he e
   intro e he
   refine k_drawn1 ?_
   refine ⟨[0, 1, 2, 3, 4, 6, 7, 8, 9, 5, 10, 11, 12, 13, 14, 15], [[], [], [], [1, 2], [1, 2, 3], [1, 2, 3, 4], [], [], [6, 7], [6, 7, 8], [6, 7, 8, 9], [6, 7, 8, 9, 10], [1, 2, 3, 4, 5, 6, 7, 8, 9, 10, 11], [1, 2, 3, 4, 5, 6, 7, 8, 9, 10, 11, 12], [0, 1, 2, 3, 4, 5, 6, 7, 8, 9, 10, 11, 12, 13], [0, 1, 2, 3, 4, 5, 6, 7, 8, 9, 10, 11, 12, 13, 14]], fun _ => True, [5], [11], [], by kernel_rfl, ?_⟩
   apply d_any
   case hi => simp only [HIX]; try rfl
   case hw => rfl
   case how => rfl
   refine c_mv rfl (by simp only [EV, Nat.reduceEqDiff, ↓reduceIte, he] <;> try rfl) ?_
   refine d_ok ?_
   apply d_any
   case hi => simp only [HIX]; try rfl
   case hw => rfl
   case how => rfl
   refine c_mv rfl (by simp only [EV, Nat.reduceEqDiff, ↓reduceIte, he] <;> try rfl) ?_
   refine d_ok ?_
   apply d_any
   case hi => simp only [HIX]; try rfl
   case hw => rfl
   case how => rfl
   refine c_mv rfl (by simp only [EV, Nat.reduceEqDiff, ↓reduceIte, he] <;> try rfl) ?_
   refine d_ok ?_
   apply d_any
   case hi => simp only [HIX]; try rfl
   case hw => rfl
   case how => rfl
   refine s_indexD (k := .i64) (j := i) (A := A0) (n := x0.length) (c := c0) (cells := cs0 ++ rest0) (Eq.trans (b := a0) (by simp only [EV, Nat.reduceEqDiff, ↓reduceIte, he] <;> try rfl) ha0.symm) (by simp only [EV, Nat.reduceEqDiff, ↓reduceIte, he] <;> try rfl) fg_sl22 fn_sz28 hlt hA0 rfl fun ad2 => ?_
   refine d_ok ?_
   apply d_any
   case hi => simp only [HIX]; try rfl
   case hw => rfl
   case how => rfl
   refine s_fieldAddr_e (by simp only [EV, Nat.reduceEqDiff, ↓reduceIte, he] <;> try rfl) fn_st28 rfl ?_
   refine d_ok ?_
   apply d_any
   case hi => simp only [HIX]; try rfl
   case hw => rfl
   case how => rfl
   refine c_mv rfl (by simp only [EV, Nat.reduceEqDiff, ↓reduceIte, he] <;> try rfl) ?_
   refine d_ok ?_
   apply d_any
   case hi => simp only [HIX]; try rfl
   case hw => rfl
   case how => rfl
   refine c_mv rfl (by simp only [EV, Nat.reduceEqDiff, ↓reduceIte, he] <;> try rfl) ?_
   refine d_ok ?_
   apply d_any
   case hi => simp only [HIX]; try rfl
   case hw => rfl
   case how => rfl
   refine s_indexD (k := .i64) (j := i) (A := A0) (n := x0.length) (c := c0) (cells := cs0 ++ rest0) (Eq.trans (b := a0) (by simp only [EV, Nat.reduceEqDiff, ↓reduceIte, he] <;> try rfl) ha0.symm) (by simp only [EV, Nat.reduceEqDiff, ↓reduceIte, he] <;> try rfl) fg_sl22 fn_sz28 hlt hA0 rfl fun ad3 => ?_
   refine d_ok ?_
   apply d_any
   case hi => simp only [HIX]; try rfl
   case hw => rfl
   case how => rfl
   refine s_fieldAddr_e (by simp only [EV, Nat.reduceEqDiff, ↓reduceIte, he] <;> try rfl) fn_st28 rfl ?_
   refine d_ok ?_
   apply d_any
   case hi => simp only [HIX]; try rfl
   case hw => rfl
   case how => rfl
   refine r_load_e (r := .raw (.int .i64 x0[i].kind)) (by simp only [EV, Nat.reduceEqDiff, ↓reduceIte, he] <;> try rfl) fo_ag3 fo_sz3 ?_ ?_
   ·show (((cs0 ++ rest0).drop (i * 2)).drop 0)[0]? = _
    rw [List.drop_zero, List.getElem?_drop, List.getElem?_append_left (by omega)]
    exact hv0
   refine d_ok ?_
   apply d_any
   case hi => simp only [HIX]; try rfl
   case hw => rfl
   case how => rfl
   refine r_load_e (r := v) (by simp only [EV, Nat.reduceEqDiff, ↓reduceIte, he] <;> try rfl) fl_agS fl_szS ?_ ?_
   ·show (((cs0 ++ rest0).drop (i * 2)).drop 1)[0]? = _
    rw [List.getElem?_drop, List.getElem?_drop, List.getElem?_append_left (by omega), show i * 2 + (1 + 0) = i * 2 + 1 by omega]
    exact hv1
   refine d_ok ?_
   apply d_any
   case hi => simp only [HIX]; try rfl
   case hw => rfl
   case how => rfl
   refine s_call (vs := [v]) (by simp only [List.map_cons, List.map_nil, EV, Nat.reduceEqDiff, ↓reduceIte, he]) ?_
   refine lent_call hvl hvs fun u υ3 hus hX3 => ⟨fun _ => hX3, ?_⟩
   obtain ⟨Au, cu, csu, ru, huf, -, -, -, -, -⟩ := sv_slx.1 hus
   apply d_any
   case hi => simp only [HIX]; try rfl
   case hw => rfl
   case how => rfl
   refine s_build (vs := [.raw (.int .i64 x0[i].kind), u]) (cells := [.raw (.int .i64 x0[i].kind), u]) (by simp only [List.map_cons, List.map_nil, EV, Nat.reduceEqDiff, ↓reduceIte, he]) fn_ze28 fn_pl28 (by rw [huf]; rfl) ?_
   refine d_ok ?_
   apply d_any
   case hi => simp only [HIX]; try rfl
   case hw => rfl
   case how => rfl
   refine r_row (vs := [.agg [.raw (.int .i64 x0[i].kind), u]]) (cells := [.raw (.int .i64 x0[i].kind), u]) (by simp only [List.map_cons, List.map_nil, EV, Nat.reduceEqDiff, ↓reduceIte, he]; try rfl) fg_sl22 fn_sz28 fn_ze28 rfl (by omega) rfl rfl fun rb4 υ4 hN4 hX4 => ⟨(fun h => absurd h Bool.false_ne_true), ?_⟩
   have hI4 := (hI2.ext hX3).ext hX4
   have hD4 := (hD2.ext hX3).ext hX4
   apply d_any
   case hi => simp only [HIX]; try rfl
   case hw => rfl
   case how => rfl
   refine r_append (by simp only [EV, Nat.reduceEqDiff, ↓reduceIte, he] <;> try rfl) (by simp only [EV, Nat.reduceEqDiff, ↓reduceIte, he] <;> try rfl) fg_sl22 fn_sz28 fn_ze28 fg_by28 rfl (by omega) hI4 (m := 1) (by simp) (fun a ha => by
    have ha := List.mem_of_mem_take ha
    rcases List.mem_cons.1 ha with rfl | ha
    ·rfl
    ·rw [List.mem_singleton.1 ha, huf]
     rfl) (by omega) fun iv5 υ5 hI5 hB5 hn5 => ⟨(fun h => absurd h Bool.false_ne_true), ?_⟩
   apply d_any
   case hi => simp only [HIX]; try rfl
   case hw => rfl
   case how => rfl
   refine c_mv rfl (by simp only [EV, Nat.reduceEqDiff, ↓reduceIte, he] <;> try rfl) ?_
   refine d_ok ?_
   refine d_nil ?_
   have hD5 := hD4.but hB5 fun g hg q => by
    obtain ⟨_, _, q2⟩ := hI4.blk_ q
    obtain ⟨_, _, q3⟩ := hD4.blk_ hg
    rw [q2] at q3
    injection q3 with q3
    injection q3 with q3
    cases q3
   show aCode _ _ _ _ _ _
   apply comp5 0 1 5 6 7
   ·simp only [EV, Nat.reduceEqDiff, ↓reduceIte, he] <;> try rfl
   ·simp only [EV, Nat.reduceEqDiff, ↓reduceIte, he] <;> try rfl
   ·simp only [EV, Nat.reduceEqDiff, ↓reduceIte, he] <;> try rfl
   ·simp only [EV, Nat.reduceEqDiff, ↓reduceIte, he] <;> try rfl
   ·simp only [EV, Nat.reduceEqDiff, ↓reduceIte, he] <;> try rfl
   clear he e
   intro e he
   refine k_region1 ?_
   refine k_cons (c_mv rfl (by simp only [EV, Nat.reduceEqDiff, ↓reduceIte, he] <;> try rfl) ?_)
   refine k_cons ?_
   refine s_addN i 1 (by simp only [EV, Nat.reduceEqDiff, ↓reduceIte, he] <;> try rfl) (by simp only [EV, Nat.reduceEqDiff, ↓reduceIte, he] <;> try rfl) (by omega) ?_
   refine k_cons (c_mv rfl (by simp only [EV, Nat.reduceEqDiff, ↓reduceIte, he] <;> try rfl) ?_)
   refine k_nil ?_
   show ∃ n', n' < _ ∧ _
   refine ⟨_, (by omega : x0.length - (i + 1) < x0.length - i), i + 1, dv2, iv5, _, _, rfl, hlt, ⟨by simp only [EV, Nat.reduceEqDiff, ↓reduceIte, he] <;> try rfl, by simp only [EV, Nat.reduceEqDiff, ↓reduceIte, he] <;> try rfl, by simp only [EV, Nat.reduceEqDiff, ↓reduceIte, he] <;> try rfl, by simp only [EV, Nat.reduceEqDiff, ↓reduceIte, he] <;> try rfl, by simp only [EV, Nat.reduceEqDiff, ↓reduceIte, he] <;> try rfl⟩, hD5, hI5, ?_, ?_⟩
   ·rw [List.take_succ_eq_append_getElem hlt, List.map_append]
    exact svs_snoc hdc hvs
   ·rw [List.take_succ_eq_append_getElem hlt, List.flatMap_append]
    exact svs_snoc hic (.cons (sv_int.2 rfl) hus)
  ·have hke : i = x0.length := by have := of_decide_eq_false ht; omega
   subst hke
   rw [List.take_length] at hdc hic
   refine k_exit ?_
   exact ⟨rfl, dv, iv, dc, ic, ⟨by simp only [EV, Nat.reduceEqDiff, ↓reduceIte, he] <;> try rfl, by simp only [EV, Nat.reduceEqDiff, ↓reduceIte, he] <;> try rfl, by simp only [EV, Nat.reduceEqDiff, ↓reduceIte, he] <;> try rfl, by simp only [EV, Nat.reduceEqDiff, ↓reduceIte, he] <;> try rfl⟩, hD, hI, hdc, hic⟩
 clear he e hX1 τ1
 rintro e υ ⟨dv, iv, dc, ic, he, hD, hI, hdc, hic⟩
 obtain ⟨Ad, cd, hdf, hdA⟩ := hD.form_
 obtain ⟨Ai, ci, hif, hiA⟩ := hI.form_
 have hsi : SV CT 0 noRho (.sl 6 x0 none) iv := own_sv hI hl0 (in_sl hic)
 have hcl2 : (codes (x0.map fr)).length ≤ 10000000 := by omega
 have hprl := putR_len (show (codes (x0.map fr)).length ≤ 1000000 by omega)
 have hfs := getAll_is x1.length x1 (Nat.le_refl _)
 generalize hpr : putR (x0.map fr) = pr at hprl
 refine k_region ?_
 refine k_cons (c_mv rfl (by simp only [EV, Nat.reduceEqDiff, ↓reduceIte, he] <;> try rfl) ?_)
 refine k_cons ?_
 refine s_call (vs := [iv]) (by simp only [List.map_cons, List.map_nil, EV, Nat.reduceEqDiff, ↓reduceIte, he]) ?_
 refine put_call (by omega) hcl2 hsi fun sv τ1 hsv hsn hX1 => ?_
 rw [hpr] at hsv ⊢
 refine k_cons (c_mv rfl (by simp only [EV, Nat.reduceEqDiff, ↓reduceIte, he] <;> try rfl) ?_)
 refine k_cons ?_
 refine s_extract (l := [sv, .raw (.int .i64 pr.2)]) (r := sv) (by simp only [EV, Nat.reduceEqDiff, ↓reduceIte, he] <;> try rfl) rfl ?_
 refine k_cons ?_
 refine s_extract (l := [sv, .raw (.int .i64 pr.2)]) (r := .raw (.int .i64 pr.2)) (by simp only [EV, Nat.reduceEqDiff, ↓reduceIte, he] <;> try rfl) rfl ?_
 refine k_cons (c_mv rfl (by simp only [EV, Nat.reduceEqDiff, ↓reduceIte, he] <;> try rfl) ?_)
 refine k_cons (c_mv rfl (by simp only [EV, Nat.reduceEqDiff, ↓reduceIte, he] <;> try rfl) ?_)
 refine k_nil ?_
 apply comp6 0 1 5 6 8 9
 ·simp only [EV, Nat.reduceEqDiff, ↓reduceIte, he] <;> try rfl
 ·simp only [EV, Nat.reduceEqDiff, ↓reduceIte, he] <;> try rfl
 ·simp only [EV, Nat.reduceEqDiff, ↓reduceIte, he] <;> try rfl
 ·simp only [EV, Nat.reduceEqDiff, ↓reduceIte, he] <;> try rfl
 ·simp only [EV, Nat.reduceEqDiff, ↓reduceIte, he] <;> try rfl
 ·simp only [EV, Nat.reduceEqDiff, ↓reduceIte, he] <;> try rfl
 clear he e
 intro e he
 -- the document's bytes
 refine k_region ?_
 refine k_cons (c_mv rfl (by simp only [EV, Nat.reduceEqDiff, ↓reduceIte, he] <;> try rfl) ?_)
 refine k_cons ?_
 refine s_call (vs := [a0]) (by simp only [List.map_cons, List.map_nil, EV, Nat.reduceEqDiff, ↓reduceIte, he]) ?_
 refine turned_call (by omega) hsa0 fun tv τ2 htv hX2 => ?_
 refine k_cons ?_
 refine s_call (vs := [tv]) (by simp only [List.map_cons, List.map_nil, EV, Nat.reduceEqDiff, ↓reduceIte, he]) ?_
 refine rput_call (l := x0.map t2) (by rw [List.length_map]; omega) hcod2 htv fun rp τ3 hrp hX3 => ?_
 rw [map_fr2, hpr] at hrp ⊢
 refine k_cons (c_mv rfl (by simp only [EV, Nat.reduceEqDiff, ↓reduceIte, he] <;> try rfl) ?_)
 refine k_cons ?_
 refine s_extract (l := [rp, .raw (.int .i64 pr.2)]) (r := rp) (by simp only [EV, Nat.reduceEqDiff, ↓reduceIte, he] <;> try rfl) rfl ?_
 refine k_cons ?_
 refine s_extract (l := [rp, .raw (.int .i64 pr.2)]) (r := .raw (.int .i64 pr.2)) (by simp only [EV, Nat.reduceEqDiff, ↓reduceIte, he] <;> try rfl) rfl ?_
 refine k_cons (c_mv rfl (by simp only [EV, Nat.reduceEqDiff, ↓reduceIte, he] <;> try rfl) ?_)
 refine k_cons (c_mv rfl (by simp only [EV, Nat.reduceEqDiff, ↓reduceIte, he] <;> try rfl) ?_)
 refine k_nil ?_
 apply comp8 0 1 5 6 8 9 10 11
 ·simp only [EV, Nat.reduceEqDiff, ↓reduceIte, he] <;> try rfl
 ·simp only [EV, Nat.reduceEqDiff, ↓reduceIte, he] <;> try rfl
 ·simp only [EV, Nat.reduceEqDiff, ↓reduceIte, he] <;> try rfl
 ·simp only [EV, Nat.reduceEqDiff, ↓reduceIte, he] <;> try rfl
 ·simp only [EV, Nat.reduceEqDiff, ↓reduceIte, he] <;> try rfl
 ·simp only [EV, Nat.reduceEqDiff, ↓reduceIte, he] <;> try rfl
 ·simp only [EV, Nat.reduceEqDiff, ↓reduceIte, he] <;> try rfl
 ·simp only [EV, Nat.reduceEqDiff, ↓reduceIte, he] <;> try rfl
 clear he e
 intro e he
 -- once more
 refine k_region ?_
 refine k_cons (c_mv rfl (by simp only [EV, Nat.reduceEqDiff, ↓reduceIte, he] <;> try rfl) ?_)
 refine k_cons ?_
 refine s_call (vs := [iv]) (by simp only [List.map_cons, List.map_nil, EV, Nat.reduceEqDiff, ↓reduceIte, he]) ?_
 refine put_call (by omega) hcl2 hsi fun uv τ4 huv hun hX4 => ?_
 rw [hpr] at huv ⊢
 refine k_cons (c_mv rfl (by simp only [EV, Nat.reduceEqDiff, ↓reduceIte, he] <;> try rfl) ?_)
 refine k_cons ?_
 refine s_extract (l := [uv, .raw (.int .i64 pr.2)]) (r := uv) (by simp only [EV, Nat.reduceEqDiff, ↓reduceIte, he] <;> try rfl) rfl ?_
 refine k_cons ?_
 refine s_extract (l := [uv, .raw (.int .i64 pr.2)]) (r := .raw (.int .i64 pr.2)) (by simp only [EV, Nat.reduceEqDiff, ↓reduceIte, he] <;> try rfl) rfl ?_
 refine k_cons (c_mv rfl (by simp only [EV, Nat.reduceEqDiff, ↓reduceIte, he] <;> try rfl) ?_)
 refine k_cons (c_mv rfl (by simp only [EV, Nat.reduceEqDiff, ↓reduceIte, he] <;> try rfl) ?_)
 refine k_nil ?_
 have hsv4 := ((hsv.ext hX2).ext hX3).ext hX4
 have hL2 : Lot 5 τ4 [pr.1, pr.1] [sv, uv] := by
  have hL1 : Lot 5 τ4 [pr.1] [sv] := (Lot.nil (te := 5) (σ := τ4)).snoc hsv4 (fun j u b hu => by simp at hu)
  refine hL1.snoc huv fun j u b hu hb hq => ?_
  have hj := lt_of_get hu
  simp at hj
  subst hj
  injection hu with hu
  subst hu
  obtain ⟨_, q⟩ := ((hsv.ext hX2).ext hX3).blk hb
  rw [(hun b hq).1] at q
  cases q
 apply comp9 0 1 5 6 8 9 10 11 12
 ·simp only [EV, Nat.reduceEqDiff, ↓reduceIte, he] <;> try rfl
 ·simp only [EV, Nat.reduceEqDiff, ↓reduceIte, he] <;> try rfl
 ·simp only [EV, Nat.reduceEqDiff, ↓reduceIte, he] <;> try rfl
 ·simp only [EV, Nat.reduceEqDiff, ↓reduceIte, he] <;> try rfl
 ·simp only [EV, Nat.reduceEqDiff, ↓reduceIte, he] <;> try rfl
 ·simp only [EV, Nat.reduceEqDiff, ↓reduceIte, he] <;> try rfl
 ·simp only [EV, Nat.reduceEqDiff, ↓reduceIte, he] <;> try rfl
 ·simp only [EV, Nat.reduceEqDiff, ↓reduceIte, he] <;> try rfl
 ·simp only [EV, Nat.reduceEqDiff, ↓reduceIte, he] <;> try rfl
 clear he e
 intro e he
 -- the bytes, lent
 refine k_region ?_
 refine k_cons (c_mv rfl (by simp only [EV, Nat.reduceEqDiff, ↓reduceIte, he] <;> try rfl) ?_)
 refine k_cons ?_
 refine s_call (vs := [a1]) (by simp only [List.map_cons, List.map_nil, EV, Nat.reduceEqDiff, ↓reduceIte, he]) ?_
 refine lent_call (by omega) hsa1 fun ov τ5 hov hX5 => ?_
 refine k_cons (c_mv rfl (by simp only [EV, Nat.reduceEqDiff, ↓reduceIte, he] <;> try rfl) ?_)
 refine k_nil ?_
 apply comp10 0 1 5 6 8 9 10 11 12 14
 ·simp only [EV, Nat.reduceEqDiff, ↓reduceIte, he] <;> try rfl
 ·simp only [EV, Nat.reduceEqDiff, ↓reduceIte, he] <;> try rfl
 ·simp only [EV, Nat.reduceEqDiff, ↓reduceIte, he] <;> try rfl
 ·simp only [EV, Nat.reduceEqDiff, ↓reduceIte, he] <;> try rfl
 ·simp only [EV, Nat.reduceEqDiff, ↓reduceIte, he] <;> try rfl
 ·simp only [EV, Nat.reduceEqDiff, ↓reduceIte, he] <;> try rfl
 ·simp only [EV, Nat.reduceEqDiff, ↓reduceIte, he] <;> try rfl
 ·simp only [EV, Nat.reduceEqDiff, ↓reduceIte, he] <;> try rfl
 ·simp only [EV, Nat.reduceEqDiff, ↓reduceIte, he] <;> try rfl
 ·simp only [EV, Nat.reduceEqDiff, ↓reduceIte, he] <;> try rfl
 clear he e
 intro e he
 obtain ⟨Ao, co, ro, hof, hoL⟩ := sv_bytes ((Wk.spare _ _ _).sv hov)
 refine k_region ?_
 refine k_cons (c_mv rfl (by simp only [EV, Nat.reduceEqDiff, ↓reduceIte, he] <;> try rfl) ?_)
 refine k_cons ?_
 refine s_call (vs := [.lst Ao x1.length co (bys x1 ++ ro)]) (by simp only [List.map_cons, List.map_nil, EV, Nat.reduceEqDiff, ↓reduceIte, he, hof]) ?_
 refine Get_ok (by omega) hoL _ fun τ6 xv hs hX6 hG => ?_
 refine k_cons (c_mv rfl (by simp only [EV, Nat.reduceEqDiff, ↓reduceIte, he] <;> try rfl) ?_)
 refine k_cons ?_
 refine s_extract (l := [xv, .raw (.int .i64 ((getAll x1).2 : Int))]) (r := xv) (by simp only [EV, Nat.reduceEqDiff, ↓reduceIte, he] <;> try rfl) rfl ?_
 refine k_cons ?_
 refine s_extract (l := [xv, .raw (.int .i64 ((getAll x1).2 : Int))]) (r := .raw (.int .i64 ((getAll x1).2 : Int))) (by simp only [EV, Nat.reduceEqDiff, ↓reduceIte, he] <;> try rfl) rfl ?_
 refine k_cons (c_mv rfl (by simp only [EV, Nat.reduceEqDiff, ↓reduceIte, he] <;> try rfl) ?_)
 refine k_cons (c_mv rfl (by simp only [EV, Nat.reduceEqDiff, ↓reduceIte, he] <;> try rfl) ?_)
 refine k_nil ?_
 apply comp12 0 1 5 6 8 9 10 11 12 14 15 16
 ·simp only [EV, Nat.reduceEqDiff, ↓reduceIte, he] <;> try rfl
 ·simp only [EV, Nat.reduceEqDiff, ↓reduceIte, he] <;> try rfl
 ·simp only [EV, Nat.reduceEqDiff, ↓reduceIte, he] <;> try rfl
 ·simp only [EV, Nat.reduceEqDiff, ↓reduceIte, he] <;> try rfl
 ·simp only [EV, Nat.reduceEqDiff, ↓reduceIte, he] <;> try rfl
 ·simp only [EV, Nat.reduceEqDiff, ↓reduceIte, he] <;> try rfl
 ·simp only [EV, Nat.reduceEqDiff, ↓reduceIte, he] <;> try rfl
 ·simp only [EV, Nat.reduceEqDiff, ↓reduceIte, he] <;> try rfl
 ·simp only [EV, Nat.reduceEqDiff, ↓reduceIte, he] <;> try rfl
 ·simp only [EV, Nat.reduceEqDiff, ↓reduceIte, he] <;> try rfl
 ·simp only [EV, Nat.reduceEqDiff, ↓reduceIte, he] <;> try rfl
 ·simp only [EV, Nat.reduceEqDiff, ↓reduceIte, he] <;> try rfl
 clear he e
 intro e he
 refine k_region ?_
 refine k_cons (c_mv rfl (by simp only [EV, Nat.reduceEqDiff, ↓reduceIte, he] <;> try rfl) ?_)
 refine k_cons ?_
 refine s_call (vs := [a1]) (by simp only [List.map_cons, List.map_nil, EV, Nat.reduceEqDiff, ↓reduceIte, he]) ?_
 refine rget_call (by omega) hsa1 fun yv τ7 hyv hX7 => ?_
 refine k_cons (c_mv rfl (by simp only [EV, Nat.reduceEqDiff, ↓reduceIte, he] <;> try rfl) ?_)
 refine k_cons ?_
 refine s_extract (l := [yv, .raw (.int .i64 ((getAll x1).2 : Int))]) (r := yv) (by simp only [EV, Nat.reduceEqDiff, ↓reduceIte, he] <;> try rfl) rfl ?_
 refine k_cons ?_
 refine s_extract (l := [yv, .raw (.int .i64 ((getAll x1).2 : Int))]) (r := .raw (.int .i64 ((getAll x1).2 : Int))) (by simp only [EV, Nat.reduceEqDiff, ↓reduceIte, he] <;> try rfl) rfl ?_
 refine k_cons (c_mv rfl (by simp only [EV, Nat.reduceEqDiff, ↓reduceIte, he] <;> try rfl) ?_)
 refine k_cons (c_mv rfl (by simp only [EV, Nat.reduceEqDiff, ↓reduceIte, he] <;> try rfl) ?_)
 refine k_nil ?_
 apply comp14 0 1 5 6 8 9 10 11 12 14 15 16 17 18
 ·simp only [EV, Nat.reduceEqDiff, ↓reduceIte, he] <;> try rfl
 ·simp only [EV, Nat.reduceEqDiff, ↓reduceIte, he] <;> try rfl
 ·simp only [EV, Nat.reduceEqDiff, ↓reduceIte, he] <;> try rfl
 ·simp only [EV, Nat.reduceEqDiff, ↓reduceIte, he] <;> try rfl
 ·simp only [EV, Nat.reduceEqDiff, ↓reduceIte, he] <;> try rfl
 ·simp only [EV, Nat.reduceEqDiff, ↓reduceIte, he] <;> try rfl
 ·simp only [EV, Nat.reduceEqDiff, ↓reduceIte, he] <;> try rfl
 ·simp only [EV, Nat.reduceEqDiff, ↓reduceIte, he] <;> try rfl
 ·simp only [EV, Nat.reduceEqDiff, ↓reduceIte, he] <;> try rfl
 ·simp only [EV, Nat.reduceEqDiff, ↓reduceIte, he] <;> try rfl
 ·simp only [EV, Nat.reduceEqDiff, ↓reduceIte, he] <;> try rfl
 ·simp only [EV, Nat.reduceEqDiff, ↓reduceIte, he] <;> try rfl
 ·simp only [EV, Nat.reduceEqDiff, ↓reduceIte, he] <;> try rfl
 ·simp only [EV, Nat.reduceEqDiff, ↓reduceIte, he] <;> try rfl
 clear he e
 intro e he
 obtain ⟨hf1, hf2, hf3⟩ := hfs
 generalize (getAll x1).1 = fs at hG hyv hf1 hf2
 generalize (getAll x1).2 = nn at hf2 hf3 he
 have hfl : fs.length ≤ 900 ∧ ∀ f ∈ fs, f.2.length ≤ 1000000 := by
  have h1 := codes_dsum (fs.map toD)
  rw [List.length_map, List.map_map] at h1
  have h2 : (codes (fs.map (fr ∘ toD))).length ≤ 8000 := by
   have : fs.map (fr ∘ toD) = fs := List.map_id'' (fun _ => rfl) fs
   rw [this, hf2, List.length_take]
   omega
  exact ⟨by omega, fun f hf => by have := (hf1 f hf).2.2; omega⟩
 have hG7 := hG.ext hX7
 have hL7 : Lot 5 τ7 ([pr.1, pr.1] ++ fs.map (·.2)) ([sv, uv] ++ hs) := ((((hL2.ext hX5).ext hX6).ext hX7)).app _ _ hG7.lot fun i j u v b hu hv hb hq => by
  obtain ⟨_, q⟩ := lot_blk (hL2.ext hX5) hu hb
  rw [(hG7.nh j v b hv hq).1] at q
  cases q
 obtain ⟨Ax, cx, hxf, hx2, hx3, hxA⟩ := hG7.own.form
 have hhl : hs.length = fs.length := by have := hG7.lot.len; rw [List.length_map] at this; exact this
 -- all are the same
 refine k_cutS (fun env υ => (env 0 = a0 ∧ env 1 = a1 ∧ env 5 = dv ∧ env 6 = iv ∧ env 8 = sv ∧ env 12 = uv ∧ env 14 = ov ∧ env 15 = xv) ∧ Lot 5 υ ([pr.1, pr.1] ++ fs.map (·.2)) ([sv, uv] ++ hs)) ?_ ?_
 ·refine k_region ?_
  refine k_cons (c_mv rfl (by simp only [EV, Nat.reduceEqDiff, ↓reduceIte, he] <;> try rfl) ?_)
  refine k_cons (c_mv rfl (by simp only [EV, Nat.reduceEqDiff, ↓reduceIte, he] <;> try rfl) ?_)
  refine k_cons ?_
  refine s_neq (k := .i64) (a := pr.2) (b := pr.2) (by simp only [EV, Nat.reduceEqDiff, ↓reduceIte, he] <;> try rfl) (by simp only [EV, Nat.reduceEqDiff, ↓reduceIte, he] <;> try rfl) ?_
  rw [neq_self]
  refine k_cons (c_mv rfl (by simp only [EV, Nat.reduceEqDiff, ↓reduceIte, he] <;> try rfl) ?_)
  refine k_cons (s_guard_on (y_is rfl (by simp only [EV, Nat.reduceEqDiff, ↓reduceIte, he] <;> try rfl)) ?_)
  refine c_mv rfl (by simp only [EV, Nat.reduceEqDiff, ↓reduceIte, he] <;> try rfl) ?_
  refine k_cons (s_guard_on (y_is rfl (by simp only [EV, Nat.reduceEqDiff, ↓reduceIte, he] <;> try rfl)) ?_)
  refine c_mv rfl (by simp only [EV, Nat.reduceEqDiff, ↓reduceIte, he] <;> try rfl) ?_
  refine k_cons (s_guard_on (y_is rfl (by simp only [EV, Nat.reduceEqDiff, ↓reduceIte, he] <;> try rfl)) ?_)
  refine s_call (vs := [sv, rp]) (by simp only [List.map_cons, List.map_nil, EV, Nat.reduceEqDiff, ↓reduceIte, he]) ?_
  have hsv7 : Hd τ7 5 1 sv pr.1.length (bys pr.1) := hL7.at_ 0 sv pr.1 rfl rfl
  obtain ⟨As, cs, ls1, ls2, ls3, ls4⟩ := hsv7.lends (G := fun g => hbk sv = some g) (fun g hg => hg) (LendL.refl _)
  refine lend_call (G := fun g => hbk sv = some g) (σ := τ7) (args := [sv, rp]) (args' := [.lst As pr.1.length cs (bys pr.1), rp]) (rv := vT true) (fun g hg => by
   obtain ⟨all, q⟩ := hsv7.blk hg
   exact ⟨_, _, q, hsv7.used hg⟩) ⟨ls1, .refl _, trivial⟩ (sameb_call (by omega) (by
    have := bytes_sv (N := 0) (ρ := noRho) (d := pr.1) (A := As) (c := cs) (rest := []) ⟨ls2, ls3, by omega, ls4⟩
    rw [List.append_nil] at this
    exact this) hrp fun τ hX => ⟨rfl, hX⟩) (fun w B => valid_raw _) _ fun τ8 hX8 => ?_
  refine k_cons (s_guard_on (y_is rfl (by simp only [EV, Nat.reduceEqDiff, ↓reduceIte, he] <;> try rfl)) ?_)
  refine s_notT (b := true) (by simp only [EV, Nat.reduceEqDiff, ↓reduceIte, he] <;> try rfl) ?_
  refine k_cons ?_
  refine s_pick_f (v := vT false) (by simp only [EV, Nat.reduceEqDiff, ↓reduceIte, he] <;> try rfl) (by simp only [EV, Nat.reduceEqDiff, ↓reduceIte, he] <;> try rfl) ?_
  refine k_cons (c_mv rfl (by simp only [EV, Nat.reduceEqDiff, ↓reduceIte, he] <;> try rfl) ?_)
  refine k_cons (s_guard_on (y_is rfl (by simp only [EV, Nat.reduceEqDiff, ↓reduceIte, he] <;> try rfl)) ?_)
  refine c_mv rfl (by simp only [EV, Nat.reduceEqDiff, ↓reduceIte, he] <;> try rfl) ?_
  refine k_cons (s_guard_on (y_is rfl (by simp only [EV, Nat.reduceEqDiff, ↓reduceIte, he] <;> try rfl)) ?_)
  refine c_mv rfl (by simp only [EV, Nat.reduceEqDiff, ↓reduceIte, he] <;> try rfl) ?_
  refine k_cons (s_guard_on (y_is rfl (by simp only [EV, Nat.reduceEqDiff, ↓reduceIte, he] <;> try rfl)) ?_)
  refine s_call (vs := [.lst Ax fs.length cx (frC fs hs), yv]) (by simp only [List.map_cons, List.map_nil, EV, Nat.reduceEqDiff, ↓reduceIte, he, hxf]) ?_
  have hL8 := hL7.ext hX8
  have hG8 := hG7.ext hX8
  obtain ⟨cells, k1, k2⟩ := got_lend (G := fun g => ∃ (j : Nat) (v : AV), hs[j]? = some v ∧ hbk v = some g) (σ := τ8) fs hs hhl (fun j v f hv hf => hG8.lot.at_ j v f.2 hv (by rw [List.getElem?_map, hf]; rfl)) (fun j v b hv hb => ⟨j, v, hv, hb⟩) hfl.2
  refine lend_call (G := fun g => ∃ (j : Nat) (v : AV), hs[j]? = some v ∧ hbk v = some g) (σ := τ8) (args := [.lst Ax fs.length cx (frC fs hs), yv]) (args' := [.lst Ax fs.length cx cells, yv]) (rv := vT true) (fun g ⟨j, v, hv, hg⟩ => by
   obtain ⟨all, q⟩ := lot_blk hG8.lot hv hg
   exact ⟨_, _, q, hG8.lot.used hv hg⟩) ⟨lends_lst k1, .refl _, trivial⟩ (same_call (l := fs.map toD) (by rw [List.length_map]; omega) (fun f hf => by
    obtain ⟨g, hg, rfl⟩ := List.mem_map.1 hf
    have := hfl.2 g hg
    dsimp only
    omega) (by
    have := sv_sl (C := CT) (N := 0) (ρ := noRho) (E := 6) (xs := fs.map toD) (a := .lst Ax fs.length cx cells)
    rw [List.length_map] at this
    exact this.2 ⟨Ax, cx, cells, [], by rw [List.append_nil], hx2, hx3, by omega, fun q => hxA q, k2⟩) (by
    rw [List.map_map]
    exact hyv) fun τ hX => ⟨rfl, hX⟩) (fun w B => valid_raw _) _ fun τ9 hX9 => ?_
  refine k_cons (s_guard_on (y_is rfl (by simp only [EV, Nat.reduceEqDiff, ↓reduceIte, he] <;> try rfl)) ?_)
  refine s_notT (b := true) (by simp only [EV, Nat.reduceEqDiff, ↓reduceIte, he] <;> try rfl) ?_
  refine k_cons ?_
  refine s_pick_f (v := vT false) (by simp only [EV, Nat.reduceEqDiff, ↓reduceIte, he] <;> try rfl) (by simp only [EV, Nat.reduceEqDiff, ↓reduceIte, he] <;> try rfl) ?_
  refine k_cons (c_mv rfl (by simp only [EV, Nat.reduceEqDiff, ↓reduceIte, he] <;> try rfl) ?_)
  refine k_cons (s_guard_on (y_is rfl (by simp only [EV, Nat.reduceEqDiff, ↓reduceIte, he] <;> try rfl)) ?_)
  refine c_mv rfl (by simp only [EV, Nat.reduceEqDiff, ↓reduceIte, he] <;> try rfl) ?_
  refine k_cons (s_guard_on (y_is rfl (by simp only [EV, Nat.reduceEqDiff, ↓reduceIte, he] <;> try rfl)) ?_)
  refine c_mv rfl (by simp only [EV, Nat.reduceEqDiff, ↓reduceIte, he] <;> try rfl) ?_
  refine k_cons (s_guard_on (y_is rfl (by simp only [EV, Nat.reduceEqDiff, ↓reduceIte, he] <;> try rfl)) ?_)
  refine s_neq (k := .i64) (a := (nn : Int)) (b := (nn : Int)) (by simp only [EV, Nat.reduceEqDiff, ↓reduceIte, he] <;> try rfl) (by simp only [EV, Nat.reduceEqDiff, ↓reduceIte, he] <;> try rfl) ?_
  rw [neq_self]
  refine k_cons ?_
  refine s_pick_f (v := vT false) (by simp only [EV, Nat.reduceEqDiff, ↓reduceIte, he] <;> try rfl) (by simp only [EV, Nat.reduceEqDiff, ↓reduceIte, he] <;> try rfl) ?_
  refine k_cons (c_mv rfl (by simp only [EV, Nat.reduceEqDiff, ↓reduceIte, he] <;> try rfl) ?_)
  refine k_cons (s_guard_on (y_is rfl (by simp only [EV, Nat.reduceEqDiff, ↓reduceIte, he] <;> try rfl)) ?_)
  refine c_mv rfl (by simp only [EV, Nat.reduceEqDiff, ↓reduceIte, he] <;> try rfl) ?_
  refine k_cons (s_guard_on (y_is rfl (by simp only [EV, Nat.reduceEqDiff, ↓reduceIte, he] <;> try rfl)) ?_)
  refine c_mv rfl (by simp only [EV, Nat.reduceEqDiff, ↓reduceIte, he] <;> try rfl) ?_
  refine k_cons (s_guard_on (y_is rfl (by simp only [EV, Nat.reduceEqDiff, ↓reduceIte, he] <;> try rfl)) ?_)
  refine s_call (vs := [ov, a1]) (by simp only [List.map_cons, List.map_nil, EV, Nat.reduceEqDiff, ↓reduceIte, he]) ?_
  refine kept_call (by omega) hov hsa1 fun τ10 hX10 => ?_
  refine k_cons (s_guard_on (y_is rfl (by simp only [EV, Nat.reduceEqDiff, ↓reduceIte, he] <;> try rfl)) ?_)
  refine s_notT (b := true) (by simp only [EV, Nat.reduceEqDiff, ↓reduceIte, he] <;> try rfl) ?_
  refine k_cons ?_
  refine s_pick_f (v := vT false) (by simp only [EV, Nat.reduceEqDiff, ↓reduceIte, he] <;> try rfl) (by simp only [EV, Nat.reduceEqDiff, ↓reduceIte, he] <;> try rfl) ?_
  refine k_nil ?_
  refine k_cond1F (by simp only [EV, Nat.reduceEqDiff, ↓reduceIte, he] <;> try rfl) ?_
  refine k_skip1 ?_
  exact ⟨rfl, ⟨by simp only [EV, Nat.reduceEqDiff, ↓reduceIte, he] <;> try rfl, by simp only [EV, Nat.reduceEqDiff, ↓reduceIte, he] <;> try rfl, by simp only [EV, Nat.reduceEqDiff, ↓reduceIte, he] <;> try rfl, by simp only [EV, Nat.reduceEqDiff, ↓reduceIte, he] <;> try rfl, by simp only [EV, Nat.reduceEqDiff, ↓reduceIte, he] <;> try rfl, by simp only [EV, Nat.reduceEqDiff, ↓reduceIte, he] <;> try rfl, by simp only [EV, Nat.reduceEqDiff, ↓reduceIte, he] <;> try rfl, by simp only [EV, Nat.reduceEqDiff, ↓reduceIte, he] <;> try rfl⟩, (hL8.ext hX9).ext hX10⟩
 clear he e hL7 hG7
 rintro e υ ⟨he, hL⟩
 refine k_region ?_
 refine k_cons (c_mv rfl (by simp only [EV, Nat.reduceEqDiff, ↓reduceIte, he] <;> try rfl) ?_)
 refine k_cons (c_mv rfl (by simp only [EV, Nat.reduceEqDiff, ↓reduceIte, he] <;> try rfl) ?_)
 refine k_cons ?_
 have hsv1 := (hL.at_ 0 sv pr.1 rfl rfl).oneV
 have huv1 := (hL.at_ 1 uv pr.1 rfl rfl).oneV
 refine r_row (vs := [sv, uv]) (cells := [sv, uv]) (by simp only [List.map_cons, List.map_nil, EV, Nat.reduceEqDiff, ↓reduceIte, he]) fl_slL fl_szS fl_zeS rfl (by omega) (fill2 rfl rfl hsv1.2 huv1.2) rfl fun rb υ1 hN1 hX1 => ?_
 refine k_cons (c_mv rfl (by simp only [EV, Nat.reduceEqDiff, ↓reduceIte, he] <;> try rfl) ?_)
 refine k_nil ?_
 have hL1 := hL.ext hX1
 refine k_assoc ?_
 refine k_region ?_
 refine k_cons (c_mv rfl (by simp only [EV, Nat.reduceEqDiff, ↓reduceIte, he] <;> try rfl) ?_)
 refine k_nil ?_
 -- all lists
 refine k_cutS (fun env υ => ∃ av, (env 0 = a0 ∧ env 1 = a1 ∧ env 5 = dv ∧ env 6 = iv ∧ env 14 = ov ∧ env 19 = av) ∧ Lot 5 υ ([pr.1, pr.1] ++ fs.map (·.2)) ([sv, uv] ++ hs) ∧ Own υ 23 1 av ([sv, uv] ++ hs).length ([sv, uv] ++ hs)) ?_ ?_
 ·apply comp8 0 1 5 6 14 15 19 20
  ·simp only [EV, Nat.reduceEqDiff, ↓reduceIte, he] <;> try rfl
  ·simp only [EV, Nat.reduceEqDiff, ↓reduceIte, he] <;> try rfl
  ·simp only [EV, Nat.reduceEqDiff, ↓reduceIte, he] <;> try rfl
  ·simp only [EV, Nat.reduceEqDiff, ↓reduceIte, he] <;> try rfl
  ·simp only [EV, Nat.reduceEqDiff, ↓reduceIte, he] <;> try rfl
  ·simp only [EV, Nat.reduceEqDiff, ↓reduceIte, he] <;> try rfl
  ·simp only [EV, Nat.reduceEqDiff, ↓reduceIte, he] <;> try rfl
  ·simp only [EV, Nat.reduceEqDiff, ↓reduceIte, he] <;> try rfl
  clear he e
  intro e he
  refine k_block1 ?_
  refine k_loopE (fun μ env υ => ∃ (j : Nat) (av : AV), μ = fs.length - j ∧ j ≤ fs.length ∧ (env 0 = a0 ∧ env 1 = a1 ∧ env 5 = dv ∧ env 6 = iv ∧ env 14 = ov ∧ env 15 = xv ∧ env 19 = av ∧ env 20 = vI j) ∧ Lot 5 υ ([pr.1, pr.1] ++ fs.map (·.2)) ([sv, uv] ++ hs) ∧ Own υ 23 1 av (2 + j) ([sv, uv] ++ hs.take j)) ⟨_, 0, _, rfl, Nat.zero_le _, he, hL1, by rw [List.take_zero, List.append_nil]; exact hN1.1⟩ ?_
  clear he e hL1 hN1 hX1 υ1 hL
  rintro _ e υ ⟨j, av, rfl, hj, he, hL, hO⟩
  refine k_assoc ?_
  refine k_region ?_
  refine k_cons (c_mv rfl (by simp only [EV, Nat.reduceEqDiff, ↓reduceIte, he] <;> try rfl) ?_)
  refine k_cons (c_mv rfl (by simp only [EV, Nat.reduceEqDiff, ↓reduceIte, he] <;> try rfl) ?_)
  refine k_cons ?_
  refine s_lenN (n := fs.length) (c := cx) (A := Ax) (by simp only [EV, Nat.reduceEqDiff, ↓reduceIte, he] <;> try rfl) (by rw [hxf]; rfl) rfl fg_sl22 ?_
  refine k_cons ?_
  refine s_lssN j fs.length (by simp only [EV, Nat.reduceEqDiff, ↓reduceIte, he] <;> try rfl) (by simp only [EV, Nat.reduceEqDiff, ↓reduceIte, he] <;> try rfl) ?_
  refine k_nil ?_
  apply comp9 0 1 5 6 14 15 19 20 119
  ·simp only [EV, Nat.reduceEqDiff, ↓reduceIte, he] <;> try rfl
  ·simp only [EV, Nat.reduceEqDiff, ↓reduceIte, he] <;> try rfl
  ·simp only [EV, Nat.reduceEqDiff, ↓reduceIte, he] <;> try rfl
  ·simp only [EV, Nat.reduceEqDiff, ↓reduceIte, he] <;> try rfl
  ·simp only [EV, Nat.reduceEqDiff, ↓reduceIte, he] <;> try rfl
  ·simp only [EV, Nat.reduceEqDiff, ↓reduceIte, he] <;> try rfl
  ·simp only [EV, Nat.reduceEqDiff, ↓reduceIte, he] <;> try rfl
  ·simp only [EV, Nat.reduceEqDiff, ↓reduceIte, he] <;> try rfl
  ·simp only [EV, Nat.reduceEqDiff, ↓reduceIte, he] <;> try rfl
  clear he e
  intro e he
  refine k_cond (t := decide (j < fs.length)) (by simp only [EV, Nat.reduceEqDiff, ↓reduceIte, he] <;> try rfl) (fun ht => ?_) (fun ht => ?_)
  ·have hlt : j < fs.length := of_decide_eq_true ht
   obtain ⟨v, hv⟩ : ∃ v, hs[j]? = some v := ⟨hs[j]'(by omega), List.getElem?_eq_getElem (by omega)⟩
   have hv1 : v.one = true ∧ notTup v = true ∧ v.cells = [v] := by
    obtain ⟨d, _, h2⟩ := hL.hd (j := 2 + j) (v := v) (by rw [List.getElem?_append_right (by simp)]; simpa using hv)
    exact h2.oneV
   refine k_skip ?_
   refine k_block ?_
   refine k_region1 ?_
   refine k_cons (c_mv rfl (by simp only [EV, Nat.reduceEqDiff, ↓reduceIte, he] <;> try rfl) ?_)
   refine k_cons (c_mv rfl (by simp only [EV, Nat.reduceEqDiff, ↓reduceIte, he] <;> try rfl) ?_)
   refine k_cons (c_mv rfl (by simp only [EV, Nat.reduceEqDiff, ↓reduceIte, he] <;> try rfl) ?_)
   refine k_cons ?_
   refine s_indexD (k := .i64) (j := j) (A := Ax) (n := fs.length) (c := cx) (cells := frC fs hs) (Eq.trans (b := xv) (by simp only [EV, Nat.reduceEqDiff, ↓reduceIte, he] <;> try rfl) hxf) (by simp only [EV, Nat.reduceEqDiff, ↓reduceIte, he] <;> try rfl) fg_sl22 fn_sz28 hlt (fun q => (hxA q).1) rfl fun ad => ?_
   refine k_cons ?_
   refine s_fieldAddr_e (by simp only [EV, Nat.reduceEqDiff, ↓reduceIte, he] <;> try rfl) fn_st28 rfl ?_
   refine k_cons ?_
   refine r_load_e (r := v) (by simp only [EV, Nat.reduceEqDiff, ↓reduceIte, he] <;> try rfl) fl_agS fl_szS ?_ ?_
   ·show (((frC fs hs).drop (j * 2)).drop 1)[0]? = _
    rw [List.getElem?_drop, List.getElem?_drop, show j * 2 + (1 + 0) = 2 * j + 1 by omega, frC_get fs hs j hhl]
    exact hv
   refine k_cons ?_
   refine r_row (vs := [v]) (cells := [v]) (by simp only [List.map_cons, List.map_nil, EV, Nat.reduceEqDiff, ↓reduceIte, he]) fl_slL fl_szS fl_zeS rfl (by omega) ?_ rfl fun rb υ1 hN1 hX1 => ?_
   ·show (if (!notTup v || v.cells.length ≠ 1 || 0 * 1 + v.cells.length > _) then none else some (splice _ (0 * 1) v.cells)) = some [v]
    rw [hv1.2.1, hv1.2.2]
    rfl
   refine k_cons ?_
   refine r_append (by simp only [EV, Nat.reduceEqDiff, ↓reduceIte, he] <;> try rfl) (by simp only [EV, Nat.reduceEqDiff, ↓reduceIte, he] <;> try rfl) fl_slL fl_szS fl_zeS fl_byS rfl (by omega) (hO.ext hX1) (m := 1) (by simp) (fun a ha => by
    have ha := List.mem_of_mem_take ha
    rw [List.mem_singleton.1 ha]
    exact hv1.1) (by omega) fun av2 υ2 hO2 hB2 hn2 => ?_
   refine k_cons (c_mv rfl (by simp only [EV, Nat.reduceEqDiff, ↓reduceIte, he] <;> try rfl) ?_)
   refine k_nil ?_
   show aCode _ _ _ _ _ _
   have hL2 := (hL.ext hX1).but hB2 fun i u g hu hg q => by
    obtain ⟨_, q2⟩ := lot_blk (hL.ext hX1) hu hg
    obtain ⟨_, _, q3⟩ := (hO.ext hX1).blk_ q
    rw [q2] at q3
    injection q3 with q3
    cases q3
   apply comp8 0 1 5 6 14 15 19 20
   ·simp only [EV, Nat.reduceEqDiff, ↓reduceIte, he] <;> try rfl
   ·simp only [EV, Nat.reduceEqDiff, ↓reduceIte, he] <;> try rfl
   ·simp only [EV, Nat.reduceEqDiff, ↓reduceIte, he] <;> try rfl
   ·simp only [EV, Nat.reduceEqDiff, ↓reduceIte, he] <;> try rfl
   ·simp only [EV, Nat.reduceEqDiff, ↓reduceIte, he] <;> try rfl
   ·simp only [EV, Nat.reduceEqDiff, ↓reduceIte, he] <;> try rfl
   ·simp only [EV, Nat.reduceEqDiff, ↓reduceIte, he] <;> try rfl
   ·simp only [EV, Nat.reduceEqDiff, ↓reduceIte, he] <;> try rfl
   clear he e
   intro e he
   refine k_region1 ?_
   refine k_cons (c_mv rfl (by simp only [EV, Nat.reduceEqDiff, ↓reduceIte, he] <;> try rfl) ?_)
   refine k_cons ?_
   refine s_addN j 1 (by simp only [EV, Nat.reduceEqDiff, ↓reduceIte, he] <;> try rfl) (by simp only [EV, Nat.reduceEqDiff, ↓reduceIte, he] <;> try rfl) (by omega) ?_
   refine k_cons (c_mv rfl (by simp only [EV, Nat.reduceEqDiff, ↓reduceIte, he] <;> try rfl) ?_)
   refine k_nil ?_
   show ∃ n', n' < _ ∧ _
   refine ⟨_, (by omega : fs.length - (j + 1) < fs.length - j), j + 1, av2, rfl, hlt, ⟨by simp only [EV, Nat.reduceEqDiff, ↓reduceIte, he] <;> try rfl, by simp only [EV, Nat.reduceEqDiff, ↓reduceIte, he] <;> try rfl, by simp only [EV, Nat.reduceEqDiff, ↓reduceIte, he] <;> try rfl, by simp only [EV, Nat.reduceEqDiff, ↓reduceIte, he] <;> try rfl, by simp only [EV, Nat.reduceEqDiff, ↓reduceIte, he] <;> try rfl, by simp only [EV, Nat.reduceEqDiff, ↓reduceIte, he] <;> try rfl, by simp only [EV, Nat.reduceEqDiff, ↓reduceIte, he] <;> try rfl, by simp only [EV, Nat.reduceEqDiff, ↓reduceIte, he] <;> try rfl⟩, hL2, ?_⟩
   have hvk : hs[j]'(by omega) = v := by
    rw [List.getElem?_eq_getElem (by omega)] at hv
    injection hv
   rw [List.take_succ_eq_append_getElem (by omega), hvk, ← List.append_assoc]
   exact hO2
  ·have hke : j = fs.length := by have := of_decide_eq_false ht; omega
   subst hke
   rw [List.take_of_length_le (by omega)] at hO
   refine k_exit ?_
   exact ⟨rfl, av, ⟨by simp only [EV, Nat.reduceEqDiff, ↓reduceIte, he] <;> try rfl, by simp only [EV, Nat.reduceEqDiff, ↓reduceIte, he] <;> try rfl, by simp only [EV, Nat.reduceEqDiff, ↓reduceIte, he] <;> try rfl, by simp only [EV, Nat.reduceEqDiff, ↓reduceIte, he] <;> try rfl, by simp only [EV, Nat.reduceEqDiff, ↓reduceIte, he] <;> try rfl, by simp only [EV, Nat.reduceEqDiff, ↓reduceIte, he] <;> try rfl⟩, hL, by rw [List.length_append, hhl]; exact hO⟩
 clear he e hL1 hN1 hX1 υ1 hL
 rintro e υ1 ⟨av, he, hL, hO⟩
 obtain ⟨Aa, ca, haf, haA⟩ := hO.form_
 refine k_cutS (fun env υ => env 0 = a0 ∧ env 1 = a1 ∧ env 5 = dv ∧ env 6 = iv) ?_ ?_
 ·refine k_region ?_
  refine k_cons (c_mv rfl (by simp only [EV, Nat.reduceEqDiff, ↓reduceIte, he] <;> try rfl) ?_)
  refine k_cons ?_
  refine s_call (vs := [.lst Aa ([sv, uv] ++ hs).length ca ([sv, uv] ++ hs)]) (by simp only [List.map_cons, List.map_nil, EV, Nat.reduceEqDiff, ↓reduceIte, he, haf]) ?_
  refine apart_call hL (by rw [List.length_append, hhl]; have := hfl.1; simp only [List.length_cons, List.length_nil]; omega) haA (fun d hd => by
   rcases List.mem_append.1 hd with hd | hd
   ·simp at hd
    subst hd
    exact hprl
   ·obtain ⟨f, hf, rfl⟩ := List.mem_map.1 hd
    exact hfl.2 f hf) _ fun τ => ?_
  refine k_cons ?_
  with_reducible apply s_notT
  case hx => simp only [EV, Nat.reduceEqDiff, ↓reduceIte, he] <;> try rfl
  refine k_cons (c_mv rfl (by simp only [EV, Nat.reduceEqDiff, ↓reduceIte, he] <;> try rfl) ?_)
  refine k_cons (s_guard_on (y_is rfl (by simp only [EV, Nat.reduceEqDiff, ↓reduceIte, he] <;> try rfl)) ?_)
  refine c_mv rfl (by simp only [EV, Nat.reduceEqDiff, ↓reduceIte, he] <;> try rfl) ?_
  refine k_cons (s_guard_on (y_is rfl (by simp only [EV, Nat.reduceEqDiff, ↓reduceIte, he] <;> try rfl)) ?_)
  refine c_mv rfl (by simp only [EV, Nat.reduceEqDiff, ↓reduceIte, he] <;> try rfl) ?_
  refine k_cons (s_guard_on (y_is rfl (by simp only [EV, Nat.reduceEqDiff, ↓reduceIte, he] <;> try rfl)) ?_)
  refine s_call (vs := [ov, a1]) (by simp only [List.map_cons, List.map_nil, EV, Nat.reduceEqDiff, ↓reduceIte, he]) ?_
  refine kept_call (by omega) hov hsa1 fun τ2 hX2 => ?_
  refine k_cons (s_guard_on (y_is rfl (by simp only [EV, Nat.reduceEqDiff, ↓reduceIte, he] <;> try rfl)) ?_)
  refine s_notT (b := true) (by simp only [EV, Nat.reduceEqDiff, ↓reduceIte, he] <;> try rfl) ?_
  refine k_cons ?_
  refine s_pick_f (v := vT false) (by simp only [EV, Nat.reduceEqDiff, ↓reduceIte, he] <;> try rfl) (by simp only [EV, Nat.reduceEqDiff, ↓reduceIte, he] <;> try rfl) ?_
  refine k_nil ?_
  refine k_cond1F (by simp only [EV, Nat.reduceEqDiff, ↓reduceIte, he] <;> try rfl) ?_
  refine k_skip1 ?_
  exact ⟨rfl, by simp only [EV, Nat.reduceEqDiff, ↓reduceIte, he] <;> try rfl, by simp only [EV, Nat.reduceEqDiff, ↓reduceIte, he] <;> try rfl, by simp only [EV, Nat.reduceEqDiff, ↓reduceIte, he] <;> try rfl, by simp only [EV, Nat.reduceEqDiff, ↓reduceIte, he] <;> try rfl⟩
 clear he e hO hL
 intro e υ2 he
 refine k_assoc ?_
 refine k_region ?_
 refine k_cons (c_mv rfl (by simp only [EV, Nat.reduceEqDiff, ↓reduceIte, he] <;> try rfl) ?_)
 refine k_nil ?_
 -- what was lent is as it was
 refine k_cutS (fun env υ => True) ?_ ?_
 ·apply comp3 5 6 21
  ·simp only [EV, Nat.reduceEqDiff, ↓reduceIte, he] <;> try rfl
  ·simp only [EV, Nat.reduceEqDiff, ↓reduceIte, he] <;> try rfl
  ·simp only [EV, Nat.reduceEqDiff, ↓reduceIte, he] <;> try rfl
  clear he e
  intro e he
  refine k_block1 ?_
  refine k_loopE (fun μ env υ => ∃ j : Nat, μ = x0.length - j ∧ j ≤ x0.length ∧ (env 5 = dv ∧ env 6 = iv ∧ env 21 = vI j)) ⟨_, 0, rfl, Nat.zero_le _, he⟩ ?_
  clear he e
  rintro _ e υ3 ⟨j, rfl, hj, he⟩
  refine k_assoc ?_
  refine k_region ?_
  refine k_cons (c_mv rfl (by simp only [EV, Nat.reduceEqDiff, ↓reduceIte, he] <;> try rfl) ?_)
  refine k_cons (c_mv rfl (by simp only [EV, Nat.reduceEqDiff, ↓reduceIte, he] <;> try rfl) ?_)
  refine k_cons ?_
  refine s_lenN (n := x0.length) (c := ci) (A := Ai) (by simp only [EV, Nat.reduceEqDiff, ↓reduceIte, he] <;> try rfl) (by rw [hif]; rfl) rfl fg_sl22 ?_
  refine k_cons ?_
  refine s_lssN j x0.length (by simp only [EV, Nat.reduceEqDiff, ↓reduceIte, he] <;> try rfl) (by simp only [EV, Nat.reduceEqDiff, ↓reduceIte, he] <;> try rfl) ?_
  refine k_nil ?_
  apply comp4 5 6 21 142
  ·simp only [EV, Nat.reduceEqDiff, ↓reduceIte, he] <;> try rfl
  ·simp only [EV, Nat.reduceEqDiff, ↓reduceIte, he] <;> try rfl
  ·simp only [EV, Nat.reduceEqDiff, ↓reduceIte, he] <;> try rfl
  ·simp only [EV, Nat.reduceEqDiff, ↓reduceIte, he] <;> try rfl
  clear he e
  intro e he
  refine k_cond (t := decide (j < x0.length)) (by simp only [EV, Nat.reduceEqDiff, ↓reduceIte, he] <;> try rfl) (fun ht => ?_) (fun ht => ?_)
  ·have hlt : j < x0.length := of_decide_eq_true ht
   obtain ⟨u, hu1, hus⟩ := in_cells hic j hlt
   obtain ⟨v, hv1, hvs⟩ := sl_cells hdc j hlt
   refine k_skip ?_
   refine k_block ?_
   refine k_drawn ?_
   refine ⟨[0, 1, 2, 3, 5, 6, 7, 4, 8, 9, 10], [[], [], [0, 1], [0, 1, 2], [0, 1, 2, 3], [], [], [5, 6], [5, 6, 7], [0, 1, 2, 3, 4, 5, 6, 7, 8], [0, 1, 2, 3, 4, 5, 6, 7, 8, 9]], fun _ => True, [], [], [], by kernel_rfl, ?_⟩
   apply d_any
   case hi => simp only [HIX]; try rfl
   case hw => rfl
   case how => rfl
   refine c_mv rfl (by simp only [EV, Nat.reduceEqDiff, ↓reduceIte, he] <;> try rfl) ?_
   refine d_ok ?_
   apply d_any
   case hi => simp only [HIX]; try rfl
   case hw => rfl
   case how => rfl
   refine c_mv rfl (by simp only [EV, Nat.reduceEqDiff, ↓reduceIte, he] <;> try rfl) ?_
   refine d_ok ?_
   apply d_any
   case hi => simp only [HIX]; try rfl
   case hw => rfl
   case how => rfl
   refine s_indexD (k := .i64) (j := j) (A := Ai) (n := x0.length) (c := ci) (cells := ic) (Eq.trans (b := iv) (by simp only [EV, Nat.reduceEqDiff, ↓reduceIte, he] <;> try rfl) hif) (by simp only [EV, Nat.reduceEqDiff, ↓reduceIte, he] <;> try rfl) fg_sl22 fn_sz28 hlt hiA rfl fun ad => ?_
   refine d_ok ?_
   apply d_any
   case hi => simp only [HIX]; try rfl
   case hw => rfl
   case how => rfl
   refine s_fieldAddr_e (by simp only [EV, Nat.reduceEqDiff, ↓reduceIte, he] <;> try rfl) fn_st28 rfl ?_
   refine d_ok ?_
   apply d_any
   case hi => simp only [HIX]; try rfl
   case hw => rfl
   case how => rfl
   refine c_mv rfl (by simp only [EV, Nat.reduceEqDiff, ↓reduceIte, he] <;> try rfl) ?_
   refine d_ok ?_
   apply d_any
   case hi => simp only [HIX]; try rfl
   case hw => rfl
   case how => rfl
   refine c_mv rfl (by simp only [EV, Nat.reduceEqDiff, ↓reduceIte, he] <;> try rfl) ?_
   refine d_ok ?_
   apply d_any
   case hi => simp only [HIX]; try rfl
   case hw => rfl
   case how => rfl
   refine s_indexD (k := .i64) (j := j) (A := Ad) (n := x0.length) (c := cd) (cells := dc) (Eq.trans (b := dv) (by simp only [EV, Nat.reduceEqDiff, ↓reduceIte, he] <;> try rfl) hdf) (by simp only [EV, Nat.reduceEqDiff, ↓reduceIte, he] <;> try rfl) fl_slL fl_szS hlt hdA rfl fun ad2 => ?_
   refine d_ok ?_
   apply d_any
   case hi => simp only [HIX]; try rfl
   case hw => rfl
   case how => rfl
   refine r_load_e (r := u) (by simp only [EV, Nat.reduceEqDiff, ↓reduceIte, he] <;> try rfl) fl_agS fl_szS ?_ ?_
   ·show ((ic.drop (j * 2)).drop 1)[0]? = _
    rw [List.getElem?_drop, List.getElem?_drop, show j * 2 + (1 + 0) = j * 2 + 1 by omega]
    exact hu1
   refine d_ok ?_
   apply d_any
   case hi => simp only [HIX]; try rfl
   case hw => rfl
   case how => rfl
   refine r_load_e (r := v) (by simp only [EV, Nat.reduceEqDiff, ↓reduceIte, he] <;> try rfl) fl_agS fl_szS ?_ ?_
   ·show (dc.drop (j * 1))[0]? = _
    rw [List.getElem?_drop, show j * 1 + 0 = j by omega]
    exact hv1
   refine d_ok ?_
   apply d_any
   case hi => simp only [HIX]; try rfl
   case hw => rfl
   case how => rfl
   refine s_call (vs := [u, v]) (by simp only [List.map_cons, List.map_nil, EV, Nat.reduceEqDiff, ↓reduceIte, he]) ?_
   refine kept_call (hdl _ (List.getElem_mem hlt)) hus hvs fun τ3 hX3 => ⟨fun _ => hX3, ?_⟩
   apply d_any
   case hi => simp only [HIX]; try rfl
   case hw => rfl
   case how => rfl
   with_reducible apply s_notT
   case hx => simp only [EV, Nat.reduceEqDiff, ↓reduceIte, he] <;> try rfl
   refine d_ok ?_
   refine d_nil ?_
   refine k_cond1F (by simp only [EV, Nat.reduceEqDiff, ↓reduceIte, he] <;> try rfl) ?_
   refine k_skip1 ?_
   show aCode _ _ _ _ _ _
   apply comp3 5 6 21
   ·simp only [EV, Nat.reduceEqDiff, ↓reduceIte, he] <;> try rfl
   ·simp only [EV, Nat.reduceEqDiff, ↓reduceIte, he] <;> try rfl
   ·simp only [EV, Nat.reduceEqDiff, ↓reduceIte, he] <;> try rfl
   clear he e
   intro e he
   refine k_region1 ?_
   refine k_cons (c_mv rfl (by simp only [EV, Nat.reduceEqDiff, ↓reduceIte, he] <;> try rfl) ?_)
   refine k_cons ?_
   refine s_addN j 1 (by simp only [EV, Nat.reduceEqDiff, ↓reduceIte, he] <;> try rfl) (by simp only [EV, Nat.reduceEqDiff, ↓reduceIte, he] <;> try rfl) (by omega) ?_
   refine k_cons (c_mv rfl (by simp only [EV, Nat.reduceEqDiff, ↓reduceIte, he] <;> try rfl) ?_)
   refine k_nil ?_
   show ∃ n', n' < _ ∧ _
   exact ⟨_, (by omega : x0.length - (j + 1) < x0.length - j), j + 1, rfl, hlt, by simp only [EV, Nat.reduceEqDiff, ↓reduceIte, he] <;> try rfl, by simp only [EV, Nat.reduceEqDiff, ↓reduceIte, he] <;> try rfl, by simp only [EV, Nat.reduceEqDiff, ↓reduceIte, he] <;> try rfl⟩
  ·refine k_exit ?_
   exact ⟨rfl, trivial⟩
 clear he e
 intro e υ4 _
 refine k_region ?_
 refine k_cons ?_
 refine s_call (vs := []) rfl ?_
 refine awake_call fun τ5 hX5 => ?_
 refine k_cons ?_
 refine c_mv (v := vT true) rfl rfl ?_
 refine k_nil ?_
 refine k_ret1 ?_
 show ∃ r, aResults _ _ _ _ r ∧ _
 exact ⟨_, res_tmp rfl rfl, hK τ5⟩
theorem frameTells_tr (x0 : List DFrame) (x1 : List UInt8) (h1 : x0.length ≤ 140737488355328) (h2 : ∀ f ∈ x0, f.data.length ≤ 140737488355328) (h3 : x1.length ≤ 140737488355328) : Tr CT Try.prog (fun _ => True) 3 [.sl 6 x0 none, .sl 1 x1 none] [] (.bool true) [] := by
 intro ρ σ vs hs _
 obtain ⟨a0, a1, rfl, s0, s1⟩ := svs2.1 hs
 have s0 : SV CT 0 noRho (.sl 6 x0 none) a0 := SVs.shut s0 (by intro x hx; rw [List.mem_singleton.1 hx]; rfl)
 obtain ⟨A0, c0, cs0, rest0, rfl, l1, l2, l3, l4, l5⟩ := sv_sl.1 s0
 obtain ⟨A1, c1, rest1, rfl, hA1⟩ := sv_bytes s1
 refine frame_call (tells_ok _ h1 h2 (fun q => (l4 q).1) ⟨l1, l2, l4⟩ l5 hA1 fun τ => rfl) (fun w B => valid_raw _) _ fun τ hX => ?_
 exact ⟨ρ, sv_bool.2 rfl, hp_nil _, Nat.zero_le _, fun i hi => absurd hi (Nat.not_lt_zero i), ⟨fun b k _ hk => hX.keep _ _ hk, hX.used⟩, fun b ⟨i, x, hx, _⟩ => by simp at hx⟩
end Go.Proofs.Ytklmbkkeiihgdaa
