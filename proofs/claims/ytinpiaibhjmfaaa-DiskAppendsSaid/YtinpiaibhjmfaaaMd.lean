/- XDw, XDv, XDz in one. -/
import Derived.Test.YtinpiaibhjmfaaaMc
/- A disk's data, as it goes on. -/
namespace Go.Proofs.Ytinpiaibhjmfaaa
open Go.RowKit
set_option maxRecDepth 100000
set_option linter.unusedVariables false
set_option linter.unusedSimpArgs false
theorem sumD_dat (fs : List Fl) : sumD fs = ((dat fs).map (·.2.2.length)).sum := by
 unfold sumD dat
 rw [List.map_map]
 rfl
theorem mem_dat {fs : List Fl} {f : Fl} (h : f ∈ fs) : (f.nm, f.b, f.d) ∈ dat fs := List.mem_map.2 ⟨f, h, rfl⟩
theorem of_dat {fs : List Fl} {q : List UInt8 × Nat × List UInt8} (h : q ∈ dat fs) : ∃ f ∈ fs, q = (f.nm, f.b, f.d) := by
 obtain ⟨f, hf, e⟩ := List.mem_map.1 h
 exact ⟨f, hf, e.symm⟩
def addD (b : Nat) (d : List UInt8) (l : FD) : FD := l.map fun f => if f.2.1 = b then (f.1, f.2.1, f.2.2 ++ d) else f
abbrev pcs1 (b : Nat) (d : List UInt8) : List (Nat × Nat) := if d = [] then [] else [(b, d.length)]
theorem sumP_pcs1 (b : Nat) (d : List UInt8) : sumP (pcs1 b d) = d.length := by
 unfold pcs1
 split
 ·rename_i h; subst h; rfl
 ·rw [sumP_one]
theorem len_pcs1 (b : Nat) (d : List UInt8) : (pcs1 b d).length ≤ 1 := by
 unfold pcs1
 split <;> simp
theorem sumOf_pcs1 (b c : Nat) (d : List UInt8) : sumOf c (pcs1 b d) = if b = c then d.length else 0 := by
 unfold pcs1
 split
 ·rename_i h; subst h; rw [sumOf_nil]; split <;> rfl
 ·rw [sumOf_one]
theorem sumOf_none {b : Nat} {pcs : List (Nat × Nat)} (h : ∀ p ∈ pcs, p.1 ≠ b) : sumOf b pcs = 0 := by
 unfold sumOf
 rw [List.filter_eq_nil_iff.2 fun p hp => by simp [h p hp]]
 rfl
/-- Appending, by what files there are. -/
theorem appD_data {σ τ : St} {bb bb' mb mb' : Nat} {S S' : Nat → Prop} {fs fs' : List Fl} {pcs pcs' : List (Nat × Nat)} {size size' : Int} {pv pv' : AV} {k d : List UInt8} (h : DAt σ bb S fs pcs size mb pv) (h' : DAt τ bb' S' fs' pcs' size' mb' pv') (ha : AppD fs pcs k d fs' pcs') :
  (∃ nb, (∀ f ∈ fs, f.nm ≠ k) ∧ (∀ f ∈ fs, f.b ≠ nb) ∧ dat fs' = dat fs ++ [(k, nb, d)] ∧ pcs' = pcs ++ pcs1 nb d) ∨ ∃ f0 ∈ fs, f0.nm = k ∧ dat fs' = addD f0.b d (dat fs) ∧ pcs' = pcs ++ pcs1 f0.b d := by
 obtain ⟨fs1, f0, v', hor, hf0, hnm, rfl, hp⟩ := ha
 rcases hor with rfl | ⟨hn, rfl, hd⟩
 ·right
  refine ⟨f0, hf0, hnm, ?_, hp⟩
  unfold dat addD
  rw [List.map_map, List.map_map]
  refine List.map_congr_left fun f hf => ?_
  simp only [Function.comp]
  unfold setFl
  by_cases hb : f.b = f0.b
  ·rw [if_pos hb, if_pos hb, h.uniq hf hf0 hb]
  ·rw [if_neg hb, if_neg hb]
 ·left
  have hne : ∀ f ∈ fs, f.b ≠ f0.b := fun f hf e => by
   have hnd := h'.nd
   rw [List.map_map, List.map_append, List.nodup_append] at hnd
   exact hnd.2.2 f.b (List.mem_map.2 ⟨f, hf, setFl_b f⟩) f0.b (List.mem_map.2 ⟨f0, List.mem_cons_self, setFl_b f0⟩) e
  refine ⟨f0.b, hn, hne, ?_, hp⟩
  unfold dat
  rw [List.map_map, List.map_append]
  congr 1
  ·refine List.map_congr_left fun f hf => ?_
   simp only [Function.comp]
   unfold setFl
   rw [if_neg (hne f hf)]
  ·simp [setFl, hnm, hd]
theorem sum_addD {b : Nat} {d : List UInt8} : ∀ {l : FD}, (l.map (·.2.1)).Nodup → (∃ q ∈ l, q.2.1 = b) → ((addD b d l).map (·.2.2.length)).sum = (l.map (·.2.2.length)).sum + d.length
 | [], _, h => by obtain ⟨q, hq, _⟩ := h; cases hq
 | f :: l, hnd, h => by
  rw [List.map_cons, List.nodup_cons] at hnd
  by_cases hb : f.2.1 = b
  ·have : addD b d l = l := by
    unfold addD
    conv => rhs; rw [← List.map_id l]
    refine List.map_congr_left fun g hg => ?_
    rw [if_neg (fun e => hnd.1 (List.mem_map.2 ⟨g, hg, by rw [e, hb]⟩))]
    rfl
   show (((if f.2.1 = b then (f.1, f.2.1, f.2.2 ++ d) else f) :: addD b d l).map (·.2.2.length)).sum = _
   rw [this, if_pos hb]
   simp
   omega
  ·have ih := sum_addD (b := b) (d := d) hnd.2 (by
    obtain ⟨q, hq, hqb⟩ := h
    rcases List.mem_cons.1 hq with rfl | hq
    ·exact absurd hqb hb
    ·exact ⟨q, hq, hqb⟩)
   show (((if f.2.1 = b then (f.1, f.2.1, f.2.2 ++ d) else f) :: addD b d l).map (·.2.2.length)).sum = _
   rw [if_neg hb, List.map_cons, List.sum_cons, ih, List.map_cons, List.sum_cons]
   omega
theorem dat_b (fs : List Fl) : (dat fs).map (·.2.1) = fs.map (·.b) := by
 unfold dat
 rw [List.map_map]
 rfl
/-- What appending leaves as it was. -/
theorem appD_wf {σ τ : St} {bb bb' mb mb' : Nat} {S S' : Nat → Prop} {fs fs' : List Fl} {pcs pcs' : List (Nat × Nat)} {size size' : Int} {pv pv' : AV} {k d : List UInt8} (h : DAt σ bb S fs pcs size mb pv) (h' : DAt τ bb' S' fs' pcs' size' mb' pv') (ha : AppD fs pcs k d fs' pcs') (hwf : Wf fs pcs) :
  Wf fs' pcs' ∧ sumP pcs' = sumP pcs + d.length ∧ pcs'.length ≤ pcs.length + 1 ∧ sumD fs' = sumD fs + d.length := by
 have hpos : ∀ b, ∀ p ∈ pcs ++ pcs1 b d, 0 < p.2 := fun b p hp => by
  rcases List.mem_append.1 hp with hp | hp
  ·exact hwf.pos p hp
  ·unfold pcs1 at hp
   split at hp
   ·cases hp
   ·rename_i hd
    rw [List.mem_singleton.1 hp]
    exact List.length_pos_iff.2 hd
 rcases appD_data h h' ha with ⟨nb, hn, hnb, hdat, rfl⟩ | ⟨f0, hf0, hnm, hdat, rfl⟩
 ·refine ⟨⟨hpos nb, fun f hf => ?_⟩, by rw [sumP_app, sumP_pcs1], by rw [List.length_append]; have := len_pcs1 nb d; omega, by rw [sumD_dat, hdat, List.map_append, List.sum_append, ← sumD_dat]; simp⟩
  have hm := mem_dat hf
  rw [hdat] at hm
  rw [sumOf_app, sumOf_pcs1]
  rcases List.mem_append.1 hm with hm | hm
  ·obtain ⟨g, hg, e⟩ := of_dat hm
   injection e with _ e
   injection e with e1 e2
   rw [e1, e2, if_neg (fun e => hnb g hg e.symm)]
   exact hwf.fit g hg
  ·have e := List.mem_singleton.1 hm
   injection e with _ e
   injection e with e1 e2
   rw [e1, e2, if_pos rfl, sumOf_none fun p hp => ?_]
   ·omega
   ·obtain ⟨g, hg, e⟩ := h.inn p hp
    rw [← e]
    exact hnb g hg
 ·have hsum : sumD fs' = sumD fs + d.length := by
   rw [sumD_dat, hdat, sum_addD (by rw [dat_b]; exact h.nd) ⟨_, mem_dat hf0, rfl⟩, ← sumD_dat]
  refine ⟨⟨hpos f0.b, fun f hf => ?_⟩, by rw [sumP_app, sumP_pcs1], by rw [List.length_append]; have := len_pcs1 f0.b d; omega, hsum⟩
  have hm := mem_dat hf
  rw [hdat] at hm
  rw [sumOf_app, sumOf_pcs1]
  obtain ⟨q, hq, e⟩ := List.mem_map.1 hm
  obtain ⟨g, hg, rfl⟩ := of_dat hq
  dsimp only at e
  have hfit := hwf.fit g hg
  by_cases hb : g.b = f0.b
  ·rw [if_pos hb] at e
   injection e with _ e
   injection e with e1 e2
   rw [← e1, ← e2, if_pos hb.symm, List.length_append]
   omega
  ·rw [if_neg hb] at e
   injection e with _ e
   injection e with e1 e2
   rw [← e1, ← e2, if_neg (fun e => hb e.symm)]
   exact hfit
end Go.Proofs.Ytinpiaibhjmfaaa
/- A disk's law: what it calls; the chapter's example. -/
namespace Go.Proofs.Ytinpiaibhjmfaaa
open Go.RowKit
set_option maxRecDepth 100000
set_option linter.unusedVariables false
set_option linter.unusedSimpArgs false
theorem dk_sl29 : sliceA Try.prog 29 = some 28 := by kernel_rfl
theorem dk_sl23 : sliceA Try.prog 23 = some 4 := by kernel_rfl
theorem enc_rows (ps : List (List UInt8)) : ps.flatMap (CT.enc 3) = ps.map fun p => XV.sl 1 p none := by
 induction ps with
 | nil => rfl
 | cons p ps ih => rw [List.flatMap_cons, ih]; rfl
theorem rows_sv {ps : List (List UInt8)} {A : Option Addr} {c : Nat} {as_ : List AV} (hs : SVs CT 0 noRho (ps.map fun p => XV.sl 1 p none) as_) (hA : Lst A ps.length c) : SV CT 0 noRho (.sl 3 ps none) (.lst A ps.length c as_) :=
 sv_sl.2 ⟨A, c, as_, [], by rw [List.append_nil], hA.le, hA.most, hA.small, hA.none, by rw [enc_rows]; exact hs⟩
theorem bytes_sv0 {N : Nat} {ρ : Nat → AV} {d : List UInt8} {A : Option Addr} {c : Nat} (h : Lst A d.length c) : SV CT N ρ (.sl 1 d none) (.lst A d.length c (bys d)) := by
 have := bytes_sv (N := N) (ρ := ρ) (rest := []) h
 rwa [List.append_nil] at this
theorem lst_row (b : Nat) {n : Nat} (h : n ≤ 1000) : Lst (some ⟨b, 0, none⟩) n n := ⟨Nat.le_refl _, by unfold maxLen; omega, by omega, fun q => by cases q⟩
/-- Bytes, ours or told. -/
def BytesAt (σ : St) (v : AV) (d : List UInt8) : Prop := Hd σ 5 1 v d.length (bys d) ∨ SV CT 0 noRho (.sl 1 d none) v
theorem BytesAt.own {σ : St} {v : AV} {d : List UInt8} (h : BytesAt σ v d) {b : Nat} (hb : hbk v = some b) : ∃ e cs, σ.blk b = some (.own e cs) ∧ σ.used b := by
 rcases h with h | h
 ·obtain ⟨all, h1⟩ := h.blk hb
  exact ⟨_, _, h1, h.used hb⟩
 ·obtain ⟨A, c, rest, rfl, _⟩ := sv_bytes h
  cases hb
theorem BytesAt.lend {σ : St} {v : AV} {d : List UInt8} {G : Nat → Prop} (h : BytesAt σ v d) (hl : d.length ≤ 1000000000) (hG : ∀ b, hbk v = some b → G b) : ∃ v', Lends G σ v v' ∧ SV CT 0 noRho (.sl 1 d none) v' := by
 rcases h with h | h
 ·obtain ⟨A, c, hL, l1, l2, l3⟩ := h.lends hG (LendL.refl _)
  exact ⟨_, hL, bytes_sv0 ⟨l1, l2, by omega, l3⟩⟩
 ·exact ⟨v, .refl v, h⟩
theorem sameb_ok {σ : St} {v1 v2 : AV} {d1 d2 : List UInt8} (h1 : BytesAt σ v1 d1) (h2 : BytesAt σ v2 d2) (l1 : d1.length ≤ 1000000000) (l2 : d2.length ≤ 1000000000) (K : AV → St → Prop) (hK : ∀ τ, Ext σ τ → K (vT (decide (d1 = d2))) τ) : CallsA Try.prog 13 [v1, v2] σ K := by
 obtain ⟨u1, e1, s1⟩ := h1.lend (G := fun b => hbk v1 = some b ∨ hbk v2 = some b) l1 fun b hb => .inl hb
 obtain ⟨u2, e2, s2⟩ := h2.lend (G := fun b => hbk v1 = some b ∨ hbk v2 = some b) l2 fun b hb => .inr hb
 refine lend_call (G := fun b => hbk v1 = some b ∨ hbk v2 = some b) (args' := [u1, u2]) (rv := vT (decide (d1 = d2))) (fun b hb => hb.elim h1.own h2.own) (show LendL _ _ [v1, v2] _ from ⟨e1, e2, trivial⟩) ?_ (fun w B => valid_raw _) K hK
 exact call_same (watershedkit_SameBytes_ce.ok (d1, d2, ()) () (_, ()) (SameBytes_p d1 d2 (by omega))) (.cons s1 (svs1.2 ⟨_, rfl, s2⟩)) (fun N ρ a h => sv_bool.1 h) _ fun τ hX => ⟨rfl, hX⟩
theorem begins_ok {σ : St} {v1 v2 : AV} {d1 d2 : List UInt8} (h1 : BytesAt σ v1 d1) (h2 : BytesAt σ v2 d2) (l1 : d1.length ≤ 1000000000) (l2 : d2.length ≤ 1000000000) (hd : d1 = d2.take d1.length) (K : AV → St → Prop) (hK : ∀ τ, Ext σ τ → K (vT true) τ) : CallsA Try.prog 16 [v1, v2] σ K := by
 obtain ⟨u1, e1, s1⟩ := h1.lend (G := fun b => hbk v1 = some b ∨ hbk v2 = some b) l1 fun b hb => .inl hb
 obtain ⟨u2, e2, s2⟩ := h2.lend (G := fun b => hbk v1 = some b ∨ hbk v2 = some b) l2 fun b hb => .inr hb
 refine lend_call (G := fun b => hbk v1 = some b ∨ hbk v2 = some b) (args' := [u1, u2]) (rv := vT true) (fun b hb => hb.elim h1.own h2.own) (show LendL _ _ [v1, v2] _ from ⟨e1, e2, trivial⟩) ?_ (fun w B => valid_raw _) K hK
 exact call_same (watershedlaw07_begins_ce.ok (d1, d2, ()) () (true, ()) (begins_p d1 d2 (by omega) hd)) (.cons s1 (svs1.2 ⟨_, rfl, s2⟩)) (fun N ρ a h => sv_bool.1 h) _ fun τ hX => ⟨rfl, hX⟩
theorem dget_of {l : FD} {k : List UInt8} {nb : Nat} {d : List UInt8} {fs : List Fl} (hd : dat fs = l) (hm : (k, nb, d) ∈ l) : ∃ f ∈ fs, f.nm = k ∧ f.b = nb ∧ f.d = d := by
 rw [← hd] at hm
 obtain ⟨f, hf, e⟩ := of_dat hm
 injection e with e1 e
 injection e with e2 e3
 exact ⟨f, hf, e1.symm, e2.symm, e3.symm⟩
section
variable {σ : St} {K : AV → St → Prop}
set_option maxHeartbeats 4000000 in
theorem awake_ok (hK : ∀ τ, Ext σ τ → K (vT true) τ) : CallsA Try.prog 7 [] σ K := by
 refine callsA_of dk_mixed Try.func7 rfl rfl rfl (Nat.le_of_ble_eq_true rfl) ?_
 refine k_region ?_
 refine k_cons (s_assign rfl ?_)
 refine k_nil ?_
 refine k_region ?_
 refine k_cons ?_
 refine s_call (vs := [.raw (.int .i64 4)]) rfl ?_
 refine new_ok fun bb mb σ1 h1 hE1 hnb hnm => ?_
 refine k_cons (s_assign (v := ptr bb 0) (by simp only [EV, Nat.reduceEqDiff, ↓reduceIte]) ?_)
 refine k_nil ?_
 refine comp1 1 (v0 := ptr bb 0) (by simp only [EV, Nat.reduceEqDiff, ↓reduceIte]) ?_
 intro e he
 have hS1 : ∀ c, (c = bb ∨ c = mb) → NewB σ c ∧ σ1.used c := fun c hc => by
  rcases hc with rfl | rfl
  ·exact ⟨hnb, h1.used⟩
  ·exact ⟨hnm, h1.umap⟩
 -- a: 1, 2
 first | refine k_region ?_ | refine k_region1 ?_ | (refine k_assoc ?_; refine k_region ?_) | (refine k_assoc ?_; refine k_assoc ?_; refine k_region ?_)
 refine k_cons (c_mv rfl (by simp only [EV, Nat.reduceEqDiff, ↓reduceIte, he] <;> try rfl) ?_)
 refine k_cons ?_
 refine r_row (vs := [.raw (.int .u8 1)]) (cells := bys [1]) rfl dk_sl32 dk_sz5 dk_ze5 rfl (by omega) rfl rfl fun b12 σa hNa hXa => ?_
 refine k_cons ?_
 refine r_row (vs := [.raw (.int .u8 2)]) (cells := bys [2]) rfl dk_sl32 dk_sz5 dk_ze5 rfl (by omega) rfl rfl fun b13 σb hNb hXb => ?_
 refine k_cons ?_
 refine r_row (vs := [.lst (some ⟨b12, 0, none⟩) 1 1 (bys [1]), .lst (some ⟨b13, 0, none⟩) 1 1 (bys [2])]) (cells := [.lst (some ⟨b12, 0, none⟩) 1 1 (bys [1]), .lst (some ⟨b13, 0, none⟩) 1 1 (bys [2])]) (by simp only [List.map_cons, List.map_nil, EV, Nat.reduceEqDiff, ↓reduceIte, he]; try rfl) dk_sl22 dk_sz32 dk_ze32 rfl (by omega) rfl rfl fun b14 σc hNc hXc => ?_
 have hX1c : Ext σ1 σc := (hXa.trans hXb).trans hXc
 refine k_cons ?_
 refine s_call (vs := [ptr bb 0, .raw (sV [97]), .lst (some ⟨b14, 0, none⟩) 2 2 [.lst (some ⟨b12, 0, none⟩) 1 1 (bys [1]), .lst (some ⟨b13, 0, none⟩) 1 1 (bys [2])]]) (by simp only [List.map_cons, List.map_nil, EV, Nat.reduceEqDiff, ↓reduceIte, he] <;> try rfl) ?_
 refine append_ok (h1.ext hX1c) (fun c hc => hX1c.used _ (hS1 c hc).2) (d := [1, 2]) (fun τ0 _ K' hK' => concat_ok (ps := [[1], [2]]) (rows_sv (ps := [[1], [2]]) (.cons (bytes_sv0 (d := [1]) (lst_row _ (by decide))) (.cons (bytes_sv0 (d := [2]) (lst_row _ (by decide))) .none)) (lst_row _ (by decide))) (by decide) (by decide) K' hK') (by decide) (by decide) (fun q => absurd ⟨by decide, by decide⟩ q) (fun q => absurd (.inr (by decide)) q) fun _ _ σ2 S2 fs2 pcs2 pv2 h2 hB2 hS12 hS21 hSu2 ha2 => ?_
 obtain ⟨hwf2, hs2, hl2, hd2⟩ := appD_wf h1 h2 ha2 ⟨(fun p hp => by cases hp), fun f hf => by cases hf⟩
 have hE1c := hE1.trans hX1c
 have hE2 : Ext σ σ2 := But.ext hE1c (fun c hc => (hS1 c hc).1.1) hB2
 have hSn2 : ∀ c, S2 c → NewB σ c := fun c hc => by
  rcases hS21 c hc with q | q
  ·exact (hS1 c q).1
  ·exact q.of hE1c
 obtain ⟨nb, hdat2, hpcs2⟩ : ∃ nb, dat fs2 = [([97], nb, [1, 2])] ∧ pcs2 = [(nb, 2)] := by
  rcases appD_data h1 h2 ha2 with ⟨nb, _, _, g1, g2⟩ | ⟨f0, hf0, _⟩
  ·exact ⟨nb, g1, g2⟩
  ·cases hf0
 refine k_cons (c_mv rfl (by simp only [EV, Nat.reduceEqDiff, ↓reduceIte, he] <;> try rfl) ?_)
 refine k_nil ?_
 apply comp2 1 2
 ·simp only [EV, Nat.reduceEqDiff, ↓reduceIte, he] <;> try rfl
 ·simp only [EV, Nat.reduceEqDiff, ↓reduceIte, he] <;> try rfl
 clear he e
 intro e he
 -- b: 3
 first | refine k_region ?_ | refine k_region1 ?_ | (refine k_assoc ?_; refine k_region ?_) | (refine k_assoc ?_; refine k_assoc ?_; refine k_region ?_)
 refine k_cons (c_mv rfl (by simp only [EV, Nat.reduceEqDiff, ↓reduceIte, he] <;> try rfl) ?_)
 refine k_cons ?_
 refine r_row (vs := [.raw (.int .u8 3)]) (cells := bys [3]) rfl dk_sl32 dk_sz5 dk_ze5 rfl (by omega) rfl rfl fun b17 σa hNa hXa => ?_
 refine k_cons ?_
 refine r_row (vs := [.lst (some ⟨b17, 0, none⟩) 1 1 (bys [3])]) (cells := [.lst (some ⟨b17, 0, none⟩) 1 1 (bys [3])]) (by simp only [List.map_cons, List.map_nil, EV, Nat.reduceEqDiff, ↓reduceIte, he]; try rfl) dk_sl22 dk_sz32 dk_ze32 rfl (by omega) rfl rfl fun b18 σb hNb hXb => ?_
 have hX2c : Ext σ2 σb := hXa.trans hXb
 refine k_cons ?_
 refine s_call (vs := [ptr bb 0, .raw (sV [98]), .lst (some ⟨b18, 0, none⟩) 1 1 [.lst (some ⟨b17, 0, none⟩) 1 1 (bys [3])]]) (by simp only [List.map_cons, List.map_nil, EV, Nat.reduceEqDiff, ↓reduceIte, he] <;> try rfl) ?_
 refine append_ok (h2.ext hX2c) (fun c hc => hX2c.used _ (hSu2 c hc)) (d := [3]) (fun τ0 _ K' hK' => concat_ok (ps := [[3]]) (rows_sv (ps := [[3]]) (.cons (bytes_sv0 (d := [3]) (lst_row _ (by decide))) .none) (lst_row _ (by decide))) (by decide) (by decide) K' hK') (by rw [hd2]; decide) (by rw [hpcs2]; simp) (fun q => absurd ⟨by decide, by decide⟩ q) (fun q => absurd (.inr (by rw [hd2]; decide)) q) fun _ _ σ3 S3 fs3 pcs3 pv3 h3 hB3 hS23 hS32 hSu3 ha3 => ?_
 obtain ⟨hwf3, hs3, hl3, hd3⟩ := appD_wf h2 h3 ha3 hwf2
 have hE2c := hE2.trans hX2c
 have hE3 : Ext σ σ3 := But.ext hE2c (fun c hc => (hSn2 c hc).1) hB3
 have hSn3 : ∀ c, S3 c → NewB σ c := fun c hc => by
  rcases hS32 c hc with q | q
  ·exact hSn2 c q
  ·exact q.of hE2c
 obtain ⟨mb2, hne, hdat3, hpcs3⟩ : ∃ mb2, nb ≠ mb2 ∧ dat fs3 = [([97], nb, [1, 2]), ([98], mb2, [3])] ∧ pcs3 = [(nb, 2), (mb2, 1)] := by
  rcases appD_data h2 h3 ha3 with ⟨mb2, _, gb, g1, g2⟩ | ⟨f0, hf0, hq, _⟩
  ·obtain ⟨f, hf, _, hfb, _⟩ := dget_of hdat2 List.mem_cons_self
   refine ⟨mb2, fun e => gb f hf (hfb.trans e), ?_, ?_⟩
   ·rw [g1, hdat2]; rfl
   ·rw [g2, hpcs2]; rfl
  ·have := mem_dat hf0
   rw [hdat2, hq] at this
   exact absurd this (by simp)
 refine k_cons (c_mv rfl (by simp only [EV, Nat.reduceEqDiff, ↓reduceIte, he] <;> try rfl) ?_)
 refine k_nil ?_
 apply comp3 1 2 3
 ·simp only [EV, Nat.reduceEqDiff, ↓reduceIte, he] <;> try rfl
 ·simp only [EV, Nat.reduceEqDiff, ↓reduceIte, he] <;> try rfl
 ·simp only [EV, Nat.reduceEqDiff, ↓reduceIte, he] <;> try rfl
 clear he e
 intro e he
 -- a: 4
 first | refine k_region ?_ | refine k_region1 ?_ | (refine k_assoc ?_; refine k_region ?_) | (refine k_assoc ?_; refine k_assoc ?_; refine k_region ?_)
 refine k_cons (c_mv rfl (by simp only [EV, Nat.reduceEqDiff, ↓reduceIte, he] <;> try rfl) ?_)
 refine k_cons ?_
 refine r_row (vs := [.raw (.int .u8 4)]) (cells := bys [4]) rfl dk_sl32 dk_sz5 dk_ze5 rfl (by omega) rfl rfl fun b21 σa hNa hXa => ?_
 refine k_cons ?_
 refine r_row (vs := [.lst (some ⟨b21, 0, none⟩) 1 1 (bys [4])]) (cells := [.lst (some ⟨b21, 0, none⟩) 1 1 (bys [4])]) (by simp only [List.map_cons, List.map_nil, EV, Nat.reduceEqDiff, ↓reduceIte, he]; try rfl) dk_sl22 dk_sz32 dk_ze32 rfl (by omega) rfl rfl fun b22 σb hNb hXb => ?_
 have hX3c : Ext σ3 σb := hXa.trans hXb
 refine k_cons ?_
 refine s_call (vs := [ptr bb 0, .raw (sV [97]), .lst (some ⟨b22, 0, none⟩) 1 1 [.lst (some ⟨b21, 0, none⟩) 1 1 (bys [4])]]) (by simp only [List.map_cons, List.map_nil, EV, Nat.reduceEqDiff, ↓reduceIte, he] <;> try rfl) ?_
 refine append_ok (h3.ext hX3c) (fun c hc => hX3c.used _ (hSu3 c hc)) (d := [4]) (fun τ0 _ K' hK' => concat_ok (ps := [[4]]) (rows_sv (ps := [[4]]) (.cons (bytes_sv0 (d := [4]) (lst_row _ (by decide))) .none) (lst_row _ (by decide))) (by decide) (by decide) K' hK') (by rw [hd3, hd2]; decide) (by rw [hpcs3]; simp) (fun q => absurd ⟨by decide, by decide⟩ q) (fun q => absurd (.inr (by rw [hd3, hd2]; decide)) q) fun _ _ σ4 S4 fs4 pcs4 pv4 h4 hB4 hS34 hS43 hSu4 ha4 => ?_
 obtain ⟨hwf4, hs4, hl4, hd4⟩ := appD_wf h3 h4 ha4 hwf3
 have hE3c := hE3.trans hX3c
 have hE4 : Ext σ σ4 := But.ext hE3c (fun c hc => (hSn3 c hc).1) hB4
 have hSn4 : ∀ c, S4 c → NewB σ c := fun c hc => by
  rcases hS43 c hc with q | q
  ·exact hSn3 c q
  ·exact q.of hE3c
 obtain ⟨hdat4, hpcs4⟩ : dat fs4 = [([97], nb, [1, 2, 4]), ([98], mb2, [3])] ∧ pcs4 = [(nb, 2), (mb2, 1), (nb, 1)] := by
  rcases appD_data h3 h4 ha4 with ⟨_, gn, _⟩ | ⟨f0, hf0, hq, g1, g2⟩
  ·obtain ⟨f, hf, hfn, _⟩ := dget_of hdat3 List.mem_cons_self
   exact absurd hfn (gn f hf)
  ·have hm := mem_dat hf0
   rw [hdat3, hq] at hm
   have hfb : f0.b = nb := by simp at hm; exact hm.1
   rw [hfb] at g1 g2
   refine ⟨?_, ?_⟩
   ·rw [g1, hdat3]; simp [addD, Ne.symm hne]
   ·rw [g2, hpcs3]; rfl
 refine k_cons (c_mv rfl (by simp only [EV, Nat.reduceEqDiff, ↓reduceIte, he] <;> try rfl) ?_)
 refine k_nil ?_
 apply comp4 1 2 3 4
 ·simp only [EV, Nat.reduceEqDiff, ↓reduceIte, he] <;> try rfl
 ·simp only [EV, Nat.reduceEqDiff, ↓reduceIte, he] <;> try rfl
 ·simp only [EV, Nat.reduceEqDiff, ↓reduceIte, he] <;> try rfl
 ·simp only [EV, Nat.reduceEqDiff, ↓reduceIte, he] <;> try rfl
 clear he e
 intro e he
 -- c: 5, which is too much
 first | refine k_region ?_ | refine k_region1 ?_ | (refine k_assoc ?_; refine k_region ?_) | (refine k_assoc ?_; refine k_assoc ?_; refine k_region ?_)
 refine k_cons (c_mv rfl (by simp only [EV, Nat.reduceEqDiff, ↓reduceIte, he] <;> try rfl) ?_)
 refine k_cons ?_
 refine r_row (vs := [.raw (.int .u8 5)]) (cells := bys [5]) rfl dk_sl32 dk_sz5 dk_ze5 rfl (by omega) rfl rfl fun b25 σa hNa hXa => ?_
 refine k_cons ?_
 refine r_row (vs := [.lst (some ⟨b25, 0, none⟩) 1 1 (bys [5])]) (cells := [.lst (some ⟨b25, 0, none⟩) 1 1 (bys [5])]) (by simp only [List.map_cons, List.map_nil, EV, Nat.reduceEqDiff, ↓reduceIte, he]; try rfl) dk_sl22 dk_sz32 dk_ze32 rfl (by omega) rfl rfl fun b26 σb hNb hXb => ?_
 have hX4c : Ext σ4 σb := hXa.trans hXb
 refine k_cons ?_
 refine s_call (vs := [ptr bb 0, .raw (sV [99]), .lst (some ⟨b26, 0, none⟩) 1 1 [.lst (some ⟨b25, 0, none⟩) 1 1 (bys [5])]]) (by simp only [List.map_cons, List.map_nil, EV, Nat.reduceEqDiff, ↓reduceIte, he] <;> try rfl) ?_
 refine append_ok (h4.ext hX4c) (fun c hc => hX4c.used _ (hSu4 c hc)) (d := [5]) (fun τ0 _ K' hK' => concat_ok (ps := [[5]]) (rows_sv (ps := [[5]]) (.cons (bytes_sv0 (d := [5]) (lst_row _ (by decide))) .none) (lst_row _ (by decide))) (by decide) (by decide) K' hK') (by rw [hd4, hd3, hd2]; decide) (by rw [hpcs4]; simp) (fun q => absurd ⟨by decide, by decide⟩ q) (fun _ σ5 hX5 => ?_) fun _ hf => absurd hf (by rw [hd4, hd3, hd2]; decide)
 have hX45 := hX4c.trans hX5
 have hE5 := hE4.trans hX45
 have h5 := h4.ext hX45
 refine k_cons (c_mv rfl (by simp only [EV, Nat.reduceEqDiff, ↓reduceIte, he] <;> try rfl) ?_)
 refine k_nil ?_
 apply comp5 1 2 3 4 5
 ·simp only [EV, Nat.reduceEqDiff, ↓reduceIte, he] <;> try rfl
 ·simp only [EV, Nat.reduceEqDiff, ↓reduceIte, he] <;> try rfl
 ·simp only [EV, Nat.reduceEqDiff, ↓reduceIte, he] <;> try rfl
 ·simp only [EV, Nat.reduceEqDiff, ↓reduceIte, he] <;> try rfl
 ·simp only [EV, Nat.reduceEqDiff, ↓reduceIte, he] <;> try rfl
 clear he e
 intro e he
 -- a crash
 first | refine k_region ?_ | refine k_region1 ?_ | (refine k_assoc ?_; refine k_region ?_) | (refine k_assoc ?_; refine k_assoc ?_; refine k_region ?_)
 refine k_cons (c_mv rfl (by simp only [EV, Nat.reduceEqDiff, ↓reduceIte, he] <;> try rfl) ?_)
 refine k_cons ?_
 refine s_call (vs := [ptr bb 0, .raw (.int .i64 2)]) (by simp only [List.map_cons, List.map_nil, EV, Nat.reduceEqDiff, ↓reduceIte, he] <;> try rfl) ?_
 have hsum4 : sumP pcs4 = 4 := by rw [hpcs4]; rfl
 have hfl4 : ∀ f ∈ fs4, f.d.length ≤ 1000000000 := fun f hf => by
  have := sumD_mem hf
  rw [hd4, hd3, hd2] at this
  exact Nat.le_trans this (by decide)
 refine crash_ok h5 (by rw [hpcs4]; simp) hwf4 (by rw [hsum4]; decide) hfl4 ⟨by decide, by decide⟩ fun σ6 fs6 h6 hdat6 hB6 => ?_
 have hE6 : Ext σ σ6 := But.ext hE5 (fun c hc => (hSn4 c hc).1) hB6
 have hdat6 : dat fs6 = [([97], nb, [1, 2]), ([98], mb2, [])] := by
  rw [hdat6, hsum4, hdat4, hpcs4]
  show crashR 2 _ [(nb, 1), (mb2, 1), (nb, 2)] = _
  simp [crashR, cutD, hne, Ne.symm hne]
 refine k_nil ?_
 apply comp5 1 2 3 4 5
 ·simp only [EV, Nat.reduceEqDiff, ↓reduceIte, he] <;> try rfl
 ·simp only [EV, Nat.reduceEqDiff, ↓reduceIte, he] <;> try rfl
 ·simp only [EV, Nat.reduceEqDiff, ↓reduceIte, he] <;> try rfl
 ·simp only [EV, Nat.reduceEqDiff, ↓reduceIte, he] <;> try rfl
 ·simp only [EV, Nat.reduceEqDiff, ↓reduceIte, he] <;> try rfl
 clear he e
 intro e he
 have hfl6 : ∀ f ∈ fs6, f.d.length ≤ 1000000000 := fun f hf => by
  have := sumD_mem hf
  rw [sumD_dat, hdat6] at this
  simp at this
  omega
 -- a is read
 first | refine k_region ?_ | refine k_region1 ?_ | (refine k_assoc ?_; refine k_region ?_) | (refine k_assoc ?_; refine k_assoc ?_; refine k_region ?_)
 refine k_cons (c_mv rfl (by simp only [EV, Nat.reduceEqDiff, ↓reduceIte, he] <;> try rfl) ?_)
 refine k_cons ?_
 refine s_call (vs := [ptr bb 0, .raw (sV [97])]) (by simp only [List.map_cons, List.map_nil, EV, Nat.reduceEqDiff, ↓reduceIte, he] <;> try rfl) ?_
 refine read_ok h6 hfl6 (fun hq => ?_) fun f0 hf0 hq σ7 v7 hv7 hX7 hn7 => ?_
 ·obtain ⟨f, hf, hfn, _⟩ := dget_of hdat6 List.mem_cons_self
  exact absurd hfn (hq f hf)
 have hfd : f0.d = [1, 2] := by
  have hm := mem_dat hf0
  rw [hdat6, hq] at hm
  simp at hm
  exact hm.2
 rw [hfd] at hv7
 refine k_cons (c_mv rfl (by simp only [EV, Nat.reduceEqDiff, ↓reduceIte, he] <;> try rfl) ?_)
 refine k_cons ?_
 refine s_extract (l := [v7, vT true]) (by simp only [EV, Nat.reduceEqDiff, ↓reduceIte, he] <;> try rfl) rfl ?_
 refine k_cons ?_
 refine s_extract (l := [v7, vT true]) (by simp only [EV, Nat.reduceEqDiff, ↓reduceIte, he] <;> try rfl) rfl ?_
 refine k_cons (c_mv rfl (by simp only [EV, Nat.reduceEqDiff, ↓reduceIte, he] <;> try rfl) ?_)
 refine k_cons (c_mv rfl (by simp only [EV, Nat.reduceEqDiff, ↓reduceIte, he] <;> try rfl) ?_)
 refine k_nil ?_
 apply comp6 1 2 3 4 5 6
 ·simp only [EV, Nat.reduceEqDiff, ↓reduceIte, he] <;> try rfl
 ·simp only [EV, Nat.reduceEqDiff, ↓reduceIte, he] <;> try rfl
 ·simp only [EV, Nat.reduceEqDiff, ↓reduceIte, he] <;> try rfl
 ·simp only [EV, Nat.reduceEqDiff, ↓reduceIte, he] <;> try rfl
 ·simp only [EV, Nat.reduceEqDiff, ↓reduceIte, he] <;> try rfl
 ·simp only [EV, Nat.reduceEqDiff, ↓reduceIte, he] <;> try rfl
 clear he e
 intro e he
 -- b is read
 first | refine k_region ?_ | refine k_region1 ?_ | (refine k_assoc ?_; refine k_region ?_) | (refine k_assoc ?_; refine k_assoc ?_; refine k_region ?_)
 refine k_cons (c_mv rfl (by simp only [EV, Nat.reduceEqDiff, ↓reduceIte, he] <;> try rfl) ?_)
 refine k_cons ?_
 refine s_call (vs := [ptr bb 0, .raw (sV [98])]) (by simp only [List.map_cons, List.map_nil, EV, Nat.reduceEqDiff, ↓reduceIte, he] <;> try rfl) ?_
 refine read_ok (h6.ext hX7) hfl6 (fun hq => ?_) fun f1 hf1 hq1 σ8 v8 hv8 hX8 hn8 => ?_
 ·obtain ⟨f, hf, hfn, _⟩ := dget_of hdat6 (List.mem_cons_of_mem _ List.mem_cons_self)
  exact absurd hfn (hq f hf)
 have hfd1 : f1.d = [] := by
  have hm := mem_dat hf1
  rw [hdat6, hq1] at hm
  simp at hm
  exact hm.2
 rw [hfd1] at hv8
 refine k_cons (c_mv rfl (by simp only [EV, Nat.reduceEqDiff, ↓reduceIte, he] <;> try rfl) ?_)
 refine k_cons ?_
 refine s_extract (l := [v8, vT true]) (by simp only [EV, Nat.reduceEqDiff, ↓reduceIte, he] <;> try rfl) rfl ?_
 refine k_cons ?_
 refine s_extract (l := [v8, vT true]) (by simp only [EV, Nat.reduceEqDiff, ↓reduceIte, he] <;> try rfl) rfl ?_
 refine k_cons (c_mv rfl (by simp only [EV, Nat.reduceEqDiff, ↓reduceIte, he] <;> try rfl) ?_)
 refine k_cons (c_mv rfl (by simp only [EV, Nat.reduceEqDiff, ↓reduceIte, he] <;> try rfl) ?_)
 refine k_nil ?_
 apply comp8 1 2 3 4 5 6 8 9
 ·simp only [EV, Nat.reduceEqDiff, ↓reduceIte, he] <;> try rfl
 ·simp only [EV, Nat.reduceEqDiff, ↓reduceIte, he] <;> try rfl
 ·simp only [EV, Nat.reduceEqDiff, ↓reduceIte, he] <;> try rfl
 ·simp only [EV, Nat.reduceEqDiff, ↓reduceIte, he] <;> try rfl
 ·simp only [EV, Nat.reduceEqDiff, ↓reduceIte, he] <;> try rfl
 ·simp only [EV, Nat.reduceEqDiff, ↓reduceIte, he] <;> try rfl
 ·simp only [EV, Nat.reduceEqDiff, ↓reduceIte, he] <;> try rfl
 ·simp only [EV, Nat.reduceEqDiff, ↓reduceIte, he] <;> try rfl
 clear he e
 intro e he
 -- all is as it should be
 first | refine k_region ?_ | refine k_region1 ?_ | (refine k_assoc ?_; refine k_region ?_) | (refine k_assoc ?_; refine k_assoc ?_; refine k_region ?_)
 refine k_cons (c_mv rfl (by simp only [EV, Nat.reduceEqDiff, ↓reduceIte, he] <;> try rfl) ?_)
 refine k_cons ?_
 refine s_eql (k := .i64) (a := 0) (b := 0) (by simp only [EV, Nat.reduceEqDiff, ↓reduceIte, he] <;> try rfl) (by simp only [EV, Nat.reduceEqDiff, ↓reduceIte, he] <;> try rfl) ?_
 refine k_cons (c_mv rfl (by simp only [EV, Nat.reduceEqDiff, ↓reduceIte, he] <;> try rfl) ?_)
 refine k_cons (s_guard_on (y_is rfl (by simp only [EV, Nat.reduceEqDiff, ↓reduceIte, he] <;> try rfl)) ?_)
 refine c_mv rfl (by simp only [EV, Nat.reduceEqDiff, ↓reduceIte, he] <;> try rfl) ?_
 refine k_cons (s_guard_on (y_is rfl (by simp only [EV, Nat.reduceEqDiff, ↓reduceIte, he] <;> try rfl)) ?_)
 refine s_eql (k := .i64) (a := 0) (b := 0) (by simp only [EV, Nat.reduceEqDiff, ↓reduceIte, he] <;> try rfl) (by simp only [EV, Nat.reduceEqDiff, ↓reduceIte, he] <;> try rfl) ?_
 refine k_cons ?_
 refine s_pick_t (v := vT true) (by simp only [EV, Nat.reduceEqDiff, ↓reduceIte, he] <;> try rfl) (by simp only [EV, Nat.reduceEqDiff, ↓reduceIte, he] <;> try rfl) ?_
 refine k_cons (c_mv rfl (by simp only [EV, Nat.reduceEqDiff, ↓reduceIte, he] <;> try rfl) ?_)
 refine k_cons (s_guard_on (y_is rfl (by simp only [EV, Nat.reduceEqDiff, ↓reduceIte, he] <;> try rfl)) ?_)
 refine c_mv rfl (by simp only [EV, Nat.reduceEqDiff, ↓reduceIte, he] <;> try rfl) ?_
 refine k_cons (s_guard_on (y_is rfl (by simp only [EV, Nat.reduceEqDiff, ↓reduceIte, he] <;> try rfl)) ?_)
 refine s_eql (k := .i64) (a := 0) (b := 0) (by simp only [EV, Nat.reduceEqDiff, ↓reduceIte, he] <;> try rfl) (by simp only [EV, Nat.reduceEqDiff, ↓reduceIte, he] <;> try rfl) ?_
 refine k_cons ?_
 refine s_pick_t (v := vT true) (by simp only [EV, Nat.reduceEqDiff, ↓reduceIte, he] <;> try rfl) (by simp only [EV, Nat.reduceEqDiff, ↓reduceIte, he] <;> try rfl) ?_
 refine k_cons (c_mv rfl (by simp only [EV, Nat.reduceEqDiff, ↓reduceIte, he] <;> try rfl) ?_)
 refine k_cons (s_guard_on (y_is rfl (by simp only [EV, Nat.reduceEqDiff, ↓reduceIte, he] <;> try rfl)) ?_)
 refine c_mv rfl (by simp only [EV, Nat.reduceEqDiff, ↓reduceIte, he] <;> try rfl) ?_
 refine k_cons (s_guard_on (y_is rfl (by simp only [EV, Nat.reduceEqDiff, ↓reduceIte, he] <;> try rfl)) ?_)
 refine s_eql (k := .i64) (a := 8) (b := 8) (by simp only [EV, Nat.reduceEqDiff, ↓reduceIte, he] <;> try rfl) (by simp only [EV, Nat.reduceEqDiff, ↓reduceIte, he] <;> try rfl) ?_
 refine k_cons ?_
 refine s_pick_t (v := vT true) (by simp only [EV, Nat.reduceEqDiff, ↓reduceIte, he] <;> try rfl) (by simp only [EV, Nat.reduceEqDiff, ↓reduceIte, he] <;> try rfl) ?_
 refine k_cons (c_mv rfl (by simp only [EV, Nat.reduceEqDiff, ↓reduceIte, he] <;> try rfl) ?_)
 refine k_cons (s_guard_on (y_is rfl (by simp only [EV, Nat.reduceEqDiff, ↓reduceIte, he] <;> try rfl)) ?_)
 refine c_mv rfl (by simp only [EV, Nat.reduceEqDiff, ↓reduceIte, he] <;> try rfl) ?_
 refine k_cons (s_guard_on (y_is rfl (by simp only [EV, Nat.reduceEqDiff, ↓reduceIte, he] <;> try rfl)) ?_)
 refine r_row (vs := [.raw (.int .u8 1), .raw (.int .u8 2)]) (cells := bys [1, 2]) rfl dk_sl32 dk_sz5 dk_ze5 rfl (by omega) rfl rfl fun b56 σ9 hN9 hX9 => ?_
 refine k_cons (s_guard_on (y_is rfl (by simp only [EV, Nat.reduceEqDiff, ↓reduceIte, he] <;> try rfl)) ?_)
 refine s_call (vs := [v7, .lst (some ⟨b56, 0, none⟩) 2 2 (bys [1, 2])]) (by simp only [List.map_cons, List.map_nil, EV, Nat.reduceEqDiff, ↓reduceIte, he] <;> try rfl) ?_
 refine sameb_ok (d1 := [1, 2]) (d2 := [1, 2]) (.inl ((hv7.ext hX8).ext hX9)) (.inr (bytes_sv0 (d := [1, 2]) (lst_row _ (by decide)))) (by decide) (by decide) _ fun σ10 hX10 => ?_
 rw [decide_eq_true rfl]
 refine k_cons ?_
 refine s_pick_t (v := vT true) (by simp only [EV, Nat.reduceEqDiff, ↓reduceIte, he] <;> try rfl) (by simp only [EV, Nat.reduceEqDiff, ↓reduceIte, he] <;> try rfl) ?_
 refine k_cons (c_mv rfl (by simp only [EV, Nat.reduceEqDiff, ↓reduceIte, he] <;> try rfl) ?_)
 refine k_cons (s_guard_on (y_is rfl (by simp only [EV, Nat.reduceEqDiff, ↓reduceIte, he] <;> try rfl)) ?_)
 refine c_mv rfl (by simp only [EV, Nat.reduceEqDiff, ↓reduceIte, he] <;> try rfl) ?_
 refine k_cons ?_
 refine s_pick_t (v := vT true) (by simp only [EV, Nat.reduceEqDiff, ↓reduceIte, he] <;> try rfl) (by simp only [EV, Nat.reduceEqDiff, ↓reduceIte, he] <;> try rfl) ?_
 refine k_cons (c_mv rfl (by simp only [EV, Nat.reduceEqDiff, ↓reduceIte, he] <;> try rfl) ?_)
 refine k_cons (s_guard_on (y_is rfl (by simp only [EV, Nat.reduceEqDiff, ↓reduceIte, he] <;> try rfl)) ?_)
 refine c_mv rfl (by simp only [EV, Nat.reduceEqDiff, ↓reduceIte, he] <;> try rfl) ?_
 refine k_cons (s_guard_on (y_is rfl (by simp only [EV, Nat.reduceEqDiff, ↓reduceIte, he] <;> try rfl)) ?_)
 refine s_lenH (by simp only [EV, Nat.reduceEqDiff, ↓reduceIte, he] <;> try rfl) ((hv8.ext hX9).ext hX10) rfl dk_sl32 ?_
 refine k_cons (s_guard_on (y_is rfl (by simp only [EV, Nat.reduceEqDiff, ↓reduceIte, he] <;> try rfl)) ?_)
 refine s_eql (k := .i64) (a := 0) (b := 0) (by simp only [EV, Nat.reduceEqDiff, ↓reduceIte, he] <;> try rfl) (by simp only [EV, Nat.reduceEqDiff, ↓reduceIte, he] <;> try rfl) ?_
 refine k_cons ?_
 refine s_pick_t (v := vT true) (by simp only [EV, Nat.reduceEqDiff, ↓reduceIte, he] <;> try rfl) (by simp only [EV, Nat.reduceEqDiff, ↓reduceIte, he] <;> try rfl) ?_
 refine k_cons (c_mv rfl (by simp only [EV, Nat.reduceEqDiff, ↓reduceIte, he] <;> try rfl) ?_)
 refine k_cons (s_guard_on (y_is rfl (by simp only [EV, Nat.reduceEqDiff, ↓reduceIte, he] <;> try rfl)) ?_)
 refine c_mv rfl (by simp only [EV, Nat.reduceEqDiff, ↓reduceIte, he] <;> try rfl) ?_
 refine k_cons (s_guard_on (y_is rfl (by simp only [EV, Nat.reduceEqDiff, ↓reduceIte, he] <;> try rfl)) ?_)
 refine s_call (vs := [ptr bb 0]) (by simp only [List.map_cons, List.map_nil, EV, Nat.reduceEqDiff, ↓reduceIte, he] <;> try rfl) ?_
 have hX610 := ((hX7.trans hX8).trans hX9).trans hX10
 refine waits_ok (h6.ext hX610) (by decide) (by decide) fun σ11 hX11 => ?_
 refine k_cons (s_guard_on (y_is rfl (by simp only [EV, Nat.reduceEqDiff, ↓reduceIte, he] <;> try rfl)) ?_)
 refine s_eql (k := .i64) (a := 0) (b := 0) (by simp only [EV, Nat.reduceEqDiff, ↓reduceIte, he] <;> try rfl) (by simp only [EV, Nat.reduceEqDiff, ↓reduceIte, he] <;> try rfl) ?_
 refine k_cons ?_
 refine s_pick_t (v := vT true) (by simp only [EV, Nat.reduceEqDiff, ↓reduceIte, he] <;> try rfl) (by simp only [EV, Nat.reduceEqDiff, ↓reduceIte, he] <;> try rfl) ?_
 refine k_cons (c_mv rfl (by simp only [EV, Nat.reduceEqDiff, ↓reduceIte, he] <;> try rfl) ?_)
 refine k_nil ?_
 refine k_ret1 ?_
 show ∃ r, aResults _ _ _ _ r ∧ _
 exact ⟨_, res_tmp rfl (by simp only [EV, Nat.reduceEqDiff, ↓reduceIte, he] <;> try rfl), hK σ11 ((hE6.trans hX610).trans hX11)⟩
end
end Go.Proofs.Ytinpiaibhjmfaaa
/- DiskAppends, by hand. -/
namespace Go.Proofs.Ytinpiaibhjmfaaa
open Go.RowKit
set_option maxRecDepth 100000
set_option linter.unusedVariables false
set_option linter.unusedSimpArgs false
theorem dk_ze28 : zeroA Try.prog 28 = some (.agg #[.int .i64 0, .string ⟨#[]⟩, .slice none 0 0, .int .i64 0, .slice none 0 0]) := by kernel_rfl
theorem dk_pl28 : placesB Try.prog 28 = some [(0, 1), (1, 1), (2, 1), (3, 1), (4, 1)] := by kernel_rfl
theorem dk_sz28 : sizeA Try.prog 28 = some 5 := by kernel_rfl
theorem dk_sz4 : sizeA Try.prog 4 = some 1 := by kernel_rfl
theorem dk_ag4 : aggA Try.prog 4 = some false := by kernel_rfl
theorem dk_u4 : Program.underlying Try.prog 4 = some .bool := by kernel_rfl
theorem dk_ze9 : zeroA Try.prog 9 = some (.string ⟨#[]⟩) := by kernel_rfl
/-- A row's cell. -/
theorem row_cell {N : Nat} {ρ : Nat → AV} : ∀ {l : List (List UInt8)} {cs : List AV}, SVs CT N ρ (l.flatMap (CT.enc 3)) cs → ∀ (i : Nat) (h : i < l.length), ∃ v, cs[i]? = some v ∧ SV CT N ρ (.sl 1 l[i] none) v
 | f :: l, cs, hs, i, hi => by
  rw [List.flatMap_cons] at hs
  have hs : SVs CT N ρ (XV.sl 1 f none :: l.flatMap (CT.enc 3)) cs := hs
  obtain ⟨a0, as_, rfl, h0, h1⟩ := hs.to
  cases i with
  | zero => exact ⟨a0, rfl, h0⟩
  | succ i =>
   obtain ⟨v, q1, q2⟩ := row_cell (l := l) h1 i (by simpa using hi)
   exact ⟨v, q1, q2⟩
theorem bool_cell {N : Nat} {ρ : Nat → AV} : ∀ {l : List Bool} {cs : List AV}, SVs CT N ρ (l.flatMap (CT.enc 7)) cs → ∀ (i : Nat) (h : i < l.length), cs[i]? = some (vT l[i])
 | f :: l, cs, hs, i, hi => by
  rw [List.flatMap_cons] at hs
  have hs : SVs CT N ρ (XV.bool f :: l.flatMap (CT.enc 7)) cs := hs
  obtain ⟨a0, as_, rfl, h0, h1⟩ := hs.to
  cases i with
  | zero =>
   rw [sv_bool.1 h0]
   rfl
  | succ i => exact bool_cell (l := l) h1 i (by simpa using hi)
theorem dget_dat {fs : List Fl} {k d : List UInt8} {fb : Nat} (h : dat fs = [(k, fb, d)]) : dget (dirOf fs) k = some fb := by
 have : dirOf fs = (dat fs).map fun q => (q.1, q.2.1) := by
  unfold dirOf dat
  rw [List.map_map]
  rfl
 rw [this, h]
 simp [dget]
theorem crash_one {k : List UInt8} {fb : Nat} : ∀ (ps : List (Nat × Nat)) (L : Nat) (d : List UInt8), (∀ p ∈ ps, p.1 = fb) → sumP ps ≤ d.length → crashR L [(k, fb, d)] ps = [(k, fb, d.take (d.length - min L (sumP ps)))]
 | [], L, d, _, _ => by
  show [(k, fb, d)] = _
  rw [sumP_nil, Nat.min_zero, Nat.sub_zero, List.take_length]
 | p :: ps, L, d, h, hs => by
  have hp := h p List.mem_cons_self
  have e : sumP (p :: ps) = p.2 + sumP ps := by simp [sumP]
  rw [e] at hs ⊢
  show crashR (L - min L p.2) (cutD p.1 (min L p.2) [(k, fb, d)]) ps = _
  have e2 : cutD p.1 (min L p.2) [(k, fb, d)] = [(k, fb, d.take (d.length - min L p.2))] := by simp [cutD, hp]
  have hl : (d.take (d.length - min L p.2)).length = d.length - min L p.2 := by rw [List.length_take]; omega
  rw [e2, crash_one ps _ _ (fun q hq => h q (List.mem_cons_of_mem _ hq)) (by rw [hl]; omega), hl, List.take_take]
  congr 4
  omega
theorem empty_sv (E : Nat) : SV CT 0 noRho (.sl E [] none) (.lst none 0 0 []) := sv_sl.2 ⟨none, 0, [], [], rfl, Nat.le_refl _, Nat.zero_le _, Nat.zero_le _, fun _ => ⟨rfl, rfl⟩, .none⟩
/-- What has been done, at a step. -/
structure At (x0 : List (List UInt8)) (bb mb : Nat) (i : Nat) (υ : St) (S : Nat → Prop) (fs : List Fl) (pcs : List (Nat × Nat)) (pv av : AV) (safe : Nat) : Prop where
 disk : DAt υ bb S fs pcs 0 mb pv
 used : ∀ c, S c → υ.used c
 wf : Wf fs pcs
 few : pcs.length ≤ i
 all : Hd υ 5 1 av (x0.take i).flatten.length (bys (x0.take i).flatten)
 apart : ∀ c, hbk av = some c → ¬ S c
 sf : safe ≤ (x0.take i).flatten.length
 sum : sumP pcs = (x0.take i).flatten.length - safe
 data : (i = 0 ∧ dat fs = [] ∧ pcs = []) ∨ (0 < i ∧ ∃ fb, dat fs = [([102], fb, (x0.take i).flatten)] ∧ ∀ p ∈ pcs, p.1 = fb)
theorem At.ext {x0 : List (List UInt8)} {bb mb i : Nat} {υ τ : St} {S : Nat → Prop} {fs : List Fl} {pcs : List (Nat × Nat)} {pv av : AV} {safe : Nat} (h : At x0 bb mb i υ S fs pcs pv av safe) (k : Ext υ τ) : At x0 bb mb i τ S fs pcs pv av safe :=
 ⟨h.disk.ext k, fun c hc => k.used _ (h.used c hc), h.wf, h.few, h.all.ext k, h.apart, h.sf, h.sum, h.data⟩
theorem At.sumD {x0 : List (List UInt8)} {bb mb i : Nat} {υ : St} {S : Nat → Prop} {fs : List Fl} {pcs : List (Nat × Nat)} {pv av : AV} {safe : Nat} (h : At x0 bb mb i υ S fs pcs pv av safe) : sumD fs = (x0.take i).flatten.length := by
 rcases h.data with ⟨rfl, hd, _⟩ | ⟨_, fb, hd, _⟩ <;> rw [sumD_dat, hd] <;> simp
end Go.Proofs.Ytinpiaibhjmfaaa
