/- How a disk changes, as it lies. -/
import Derived.Test.YtinpiaibhjmfaaaDp
namespace Go.Proofs.Ytinpiaibhjmfaaa
open Go.RowKit
set_option maxRecDepth 100000
set_option linter.unusedVariables false
set_option linter.unusedSimpArgs false
theorem ZcM {σ : St} {b c : Nat} {t u : TypeId} {xs ys : List AV} (hb : σ.blk b = some (.own t xs)) (hc : σ.blk c = some (.own u ys)) (hne : t ≠ u) : b ≠ c := fun e => by
 subst e
 rw [hb] at hc
 injection hc with hc
 injection hc with hc
 exact hne hc
theorem Zcq {σ : St} {b c : Nat} {t : TypeId} {xs : List AV} {es : List (Value × Value)} (hb : σ.blk b = some (.own t xs)) (hc : σ.blk c = some (.map es)) : b ≠ c := fun e => by
 subst e
 rw [hb] at hc
 injection hc with hc
 cases hc
def Zci (fb : Nat) (v : AV) (d : List UInt8) (f : Fl) : Fl := if f.b = fb then ⟨f.nm, f.b, v, d⟩ else f
theorem ZdH {fb : Nat} {v : AV} {d : List UInt8} (f : Fl) : (Zci fb v d f).b = f.b := by unfold Zci; split <;> rfl
theorem ZhC {fb : Nat} {v : AV} {d : List UInt8} (f : Fl) : (Zci fb v d f).nm = f.nm := by unfold Zci; split <;> rfl
section
variable {σ τ : St} {bb mb : Nat} {S : Nat -> Prop} {fs : List Fl} {pcs : List (Nat × Nat)} {size : Int} {pv : AV}
theorem DAt.mono {S' : Nat -> Prop} (h : DAt σ bb S fs pcs size mb pv) (k : ∀ c, S c -> S' c) : DAt σ bb S' fs pcs size mb pv :=
 ⟨h.obj, h.used, h.map, h.umap, h.file, h.nd, h.nn, h.far, h.pc, ⟨k _ h.own.1, k _ h.own.2.1, fun f hf => ⟨k _ (h.own.2.2.1 f hf).1, fun x hx => k _ ((h.own.2.2.1 f hf).2 x hx)⟩, fun x hx => k _ (h.own.2.2.2 x hx)⟩, h.inn⟩
theorem DAt.uniq (h : DAt σ bb S fs pcs size mb pv) {f g : Fl} (hf : f ∈ fs) (hg : g ∈ fs) (e : f.b = g.b) : f = g := by
 have hnd := h.nd
 clear h
 induction fs with
 | nil => cases hf
 | cons a l ih =>
  rw [List.map_cons, List.nodup_cons] at hnd
  rcases List.mem_cons.1 hf with e1 | h1 <;> rcases List.mem_cons.1 hg with e2 | h2
  ·rw [e1, e2]
  ·exact absurd (List.mem_map.2 ⟨g, h2, by rw [<- e, e1]⟩) hnd.1
  ·exact absurd (List.mem_map.2 ⟨f, h1, by rw [e, e2]⟩) hnd.1
  ·exact ih h1 h2 hnd.2
theorem DAt.setF (h : DAt σ bb S fs pcs size mb pv) {f0 : Fl} (hf0 : f0 ∈ fs) {v : AV} {d : List UInt8} (k : But (fun c => c = f0.b \/ hbk f0.v = some c) σ τ) (hb : τ.blk f0.b = some (.own 78 [v])) (hv : Hd τ 5 1 v d.length (bys d)) (hnew : ∀ c, hbk v = some c -> hbk f0.v = some c \/ Za0 σ c) :
 DAt τ bb (fun c => S c \/ hbk v = some c) (fs.map (Zci f0.b v d)) pcs size mb pv := by
 obtain ⟨o1, o2, o3, o4⟩ := h.own
 obtain ⟨p1, p2, p3⟩ := h.file f0 hf0
 have hdir : Zbc (fs.map (Zci f0.b v d)) = Zbc fs := by
  unfold Zbc
  rw [List.map_map]
  exact List.map_congr_left fun f _ => by simp [Function.comp, ZdH, ZhC]
 have hother : ∀ g ∈ fs, g.b ≠ f0.b -> τ.blk g.b = some (.own 78 [g.v]) /\ Hd τ 5 1 g.v g.d.length (bys g.d) := fun g hg hne => by
  obtain ⟨q1, q2, q3⟩ := h.file g hg
  refine ⟨k.keep _ _ (fun hq => ?_) q1, q3.but k fun c hc hq => ?_⟩
  ·rcases hq with hq | hq
   ·exact hne hq
   ·obtain ⟨all, hall⟩ := p3.blk hq
    exact ZcM q1 hall (by decide) rfl
  ·rcases hq with hq | hq
   ·obtain ⟨all, hall⟩ := q3.blk hc
    rw [hq] at hall
    exact ZcM p1 hall (by decide) rfl
   ·exact hne (h.far g hg f0 hf0 c hc hq)
 refine ⟨k.keep _ _ (fun hq => ?_) h.obj, k.used _ h.used, ?_, k.used _ h.umap, fun f hf => ?_, ?_, ?_, fun f hf g hg x hx hy => ?_, h.pc.but k fun c hc hq => ?_, ⟨.inl o1, .inl o2, fun f hf => ?_, fun x hx => .inl (o4 x hx)⟩, fun p hp => ?_⟩
 ·rcases hq with hq | hq
  ·exact ZcM h.obj p1 (by decide) hq
  ·obtain ⟨all, hall⟩ := p3.blk hq
   exact ZcM h.obj hall (by decide) rfl
 ·rw [hdir]
  refine k.keep _ _ (fun hq => ?_) h.map
  rcases hq with hq | hq
  ·exact Zcq p1 h.map hq.symm
  ·obtain ⟨all, hall⟩ := p3.blk hq
   exact Zcq hall h.map rfl
 ·obtain ⟨g, hg, rfl⟩ := List.mem_map.1 hf
  by_cases hgb : g.b = f0.b
  ·unfold Zci
   rw [if_pos hgb]
   exact ⟨by rw [hgb]; exact hb, by rw [hgb]; exact k.used _ p2, hv⟩
  ·unfold Zci
   rw [if_neg hgb]
   obtain ⟨q1, q2⟩ := hother g hg hgb
   exact ⟨q1, k.used _ (h.file g hg).2.1, q2⟩
 ·rw [List.map_map, show ((fun f : Fl => f.b) ∘ Zci f0.b v d) = fun f : Fl => f.b from funext fun f => ZdH f]
  exact h.nd
 ·rw [List.map_map, show ((fun f : Fl => f.nm) ∘ Zci f0.b v d) = fun f : Fl => f.nm from funext fun f => ZhC f]
  exact h.nn
 ·obtain ⟨f, hf', rfl⟩ := List.mem_map.1 hf
  obtain ⟨g, hg', rfl⟩ := List.mem_map.1 hg
  rw [ZdH, ZdH]
  unfold Zci at hx hy
  by_cases hfb : f.b = f0.b <;> by_cases hgb : g.b = f0.b
  ·rw [hfb, hgb]
  ·rw [if_pos hfb] at hx
   rw [if_neg hgb] at hy
   rcases hnew x hx with q | q
   ·exact hfb.trans (h.far f0 hf0 g hg' x q hy)
   ·exact absurd ((h.file g hg').2.2.used hy) q.2
  ·rw [if_neg hfb] at hx
   rw [if_pos hgb] at hy
   rcases hnew x hy with q | q
   ·exact (h.far f hf' f0 hf0 x hx q).trans hgb.symm
   ·exact absurd ((h.file f hf').2.2.used hx) q.2
  ·rw [if_neg hfb] at hx
   rw [if_neg hgb] at hy
   exact h.far f hf' g hg' x hx hy
 ·rcases hq with hq | hq
  ·obtain ⟨all, hall⟩ := h.pc.blk hc
   exact ZcM hall p1 (by decide) hq
  ·obtain ⟨a1, h1⟩ := h.pc.blk hc
   obtain ⟨a2, h2⟩ := p3.blk hq
   exact ZcM h1 h2 (by decide) rfl
 ·obtain ⟨g, hg, rfl⟩ := List.mem_map.1 hf
  rw [ZdH]
  refine ⟨.inl (o3 g hg).1, fun x hx => ?_⟩
  unfold Zci at hx
  split at hx
  ·exact .inr hx
  ·exact .inl ((o3 g hg).2 x hx)
 ·obtain ⟨f, hf, e⟩ := h.inn p hp
  exact ⟨_, List.mem_map.2 ⟨f, hf, rfl⟩, by rw [ZdH]; exact e⟩
theorem DAt.setP (h : DAt σ bb S fs pcs size mb pv) {pv' : AV} {pcs' : List (Nat × Nat)} (k : But (fun c => c = bb \/ hbk pv = some c) σ τ) (hb : τ.blk bb = some (.own 65 [pv', Zc2 mb, .raw (.int .i64 size)])) (hv : Hd τ 80 2 pv' pcs'.length (pcC pcs')) (hin : ∀ p ∈ pcs', ∃ f ∈ fs, f.b = p.1) :
 DAt τ bb (fun c => S c \/ hbk pv' = some c) fs pcs' size mb pv' := by
 obtain ⟨o1, o2, o3, o4⟩ := h.own
 refine ⟨hb, k.used _ h.used, k.keep _ _ (fun hq => ?_) h.map, k.used _ h.umap, fun f hf => ?_, h.nd, h.nn, h.far, hv, ⟨.inl o1, .inl o2, fun f hf => ⟨.inl (o3 f hf).1, fun x hx => .inl ((o3 f hf).2 x hx)⟩, fun x hx => .inr hx⟩, hin⟩
 ·rcases hq with hq | hq
  ·exact Zcq h.obj h.map hq.symm
  ·obtain ⟨all, hall⟩ := h.pc.blk hq
   exact Zcq hall h.map rfl
 ·obtain ⟨q1, q2, q3⟩ := h.file f hf
  refine ⟨k.keep _ _ (fun hq => ?_) q1, k.used _ q2, q3.but k fun c hc hq => ?_⟩
  ·rcases hq with hq | hq
   ·exact ZcM h.obj q1 (by decide) hq.symm
   ·obtain ⟨all, hall⟩ := h.pc.blk hq
    exact ZcM hall q1 (by decide) rfl
  ·obtain ⟨a1, h1⟩ := q3.blk hc
   rcases hq with hq | hq
   ·exact ZcM h.obj h1 (by decide) hq.symm
   ·obtain ⟨a2, h2⟩ := h.pc.blk hq
    exact ZcM h1 h2 (by decide) rfl
theorem DAt.addF (h : DAt σ bb S fs pcs size mb pv) {nb : Nat} {nm : List UInt8} {v : AV} {d : List UInt8} (hn : Za0 σ nb) (k : But (fun c => c = mb \/ c = nb) σ τ) (hb : τ.blk nb = some (.own 78 [v])) (hu : τ.used nb) (hm : τ.blk mb = some (.map (Zea (Zbc (fs ++ [⟨nm, nb, v, d⟩]))))) (hv : Hd τ 5 1 v d.length (bys d)) (hnm : ∀ f ∈ fs, f.nm ≠ nm) (hvb : hbk v = none) :
 DAt τ bb (fun c => S c \/ c = nb) (fs ++ [⟨nm, nb, v, d⟩]) pcs size mb pv := by
 obtain ⟨o1, o2, o3, o4⟩ := h.own
 have hkeep : ∀ b t cs, σ.blk b = some (.own t cs) -> τ.blk b = some (.own t cs) := fun b t cs hb' => k.keep _ _ (fun hq => by
  rcases hq with hq | hq
  ·exact Zcq hb' h.map hq
  ·rw [hq, hn.1] at hb'; cases hb') hb'
 have hkeepH : ∀ {e sz n : Nat} {u : AV} {cs : List AV}, Hd σ e sz u n cs -> Hd τ e sz u n cs := fun {e sz n u cs} hu' => hu'.but k fun c hc hq => by
  obtain ⟨all, hall⟩ := hu'.blk hc
  rcases hq with hq | hq
  ·exact Zcq hall h.map hq
  ·rw [hq, hn.1] at hall; cases hall
 have hold : ∀ f ∈ fs, f.b ≠ nb := fun f hf e => by
  have := (h.file f hf).1
  rw [e, hn.1] at this
  cases this
 refine ⟨hkeep _ _ _ h.obj, k.used _ h.used, hm, k.used _ h.umap, fun f hf => ?_, ?_, ?_, fun f hf g hg x hx hy => ?_, hkeepH h.pc, ⟨.inl o1, .inl o2, fun f hf => ?_, fun x hx => .inl (o4 x hx)⟩, fun p hp => ?_⟩
 ·rcases List.mem_append.1 hf with hf | hf
  ·obtain ⟨q1, q2, q3⟩ := h.file f hf
   exact ⟨hkeep _ _ _ q1, k.used _ q2, hkeepH q3⟩
  ·rw [List.mem_singleton.1 hf]
   exact ⟨hb, hu, hv⟩
 ·rw [List.map_append, List.nodup_append]
  refine ⟨h.nd, by simp, fun a ha b hb' e => ?_⟩
  obtain ⟨f, hf, rfl⟩ := List.mem_map.1 ha
  simp at hb'
  exact hold f hf (e.trans hb')
 ·rw [List.map_append, List.nodup_append]
  refine ⟨h.nn, by simp, fun a ha b hb' e => ?_⟩
  obtain ⟨f, hf, rfl⟩ := List.mem_map.1 ha
  simp at hb'
  exact hnm f hf (e.trans hb')
 ·rcases List.mem_append.1 hf with hf | hf
  ·rcases List.mem_append.1 hg with hg | hg
   ·exact h.far f hf g hg x hx hy
   ·rw [List.mem_singleton.1 hg] at hy
    have hy : hbk v = some x := hy
    rw [hvb] at hy; cases hy
  ·rw [List.mem_singleton.1 hf] at hx
   have hx : hbk v = some x := hx
   rw [hvb] at hx; cases hx
 ·rcases List.mem_append.1 hf with hf | hf
  ·exact ⟨.inl (o3 f hf).1, fun x hx => .inl ((o3 f hf).2 x hx)⟩
  ·rw [List.mem_singleton.1 hf]
   refine ⟨.inr rfl, fun x hx => ?_⟩
   have hx : hbk v = some x := hx
   rw [hvb] at hx; cases hx
 ·obtain ⟨f, hf, e⟩ := h.inn p hp
  exact ⟨f, List.mem_append_left _ hf, e⟩
end
section
variable {P : Program} {ops : Array Oper} {env : Env} {σ τ : St} {K : Env -> St -> Prop} {d : Option Nat} {ty t : TypeId} {pos : String} {af : Array Edge} {x y : Operand} {e sz n u : Nat} {v : AV} {cells : List AV}
theorem Zf6 (hx : ev env x = v) (hy : ev env y = vI u) (ht : ZaX P t = some e) (hs : ZaO P e = some sz) (hown : Hd σ e sz v n cells) (hu : u <= n)
 (h : ∀ v', Hd σ e sz v' u (cells.take (u * sz)) -> (∀ c, hbk v' = some c -> hbk v = some c) -> K (env.put d v') σ) : aOp P ops ⟨d, .slice t x none (some y) none, ty, pos, af, none⟩ env σ K := by
 have hix : ((none : Option Operand).toList ++ (some y).toList).map (ev env) = [vI u] := by simp [hy]
 rcases hown.2.2 with ⟨hnil, hn⟩ | ⟨b, c, all, hc, rfl, g1, g2, g3, g4, g5, g6⟩
 ·have hu0 : u = 0 := by omega
  subst hu0
  rcases hnil with rfl | ⟨ad, rfl⟩
  ·refine Zlc (A := none) (n := 0) (c := 0) (l := 0) (u := 0) (cells := []) (cs := []) hx hix ht hs (Zld rfl) (Nat.le_refl _) (Nat.le_refl _) rfl fun A' hA' => ?_
   have hA' : A' = none := by rw [hA']; rfl
   subst hA'
   exact h _ ⟨by simp, by simp, .inl ⟨.inl rfl, rfl⟩⟩ fun c hc => hc
  ·refine Zet (A := some ad) (n := 0) (c := 0) (l := 0) (u := 0) hx hix ht hs (Zld rfl) (Nat.le_refl _) (Nat.le_refl _) ?_
   exact h _ ⟨by simp, by simp, .inl ⟨.inr ⟨ad, rfl⟩, rfl⟩⟩ fun c hc => hc
 ·refine Zet (A := some ⟨b, 0, none⟩) (n := n) (c := c) (l := 0) (u := u) hx hix ht hs (Zld rfl) (Nat.zero_le _) (by omega) ?_
  have hres : (AV.raw (.slice (if c = 0 then some (⟨b, 0, none⟩ : Addr) else (some (⟨b, 0, none⟩ : Addr)).map (·.add (0 * sz))) (u - 0) (c - 0))) = hdr b u c := by
   rw [if_neg (by omega), Nat.sub_zero, Nat.sub_zero]
   simp only [Option.map, Zcr, Nat.zero_mul, Nat.zero_add]
   rfl
  rw [hres]
  have hm : u * sz <= n * sz := Nat.mul_le_mul_right _ hu
  refine h _ ⟨?_, fun a ha => hown.one a (List.mem_of_mem_take ha), .inr ⟨b, c, all, hc, rfl, g1, g2, g3, ?_, by omega, g6⟩⟩ fun c' hc' => by rw [<- ZdB hc']; exact ZcU hc
  ·rw [List.length_take, hown.len]; omega
  ·rw [<- g4, List.take_take, Nat.min_eq_left hm]
end
end Go.Proofs.Ytinpiaibhjmfaaa
