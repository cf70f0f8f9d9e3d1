/- Arrays of ours are lent to a call that only reads; rows that a call tells, as arrays. -/
import Derived.Test.YtklmbkkeiihgdaaX16
namespace Go.Proofs.Ytklmbkkeiihgdaa
open Go.RowKit
set_option linter.unusedSimpArgs false
set_option maxRecDepth 100000
set_option linter.unusedVariables false
variable {T : Nat → Type}
def lendC (h : List (HI T)) : XV T → XV T
  | .as E i lo n co => match h[i]? with
    | some (.arr _ E' _ zs) => if hE : E' = E then .sl E (((hE ▸ zs : List (T E)).drop lo).take n) none else .junk
    | _ => .junk
  | v => v
def lendV (h : List (HI T)) : XV T → XV T
  | .agg l => .agg (l.map (lendC h))
  | v => lendC h v
def lendB (h : List (HI T)) : XV T → Bool
  | .as E i lo n co => match h[i]? with
    | some (.arr _ E' _ zs) => Nat.beq E' E && Nat.ble (lo + n) zs.length
    | _ => false
  | v => v.closed
def lendBV (h : List (HI T)) : XV T → Bool
  | .agg l => l.all (lendB h)
  | v => lendB h v
/-- A value without memory. -/
def XV.scal : XV T → Bool
  | .int _ _ | .bool _ | .str _ | .nilptr | .fn _ => true
  | _ => false
def XV.scal2 : XV T → Bool
  | .agg l => l.all XV.scal
  | v => v.scal
def XV.scal3 : XV T → Bool
  | .tup l => l.all XV.scal2
  | v => v.scal2
section
variable {C : Codec T} {P : Program} {N N' : Nat} {ρ ρ' : Nat → AV} {h : List (HI T)} {σ τ : St} {U U0 : Nat → Prop}
theorem scal_sv {v : XV T} {a : AV} (hs : v.scal = true) (h : SV C N ρ v a) : SV C N' ρ' v a ∧ ∀ w B, Valid w B a := by
  cases v with
  | int k n => rw [sv_int.1 h]; exact ⟨sv_int.2 rfl, fun w B => valid_raw _⟩
  | bool b => rw [sv_bool.1 h]; exact ⟨sv_bool.2 rfl, fun w B => valid_raw _⟩
  | str s => rw [sv_str.1 h]; exact ⟨sv_str.2 rfl, fun w B => valid_raw _⟩
  | nilptr => rw [sv_nilptr.1 h]; exact ⟨sv_nilptr.2 rfl, fun w B => valid_raw _⟩
  | fn f => rw [sv_fn.1 h]; exact ⟨sv_fn.2 rfl, fun w B => valid_raw _⟩
  | _ => cases hs
theorem scals_sv : ∀ {l : List (XV T)} {as_ : List AV}, l.all XV.scal = true → SVs C N ρ l as_ → SVs C N' ρ' l as_ ∧ ∀ w B, ∀ a ∈ as_, Valid w B a
  | [], as_, _, h => by rw [SVs_nil.1 h]; exact ⟨.none, by simp⟩
  | v :: l, as_, hs, h => by
    rw [List.all_cons, Bool.and_eq_true] at hs
    obtain ⟨a, bs, rfl, h1, h2⟩ := h.to
    obtain ⟨g1, g2⟩ := scal_sv (N' := N') (ρ' := ρ') hs.1 h1
    obtain ⟨g3, g4⟩ := scals_sv hs.2 h2
    exact ⟨.cons g1 g3, fun w B x hx => by
      rcases List.mem_cons.1 hx with rfl | hx
      · exact g2 w B
      · exact g4 w B x hx⟩
theorem scal2_sv {v : XV T} {a : AV} (hs : v.scal2 = true) (h : SV C N ρ v a) : SV C N' ρ' v a ∧ ∀ w B, Valid w B a := by
  by_cases hv : ∃ l, v = .agg l
  · obtain ⟨l, rfl⟩ := hv
    obtain ⟨ls, rfl, h1⟩ := sv_agg.1 h
    obtain ⟨g1, g2⟩ := scals_sv (N' := N') (ρ' := ρ') hs h1
    exact ⟨sv_agg.2 ⟨ls, rfl, g1⟩, fun w B => by unfold Valid; exact Valids.iff.2 (g2 w B)⟩
  · refine scal_sv ?_ h
    cases v <;> first | exact hs | exact absurd ⟨_, rfl⟩ hv
theorem scals2_sv : ∀ {l : List (XV T)} {as_ : List AV}, l.all XV.scal2 = true → SVs C N ρ l as_ → SVs C N' ρ' l as_ ∧ ∀ w B, ∀ a ∈ as_, Valid w B a
  | [], as_, _, h => by rw [SVs_nil.1 h]; exact ⟨.none, by simp⟩
  | v :: l, as_, hs, h => by
    rw [List.all_cons, Bool.and_eq_true] at hs
    obtain ⟨a, bs, rfl, h1, h2⟩ := h.to
    obtain ⟨g1, g2⟩ := scal2_sv (N' := N') (ρ' := ρ') hs.1 h1
    obtain ⟨g3, g4⟩ := scals2_sv hs.2 h2
    exact ⟨.cons g1 g3, fun w B x hx => by
      rcases List.mem_cons.1 hx with rfl | hx
      · exact g2 w B
      · exact g4 w B x hx⟩
theorem scal3_sv {v : XV T} {a : AV} (hs : v.scal3 = true) (h : SV C N ρ v a) : SV C N' ρ' v a ∧ ∀ w B, Valid w B a := by
  by_cases hv : ∃ l, v = .tup l
  · obtain ⟨l, rfl⟩ := hv
    obtain ⟨ls, rfl, h1⟩ := sv_tup.1 h
    obtain ⟨g1, g2⟩ := scals2_sv (N' := N') (ρ' := ρ') hs h1
    exact ⟨sv_tup.2 ⟨ls, rfl, g1⟩, fun w B => by unfold Valid; exact Valids.iff.2 (g2 w B)⟩
  · refine scal2_sv ?_ h
    cases v <;> first | exact hs | exact absurd ⟨_, rfl⟩ hv
theorem Hp.toExt (H : Hp C ρ h σ) (hX : Ext σ τ) : Hp C ρ h τ := by
  refine ⟨fun i x hx => ?_, H.dist⟩
  have := H.it i x hx
  cases x with
  | obj t' cs' =>
    obtain ⟨b', acs', h1, h2, h3, h4⟩ := this
    exact ⟨b', acs', h1, hX.keep _ _ h2, hX.used _ h3, h4⟩
  | mmap K V es =>
    obtain ⟨b', h1, h2, h3⟩ := this
    exact ⟨b', h1, hX.keep _ _ h2, hX.used _ h3⟩
  | arr e E kp xs =>
    rcases this with ⟨b', K', pre, rest, h1, h2, h3, h4⟩ | ⟨h1, h2⟩
    · exact .inl ⟨b', K', pre, rest, h1, hX.keep _ _ h2, hX.used _ h3, h4⟩
    · exact .inr ⟨h1, h2⟩
  | row e sz =>
    obtain ⟨n, cs', ho⟩ := this
    exact ⟨n, cs', ho.ext hX⟩
  | gen E x => exact C.gsh_but _ _ _ _ _ (fun _ => False) this hX.but (fun _ _ hf => hf)
  | dead => trivial
/-- The blocks of arrays of ours. -/
def ArrB (ρ : Nat → AV) (h : List (HI T)) (b : Nat) : Prop := ∃ i e E kp zs, h[i]? = some (.arr e E kp zs) ∧ (ρ i).owns b
theorem arrB_own (H : Hp C ρ h σ) {b : Nat} (hb : ArrB ρ h b) : ∃ e cs, σ.blk b = some (.own e cs) ∧ σ.used b := by
  obtain ⟨i, e, E, kp, zs, hi, hρ⟩ := hb
  rcases H.it i _ hi with ⟨b', K', pre, rest, h1, h2, h3, h4⟩ | ⟨h1, h2⟩
  · rw [h1] at hρ; injection hρ with hρ; subst hρ; exact ⟨_, _, h2, h3⟩
  · rw [h1] at hρ; cases hρ
open Classical in
noncomputable def lentSt (ρ : Nat → AV) (h : List (HI T)) (σ : St) : St := ⟨fun b => if ArrB ρ h b then none else σ.blk b, σ.used, by
  obtain ⟨n, hn⟩ := σ.fin
  refine ⟨n, fun b hb => ⟨(hn b hb).1, ?_⟩⟩
  rw [(hn b hb).2]; simp⟩
theorem lent_in {b : Nat} (hb : ArrB ρ h b) : (lentSt ρ h σ).blk b = none := by unfold lentSt; dsimp only; rw [if_pos hb]
theorem lent_out {b : Nat} (hb : ¬ ArrB ρ h b) : (lentSt ρ h σ).blk b = σ.blk b := by unfold lentSt; dsimp only; rw [if_neg hb]
theorem lent_free (H : Hp C ρ h σ) {Z : Nat → Prop} {b o : Nat} (hf : σ.free Z b o) : (lentSt ρ h σ).free Z b o := by
  obtain ⟨h1, h2, h3⟩ := hf
  refine ⟨h1, h2, ?_⟩
  by_cases hb : ArrB ρ h b
  · rw [lent_in hb]; trivial
  · rw [lent_out hb]; exact h3
theorem lent_ok (H : Hp C ρ h σ) {w : World} {Z : Nat → Prop} (hH : HeapOk w σ Z) : HeapOk w (lentSt ρ h σ) Z := by
  refine ⟨hH.used, fun b hz => ⟨(hH.z b hz).1, ?_⟩, fun b t cs hb => ?_, fun b t k s hb => ?_, fun b es hb => ?_⟩
  · by_cases hb : ArrB ρ h b
    · exact lent_in hb
    · rw [lent_out hb]; exact (hH.z b hz).2
  · by_cases hg : ArrB ρ h b
    · rw [lent_in hg] at hb; cases hb
    · rw [lent_out hg] at hb
      obtain ⟨g1, g2, g3⟩ := hH.own _ _ _ hb
      exact ⟨g1, g2, fun c hc => (g3 c hc).sub fun b o => lent_free H⟩
  · by_cases hg : ArrB ρ h b
    · rw [lent_in hg] at hb; cases hb
    · rw [lent_out hg] at hb
      exact hH.tail _ _ _ _ hb
  · by_cases hg : ArrB ρ h b
    · rw [lent_in hg] at hb; cases hb
    · rw [lent_out hg] at hb
      exact hH.map _ _ hb
/-- One argument, lent. -/
theorem lendC_sv (H : Hp C ρ h σ) {w : World} {Z : Nat → Prop} (hH : HeapOk w σ Z) {v : XV T} {a : AV} (hb : lendB h v = true) (hs : SV C h.length ρ v a) (hv : Valid w (σ.free Z) a) :
    ∃ a', a'.val = a.val ∧ SV C 0 ρ (lendC h v) a' ∧ Valid w ((lentSt ρ h σ).free Z) a' := by
  by_cases hc : ∃ E i lo n co, v = .as E i lo n co
  · obtain ⟨E, i, lo, n, co, rfl⟩ := hc
    simp only [lendB] at hb
    simp only [lendC]
    split at hb
    · rename_i e E' kp zs hi
      rw [Bool.and_eq_true] at hb
      have hE := Nat.eq_of_beq_eq_true hb.1
      have hle := Nat.le_of_ble_eq_true hb.2
      subst hE
      rw [dif_pos rfl]
      have hlen : ((zs.drop lo).take n).length = n := by rw [List.length_take, List.length_drop]; omega
      rcases sv_as.1 hs with ⟨ad, c, rfl, hA⟩ | ⟨rfl, rfl, hiN, hρi, hco⟩
      · obtain ⟨b, q1, q2⟩ := hA.at_
        obtain ⟨pre, rest, hb2, hb3, hb4, hb5, hb6⟩ := H.arrAt hi q1
        have hsz := C.pos E'
        have hsl : ∀ a, SV C 0 ρ (.sl E' ((zs.drop lo).take n) none) a ↔ _ := fun a => sv_sl (C := C) (N := 0) (ρ := ρ) (E := E') (xs := (zs.drop lo).take n) (a := a)
        rw [hlen] at hsl
        by_cases hc0 : c = 0
        · have hn0 : n = 0 := by have := hA.le; omega
          subst hn0
          refine ⟨.lst (some ad) 0 c [], by simp, (hsl _).2 ⟨some ad, c, [], [], rfl, hA.le, hA.max, hA.len, (fun e => by cases e), by simp only [List.take_zero]; exact .none⟩, ?_⟩
          unfold Valid
          exact ⟨hA.le, (fun e => by cases e), fun ad' _ => ValidAt.mk fun j q hq => by simp at hq⟩
        · have had := q2 (by omega)
          subst had
          have hpl := (hb4 0 ρ).len
          rw [enc_len] at hpl
          have hG : ArrB ρ h b := ⟨i, e, E', kp, zs, hi, by rw [q1]; rfl⟩
          have hsv : SVs C 0 ρ (((zs.drop lo).take n).flatMap (C.enc E')) ((pre.drop (lo * C.sz E')).take (n * C.sz E')) := by
            have := ((hb4 0 ρ).drop (lo * C.sz E')).take (n * C.sz E')
            rw [enc_drop, enc_take] at this
            exact this
          refine ⟨.lst (some ⟨b, lo * C.sz E', none⟩) n c (((pre.drop (lo * C.sz E')).take (n * C.sz E')) ++ []), by simp, (hsl _).2 ⟨_, c, _, [], rfl, hA.le, hA.max, hA.len, (fun e => by cases e), hsv⟩, ?_⟩
          unfold Valid
          refine ⟨hA.le, (fun e => by cases e), fun ad' had' => ?_⟩
          injection had' with had'
          subst had'
          rw [List.append_nil]
          refine ValidAt.mk fun j q hq => ?_
          rw [Nat.zero_add]
          have hq1 : (pre ++ rest)[lo * C.sz E' + j]? = some q := by
            rw [List.getElem?_take] at hq
            split at hq
            · rw [List.getElem?_drop] at hq
              rw [List.getElem?_append_left (lt_of_get hq)]
              exact hq
            · cases hq
          obtain ⟨o1, o2, o3⟩ := hH.own _ _ _ hb2
          have hcell := own_cells hH hb2 (lo * C.sz E') j hq1
          refine ⟨hcell, ⟨fun hz => ?_, o1, ?_⟩, (o3 q (List.mem_of_getElem? hq1)).sub fun b o => lent_free H⟩
          · have := (hH.z _ hz).2
            rw [hb2] at this; cases this
          · rw [lent_in hG]; trivial
      · refine ⟨.lst none 0 0 [], rfl, ?_, valid_nil_⟩
        rw [List.take_zero]
        exact sv_sl.2 ⟨none, 0, [], [], rfl, Nat.le_refl _, Nat.zero_le _, Nat.zero_le _, fun _ => ⟨rfl, rfl⟩, .none⟩
    · cases hb
  · have hcl : v.closed = true := by
      cases v <;> first | exact hb | exact absurd ⟨_, _, _, _, _, rfl⟩ hc
    have hsame : lendC h v = v := by
      cases v <;> first | rfl | exact absurd ⟨_, _, _, _, _, rfl⟩ hc
    rw [hsame]
    exact ⟨a, rfl, SVs.shut hs (by intro x hx; simp at hx; subst hx; exact hcl), hv.sub fun b o => lent_free H⟩
theorem lendCs_sv (H : Hp C ρ h σ) {w : World} {Z : Nat → Prop} (hH : HeapOk w σ Z) : ∀ {l : List (XV T)} {as_ : List AV}, l.all (lendB h) = true → SVs C h.length ρ l as_ → (∀ a ∈ as_, Valid w (σ.free Z) a) →
    ∃ bs : List AV, bs.map AV.val = as_.map AV.val ∧ SVs C 0 ρ (l.map (lendC h)) bs ∧ ∀ a ∈ bs, Valid w ((lentSt ρ h σ).free Z) a
  | [], as_, _, hs, _ => by rw [SVs_nil.1 hs]; exact ⟨[], rfl, .none, by simp⟩
  | v :: l, as_, hb, hs, hv => by
    rw [List.all_cons, Bool.and_eq_true] at hb
    obtain ⟨a, cs, rfl, h1, h2⟩ := hs.to
    obtain ⟨a', g1, g2, g3⟩ := lendC_sv H hH hb.1 h1 (hv a List.mem_cons_self)
    obtain ⟨bs, q1, q2, q3⟩ := lendCs_sv H hH hb.2 h2 (fun x hx => hv x (List.mem_cons_of_mem _ hx))
    refine ⟨a' :: bs, by rw [List.map_cons, List.map_cons, g1, q1], .cons g2 q2, fun x hx => ?_⟩
    rcases List.mem_cons.1 hx with rfl | hx
    · exact g3
    · exact q3 x hx
theorem lendV_sv (H : Hp C ρ h σ) {w : World} {Z : Nat → Prop} (hH : HeapOk w σ Z) {v : XV T} {a : AV} (hb : lendBV h v = true) (hs : SV C h.length ρ v a) (hv : Valid w (σ.free Z) a) :
    ∃ a', a'.val = a.val ∧ SV C 0 ρ (lendV h v) a' ∧ Valid w ((lentSt ρ h σ).free Z) a' := by
  by_cases hc : ∃ l, v = .agg l
  · obtain ⟨l, rfl⟩ := hc
    obtain ⟨ls, rfl, h1⟩ := sv_agg.1 hs
    unfold Valid at hv
    obtain ⟨bs, q1, q2, q3⟩ := lendCs_sv H hH hb h1 (Valids.iff.1 hv)
    exact ⟨.agg bs, by simp [q1], sv_agg.2 ⟨bs, rfl, q2⟩, by unfold Valid; exact Valids.iff.2 q3⟩
  · have e1 : lendBV h v = lendB h v := by cases v <;> first | rfl | exact absurd ⟨_, rfl⟩ hc
    have e2 : lendV h v = lendC h v := by cases v <;> first | rfl | exact absurd ⟨_, rfl⟩ hc
    rw [e1] at hb
    rw [e2]
    exact lendC_sv H hH hb hs hv
theorem lendVs_sv (H : Hp C ρ h σ) {w : World} {Z : Nat → Prop} (hH : HeapOk w σ Z) : ∀ {l : List (XV T)} {as_ : List AV}, l.all (lendBV h) = true → SVs C h.length ρ l as_ → (∀ a ∈ as_, Valid w (σ.free Z) a) →
    ∃ bs : List AV, bs.map AV.val = as_.map AV.val ∧ SVs C 0 ρ (l.map (lendV h)) bs ∧ ∀ a ∈ bs, Valid w ((lentSt ρ h σ).free Z) a
  | [], as_, _, hs, _ => by rw [SVs_nil.1 hs]; exact ⟨[], rfl, .none, by simp⟩
  | v :: l, as_, hb, hs, hv => by
    rw [List.all_cons, Bool.and_eq_true] at hb
    obtain ⟨a, cs, rfl, h1, h2⟩ := hs.to
    obtain ⟨a', g1, g2, g3⟩ := lendV_sv H hH hb.1 h1 (hv a List.mem_cons_self)
    obtain ⟨bs, q1, q2, q3⟩ := lendVs_sv H hH hb.2 h2 (fun x hx => hv x (List.mem_cons_of_mem _ hx))
    refine ⟨a' :: bs, by rw [List.map_cons, List.map_cons, g1, q1], .cons g2 q2, fun x hx => ?_⟩
    rcases List.mem_cons.1 hx with rfl | hx
    · exact g3
    · exact q3 x hx
/-- A call that only reads is lent arrays of ours. -/
theorem Tr.lend {f : FuncId} {args : List (XV T)} {r : XV T} (h1 : Tr C P U0 f (args.map (lendV h)) [] r []) (hok : args.all (lendBV h) = true) (hr : r.scal3 = true) : Tr C P U f args h r h := by
  intro ρ σ vs hs H w Z hH hV
  obtain ⟨bs, e1, e2, e3⟩ := lendVs_sv H hH hok hs hV
  have H0 : Hp C ρ ([] : List (HI T)) (lentSt ρ h σ) := ⟨fun i x hx => by simp at hx, fun i j x y b hx => by simp at hx⟩
  have hc := h1 ρ (lentSt ρ h σ) bs e2 H0 w Z (lent_ok H hH) e3
  rw [e1] at hc
  refine hc.mono ?_
  rintro y w' ⟨rv, τ, rfl, ⟨ρ', hrv, _, R⟩, hH', _, hG⟩
  obtain ⟨s1, s2⟩ := scal3_sv (N' := h.length) (ρ' := ρ) hr hrv
  have hused : ∀ b, σ.used b → τ.used b := R.but.used
  have hkeep : ∀ b k, ¬ ArrB ρ h b → σ.blk b = some k → τ.blk b = some k := fun b k hb hk => R.but.keep b k (fun ⟨i, x, _, hx, _⟩ => by simp at hx) (by rw [lent_out hb]; exact hk)
  have hnarr : ∀ b t k s, σ.blk b = some (.tail t k s) → ¬ ArrB ρ h b := fun b t k s hb hg => by
    obtain ⟨e, cs, q, _⟩ := arrB_own H hg
    rw [hb] at q; cases q
  let υ : St := ⟨σ.blk, τ.used, by
    obtain ⟨n, hn⟩ := σ.fin
    obtain ⟨m, hm⟩ := τ.fin
    exact ⟨n + m, fun b hb => ⟨(hm b (by omega)).1, (hn b (by omega)).2⟩⟩⟩
  have hG2 : Grow w σ w' υ := by
    refine ⟨hG.os, hG.tape, hG.output, hG.size, hG.used, fun b hb hn => ⟨(hG.rest b hb ?_).1, hn⟩, fun b t k s hb ht => ⟨(hG.tail b t k s hb (by rw [lent_out (hnarr _ _ _ _ ht)]; exact ht)).1, .inr ⟨t, k, s, ht, Nat.le_refl _⟩⟩, hused⟩
    by_cases hg : ArrB ρ h b
    · exact lent_in hg
    · rw [lent_out hg]; exact hn
  have hX : Ext σ υ := ⟨fun _ _ h => h, hused⟩
  refine ⟨rv, υ, rfl, ⟨ρ, s1, H.toExt hX, ⟨Nat.le_refl _, fun _ _ => rfl, hX.but, fun b hb => .inl hb⟩⟩, ⟨hH'.used, fun b hz => ⟨(hH'.z b hz).1, (hH.z b hz).2⟩, fun b t cs hb => ?_, fun b t k s hb => ?_, fun b es hb => ?_⟩, s2 _ _, hG2⟩
  · obtain ⟨g1, g2, g3⟩ := hH.own _ _ _ hb
    refine ⟨hused _ g1, ?_, fun c hc => hG2.valid (g3 c hc)⟩
    by_cases hg : ArrB ρ h b
    · exact (hG.rest b (hH.used _ g1) (lent_in hg)).1.trans g2
    · exact (hH'.own _ _ _ (hkeep b _ hg hb)).2.1
  · obtain ⟨g1, g2⟩ := hH'.tail _ _ _ _ (hkeep b _ (hnarr _ _ _ _ hb) hb)
    exact ⟨hused _ (hH.tail _ _ _ _ hb).1, g2⟩
  · have hna : ¬ ArrB ρ h b := fun hg => by
      obtain ⟨e, cs, q, _⟩ := arrB_own H hg
      rw [hb] at q; cases q
    obtain ⟨g1, g2⟩ := hH'.map _ _ (hkeep b _ hna hb)
    exact ⟨hused _ (hH.map _ _ hb).1, g2⟩
/-- Rows that are told, as arrays. -/
def toA : XV T → XV T
  | .sl E xs (some i) => .as E i 0 xs.length none
  | v => v
def toA2 : XV T → XV T
  | .agg l => .agg (l.map toA)
  | v => toA v
def toA3 : XV T → XV T
  | .tup l => .tup (l.map toA2)
  | v => toA2 v
def leaf : XV T → Bool
  | .sl _ _ (some _) => true
  | v => v.scal
def leaf2 : XV T → Bool
  | .agg l => l.all leaf
  | v => leaf v
def leaf3 : XV T → Bool
  | .tup l => l.all leaf2
  | v => leaf2 v
def hasC (E i : Nat) (xs : List (T E)) : XV T → Prop
  | .sl E' xs' (some j) => j = i ∧ (⟨E', xs'⟩ : (E : Nat) × List (T E)) = ⟨E, xs⟩
  | _ => False
def has2 (E i : Nat) (xs : List (T E)) : XV T → Prop
  | .agg l => ∃ v ∈ l, hasC E i xs v
  | v => hasC E i xs v
def has3 (E i : Nat) (xs : List (T E)) : XV T → Prop
  | .tup l => ∃ v ∈ l, has2 E i xs v
  | v => has2 E i xs v
theorem hasC_sv {E i : Nat} {xs : List (T E)} {v : XV T} {a : AV} (hb : hasC E i xs v) (hs : SV C N ρ v a) : SV C N ρ (.sl E xs none) (ρ i) := by
  unfold hasC at hb
  split at hb
  · obtain ⟨rfl, h2⟩ := hb
    cases h2
    obtain ⟨rfl, _, h3⟩ := sv_own.1 hs
    exact h3
  · exact hb.elim
theorem mem_sv {l : List (XV T)} {as_ : List AV} (hs : SVs C N ρ l as_) {v : XV T} (hv : v ∈ l) : ∃ a, SV C N ρ v a := by
  obtain ⟨i, hi⟩ := List.getElem?_of_mem hv
  obtain ⟨a, _, h⟩ := hs.get hi
  exact ⟨a, h⟩
theorem has2_sv {E i : Nat} {xs : List (T E)} {v : XV T} {a : AV} (hb : has2 E i xs v) (hs : SV C N ρ v a) : SV C N ρ (.sl E xs none) (ρ i) := by
  unfold has2 at hb
  split at hb
  · obtain ⟨u, hu, hb⟩ := hb
    obtain ⟨ls, rfl, h1⟩ := sv_agg.1 hs
    obtain ⟨b, h2⟩ := mem_sv h1 hu
    exact hasC_sv hb h2
  · exact hasC_sv hb hs
theorem has3_sv {E i : Nat} {xs : List (T E)} {v : XV T} {a : AV} (hb : has3 E i xs v) (hs : SV C N ρ v a) : SV C N ρ (.sl E xs none) (ρ i) := by
  unfold has3 at hb
  split at hb
  · obtain ⟨u, hu, hb⟩ := hb
    obtain ⟨ls, rfl, h1⟩ := sv_tup.1 hs
    obtain ⟨b, h2⟩ := mem_sv h1 hu
    exact has2_sv hb h2
  · exact has2_sv hb hs
/-- Cells without memory: as they lie. -/
theorem scals_raw : ∀ {l : List (XV T)} {as_ : List AV}, l.all XV.scal = true → SVs C N ρ l as_ → as_ = (as_.map AV.val).map AV.raw
  | [], as_, _, h => by rw [SVs_nil.1 h]; rfl
  | v :: l, as_, hs, h => by
    rw [List.all_cons, Bool.and_eq_true] at hs
    obtain ⟨a, bs, rfl, h1, h2⟩ := h.to
    have ih := scals_raw hs.2 h2
    have ha : a = AV.raw a.val := by
      cases v with
      | int k n => rw [sv_int.1 h1]; simp
      | bool b => rw [sv_bool.1 h1]; simp
      | str s => rw [sv_str.1 h1]; simp
      | nilptr => rw [sv_nilptr.1 h1]; simp
      | fn f => rw [sv_fn.1 h1]; simp
      | _ => cases hs.1
    rw [List.map_cons, List.map_cons, ← ih, ← ha]
/-- A list's value, as an array. -/
def rA : AV → AV
  | .lst (some ad) _ c _ => ab ad.block c
  | _ => .lst none 0 0 []
def vA : AV → AV
  | .lst (some ad) n c _ => .raw (.slice (some ad) n c)
  | a => a
theorem rA_blk (a : AV) : ∀ g, (rA a).owns g → a.owns g := by
  intro g hg
  unfold rA at hg
  split at hg
  · exact hg
  · cases hg
theorem vA_val (a : AV) : (vA a).val = a.val := by
  unfold vA
  split
  · simp
  · rfl
section
variable {n m : Nat}
/-- What is known of the rows that are told. -/
def RowsAt (τ : St) (ρ : Nat → AV) (n : Nat) : Prop := ∀ i, i < n → ∃ e sz k cells, Own τ e sz (ρ i) k cells
theorem leafA (hR : RowsAt τ ρ n) (hnm : n ≤ m) {v : XV T} {a : AV} (hb : leaf v = true) (hs : SV C n ρ v a) : SV C m (fun i => rA (ρ i)) (toA v) (vA a) ∧ ∀ w B, Valid w B (vA a) := by
  by_cases hc : ∃ E xs i, v = .sl E xs (some i)
  · obtain ⟨E, xs, i, rfl⟩ := hc
    obtain ⟨rfl, hi, h2⟩ := sv_own.1 hs
    obtain ⟨e, sz, k, cells, hl, ho⟩ := hR i hi
    obtain ⟨A, c, cs, rest, ea, l1, l2, l3, l4, l5⟩ := sv_sl.1 h2
    rcases ho with ⟨ho, _⟩ | ⟨g, c', ho, o1, o2, _, _⟩
    · rw [ho] at ea
      injection ea with e1 e2 e3 e4
      have hx : xs = [] := List.eq_nil_of_length_eq_zero e2.symm
      subst hx
      rw [ho]
      refine ⟨sv_as.2 (.inr ⟨rfl, rfl, by omega, by rw [ho]; rfl, fun c' hc => by cases hc⟩), fun w B => valid_nil_⟩
    · rw [ho] at ea
      injection ea with e1 e2 e3 e4
      subst e2 e3
      rw [ho]
      refine ⟨sv_as.2 (.inl ⟨_, _, rfl, by omega, o1, o2, l3, ⟨g, by rw [Nat.zero_add, ho]; rfl, fun _ => by rw [Nat.zero_mul]⟩, fun c'' hc => by cases hc⟩), fun w B => valid_raw _⟩
  · have hsc : v.scal = true := by
      cases v with
      | sl E xs o => cases o with
        | none => cases hb
        | some i => exact absurd ⟨_, _, _, rfl⟩ hc
      | _ => exact hb
    have hsame : toA v = v := by
      cases v with
      | sl E xs o => cases o with
        | none => rfl
        | some i => exact absurd ⟨_, _, _, rfl⟩ hc
      | _ => rfl
    have hraw := scals_raw (l := [v]) (as_ := [a]) (by simp [hsc]) hs
    simp only [List.map_cons, List.map_nil, List.cons.injEq, and_true] at hraw
    rw [hsame, hraw]
    refine ⟨?_, fun w B => valid_raw _⟩
    have : vA (AV.raw a.val) = a := by rw [← hraw]; rw [hraw]; rfl
    rw [this]
    exact (scal_sv hsc hs).1
theorem leavesA (hR : RowsAt τ ρ n) (hnm : n ≤ m) : ∀ {l : List (XV T)} {as_ : List AV}, l.all leaf = true → SVs C n ρ l as_ → SVs C m (fun i => rA (ρ i)) (l.map toA) (as_.map vA) ∧ ∀ w B, ∀ a ∈ as_.map vA, Valid w B a
  | [], as_, _, h => by rw [SVs_nil.1 h]; exact ⟨.none, by simp⟩
  | v :: l, as_, hs, h => by
    rw [List.all_cons, Bool.and_eq_true] at hs
    obtain ⟨a, bs, rfl, h1, h2⟩ := h.to
    obtain ⟨g1, g2⟩ := leafA hR hnm hs.1 h1
    obtain ⟨g3, g4⟩ := leavesA hR hnm hs.2 h2
    exact ⟨.cons g1 g3, fun w B x hx => by
      rcases List.mem_cons.1 hx with rfl | hx
      · exact g2 w B
      · exact g4 w B x hx⟩
def vA2 : AV → AV
  | .agg l => .agg (l.map vA)
  | a => vA a
theorem leaf2A (hR : RowsAt τ ρ n) (hnm : n ≤ m) {v : XV T} {a : AV} (hb : leaf2 v = true) (hs : SV C n ρ v a) : SV C m (fun i => rA (ρ i)) (toA2 v) (vA2 a) ∧ (∀ w B, Valid w B (vA2 a)) ∧ (vA2 a).val = a.val := by
  by_cases hc : ∃ l, v = .agg l
  · obtain ⟨l, rfl⟩ := hc
    obtain ⟨ls, rfl, h1⟩ := sv_agg.1 hs
    obtain ⟨g1, g2⟩ := leavesA hR hnm hb h1
    exact ⟨sv_agg.2 ⟨_, rfl, g1⟩, fun w B => by unfold vA2 Valid; exact Valids.iff.2 (g2 w B), by simp [vA2, Function.comp_def, vA_val]⟩
  · have e1 : leaf2 v = leaf v := by cases v <;> first | rfl | exact absurd ⟨_, rfl⟩ hc
    have e2 : toA2 v = toA v := by cases v <;> first | rfl | exact absurd ⟨_, rfl⟩ hc
    rw [e1] at hb
    obtain ⟨g1, g2⟩ := leafA hR hnm hb hs
    have e3 : vA2 a = vA a := by
      cases a with
      | agg l =>
        exfalso
        cases v with
        | int k n => have := sv_int.1 hs; cases this
        | bool b => have := sv_bool.1 hs; cases this
        | str s => have := sv_str.1 hs; cases this
        | nilptr => have := sv_nilptr.1 hs; cases this
        | fn f => have := sv_fn.1 hs; cases this
        | sl E xs o => obtain ⟨_, _, _, _, h, _⟩ := sv_list hs; cases h
        | _ => cases hb
      | _ => rfl
    rw [e2, e3]
    exact ⟨g1, g2, vA_val a⟩
theorem leaves2A (hR : RowsAt τ ρ n) (hnm : n ≤ m) : ∀ {l : List (XV T)} {as_ : List AV}, l.all leaf2 = true → SVs C n ρ l as_ → SVs C m (fun i => rA (ρ i)) (l.map toA2) (as_.map vA2) ∧ (∀ w B, ∀ a ∈ as_.map vA2, Valid w B a) ∧ (as_.map vA2).map AV.val = as_.map AV.val
  | [], as_, _, h => by rw [SVs_nil.1 h]; exact ⟨.none, by simp, rfl⟩
  | v :: l, as_, hs, h => by
    rw [List.all_cons, Bool.and_eq_true] at hs
    obtain ⟨a, bs, rfl, h1, h2⟩ := h.to
    obtain ⟨g1, g2, g5⟩ := leaf2A hR hnm hs.1 h1
    obtain ⟨g3, g4, g6⟩ := leaves2A hR hnm hs.2 h2
    exact ⟨.cons g1 g3, fun w B x hx => by
      rcases List.mem_cons.1 hx with rfl | hx
      · exact g2 w B
      · exact g4 w B x hx, by rw [List.map_cons, List.map_cons, List.map_cons, g5, g6]⟩
def vA3 : AV → AV
  | .tup l => .tup (l.map vA2)
  | a => vA2 a
theorem leaf3A (hR : RowsAt τ ρ n) (hnm : n ≤ m) {v : XV T} {a : AV} (hb : leaf3 v = true) (hs : SV C n ρ v a) : SV C m (fun i => rA (ρ i)) (toA3 v) (vA3 a) ∧ (∀ w B, Valid w B (vA3 a)) ∧ (vA3 a).val = a.val := by
  by_cases hc : ∃ l, v = .tup l
  · obtain ⟨l, rfl⟩ := hc
    obtain ⟨ls, rfl, h1⟩ := sv_tup.1 hs
    obtain ⟨g1, g2, g3⟩ := leaves2A hR hnm hb h1
    refine ⟨sv_tup.2 ⟨_, rfl, g1⟩, fun w B => by unfold vA3 Valid; exact Valids.iff.2 (g2 w B), ?_⟩
    unfold vA3
    rw [AV.val_tup, AV.val_tup, g3]
  · have e1 : leaf3 v = leaf2 v := by cases v <;> first | rfl | exact absurd ⟨_, rfl⟩ hc
    have e2 : toA3 v = toA2 v := by cases v <;> first | rfl | exact absurd ⟨_, rfl⟩ hc
    rw [e1] at hb
    have e3 : vA3 a = vA2 a := by
      cases a with
      | tup l =>
        exfalso
        cases v with
        | int k n => have := sv_int.1 hs; cases this
        | bool b => have := sv_bool.1 hs; cases this
        | str s => have := sv_str.1 hs; cases this
        | nilptr => have := sv_nilptr.1 hs; cases this
        | fn f => have := sv_fn.1 hs; cases this
        | sl E xs o => obtain ⟨_, _, _, _, h, _⟩ := sv_list hs; cases h
        | agg l' => obtain ⟨_, h, _⟩ := sv_agg.1 hs; cases h
        | _ => cases hb
      | _ => rfl
    rw [e2, e3]
    exact leaf2A hR hnm hb hs
end
theorem hasC_val {w : World} {B : Nat → Nat → Prop} {E i : Nat} {xs : List (T E)} {v : XV T} {a : AV} (hb : hasC E i xs v) (hs : SV C N ρ v a) (hv : Valid w B a) : Valid w B (ρ i) := by
  unfold hasC at hb
  split at hb
  · obtain ⟨rfl, h2⟩ := hb
    rw [← (sv_own.1 hs).1]; exact hv
  · exact hb.elim
theorem mem_sv2 {l : List (XV T)} {as_ : List AV} (hs : SVs C N ρ l as_) {v : XV T} (hv : v ∈ l) : ∃ a ∈ as_, SV C N ρ v a := by
  obtain ⟨i, hi⟩ := List.getElem?_of_mem hv
  obtain ⟨a, h1, h⟩ := hs.get hi
  exact ⟨a, List.mem_of_getElem? h1, h⟩
theorem has2_val {w : World} {B : Nat → Nat → Prop} {E i : Nat} {xs : List (T E)} {v : XV T} {a : AV} (hb : has2 E i xs v) (hs : SV C N ρ v a) (hv : Valid w B a) : Valid w B (ρ i) := by
  unfold has2 at hb
  split at hb
  · obtain ⟨u, hu, hb⟩ := hb
    obtain ⟨ls, rfl, h1⟩ := sv_agg.1 hs
    obtain ⟨b, hm, h2⟩ := mem_sv2 h1 hu
    unfold Valid at hv
    exact hasC_val hb h2 (Valids.iff.1 hv b hm)
  · exact hasC_val hb hs hv
theorem has3_val {w : World} {B : Nat → Nat → Prop} {E i : Nat} {xs : List (T E)} {v : XV T} {a : AV} (hb : has3 E i xs v) (hs : SV C N ρ v a) (hv : Valid w B a) : Valid w B (ρ i) := by
  unfold has3 at hb
  split at hb
  · obtain ⟨u, hu, hb⟩ := hb
    obtain ⟨ls, rfl, h1⟩ := sv_tup.1 hs
    obtain ⟨b, hm, h2⟩ := mem_sv2 h1 hu
    unfold Valid at hv
    exact has2_val hb h2 (Valids.iff.1 hv b hm)
  · exact has2_val hb hs hv
/-- Rows that a call tells, as arrays. -/
theorem Tr.asArr {f : FuncId} {args : List (XV T)} {r : XV T} {rows arrs : List (HI T)} (h1 : Tr C P U f args [] r rows) (hlen : arrs.length = rows.length) (hleaf : leaf3 r = true)
    (hrel : ∀ i x, rows[i]? = some x → ∃ e E xs, x = .row e (C.sz E) ∧ arrs[i]? = some (.arr e E true xs) ∧ has3 E i xs r ∧ (∀ y : T E, (C.enc E y).all XV.scal = true) ∧ C.full E = false) : Tr C P U f args [] (toA3 r) arrs := by
  intro ρ σ vs hs H w Z hH hV
  refine (h1 ρ σ vs hs H w Z hH hV).mono ?_
  rintro y w' ⟨rv, τ, rfl, ⟨ρ', hrv, H', R⟩, hH', hV', hG⟩
  have hR : RowsAt τ ρ' rows.length := fun i hi => by
    obtain ⟨e, E, xs, hx, _⟩ := hrel i rows[i] (List.getElem?_eq_getElem hi)
    have := H'.it i rows[i] (List.getElem?_eq_getElem hi)
    rw [hx] at this
    obtain ⟨n, cells, ho⟩ := this
    exact ⟨e, _, n, cells, ho⟩
  obtain ⟨s1, s2, s3⟩ := leaf3A (m := arrs.length) hR (by omega) hleaf hrv
  let G : Nat → Prop := fun b => ∃ i, i < rows.length ∧ (ρ' i).owns b
  have hGb : ∀ b, G b → σ.blk b = none ∧ ¬ σ.used b := fun b ⟨i, hi, hb⟩ => by
    obtain ⟨e, E, xs, hx, _⟩ := hrel i rows[i] (List.getElem?_eq_getElem hi)
    rcases R.born b ⟨i, rows[i], List.getElem?_eq_getElem hi, by rw [hx]; rfl, hb⟩ with ⟨j, x, hj, _⟩ | h
    · simp at hj
    · exact h
  have hGt : ∀ b, G b → ∃ t k s, τ.blk b = some (.tail t k s) ∧ τ.used b := fun b ⟨i, hi, hb⟩ => by
    obtain ⟨e, sz, k, cells, ho⟩ := hR i hi
    obtain ⟨q1, q2⟩ := blkO_own ho hb
    exact ⟨_, _, _, q2, q1⟩
  have hkeep : ∀ b k, σ.blk b = some k → τ.blk b = some k := fun b k hk => R.but.keep b k (fun ⟨i, x, _, hx, _⟩ => by simp at hx) hk
  have hnG : ∀ b k, σ.blk b = some k → ¬ G b := fun b k hk hg => by rw [(hGb b hg).1] at hk; cases hk
  classical
  let υ : St := ⟨fun b => if G b then (match w'.heap[b]? with | some (.cells cs t _) => some (.own t (cs.toList.map AV.raw)) | _ => none) else σ.blk b, τ.used, by
    obtain ⟨n, hn⟩ := σ.fin
    obtain ⟨m, hm⟩ := τ.fin
    refine ⟨n + m, fun b hb => ⟨(hm b (by omega)).1, ?_⟩⟩
    have : ¬ G b := fun hg => by
      obtain ⟨_, _, _, _, hu⟩ := hGt b hg
      exact (hm b (by omega)).1 hu
    rw [if_neg this]
    exact (hn b (by omega)).2⟩
  have hυo : ∀ b, ¬ G b → υ.blk b = σ.blk b := fun b hb => by show (if G b then _ else σ.blk b) = _; rw [if_neg hb]
  have hυi : ∀ b, G b → ∃ t cur, w'.heap[b]? = some (.cells cur t (0, 0)) ∧ υ.blk b = some (.own t (cur.toList.map AV.raw)) ∧ ∃ k, τ.blk b = some (.tail t k cur.size) := fun b hb => by
    obtain ⟨t, k, s, q1, q2⟩ := hGt b hb
    obtain ⟨_, cur, q3, q4, _⟩ := hH'.tail _ _ _ _ q1
    refine ⟨t, cur, q3, ?_, k, by rw [q4]; exact q1⟩
    show (if G b then _ else σ.blk b) = _
    rw [if_pos hb, q3]
  have hG2 : Grow w σ w' υ := by
    refine ⟨hG.os, hG.tape, hG.output, hG.size, hG.used, fun b hb hn => ⟨(hG.rest b hb hn).1, ?_⟩, fun b t k s hb ht => ⟨(hG.tail b t k s hb ht).1, .inr ⟨t, k, s, by rw [hυo b (hnG _ _ ht)]; exact ht, Nat.le_refl _⟩⟩, R.but.used⟩
    by_cases hg : G b
    · exfalso
      obtain ⟨_, _, _, _, hu⟩ := hGt b hg
      exact (hGb b hg).2 (hG.used b hb hu)
    · rw [hυo b hg]; exact hn
  have hHυ : HeapOk w' υ Z := by
    refine ⟨hH'.used, fun b hz => ⟨(hH'.z b hz).1, ?_⟩, fun b t cs hb => ?_, fun b t k s hb => ?_, fun b es hb => ?_⟩
    · have hg : ¬ G b := fun hg => by
        obtain ⟨t, k, s, q1, _⟩ := hGt b hg
        rw [(hH'.z b hz).2] at q1; cases q1
      rw [hυo b hg]; exact (hH.z b hz).2
    · by_cases hg : G b
      · obtain ⟨t', cur, q1, q2, _⟩ := hυi b hg
        rw [q2] at hb
        injection hb with hb
        injection hb with e1 e2
        subst e1 e2
        obtain ⟨_, _, _, _, hu⟩ := hGt b hg
        refine ⟨hu, by rw [q1]; simp [Function.comp_def], fun c hc => ?_⟩
        obtain ⟨v, _, rfl⟩ := List.mem_map.1 hc
        exact valid_raw _
      · rw [hυo b hg] at hb
        obtain ⟨g1, g2, g3⟩ := hH.own _ _ _ hb
        exact ⟨R.but.used _ g1, (hH'.own _ _ _ (hkeep _ _ hb)).2.1, fun c hc => hG2.valid (g3 c hc)⟩
    · by_cases hg : G b
      · obtain ⟨t', cur, q1, q2, _⟩ := hυi b hg
        rw [q2] at hb; cases hb
      · rw [hυo b hg] at hb
        exact ⟨R.but.used _ (hH.tail _ _ _ _ hb).1, (hH'.tail _ _ _ _ (hkeep _ _ hb)).2⟩
    · by_cases hg : G b
      · obtain ⟨t', cur, q1, q2, _⟩ := hυi b hg
        rw [q2] at hb; cases hb
      · rw [hυo b hg] at hb
        exact ⟨R.but.used _ (hH.map _ _ hb).1, (hH'.map _ _ (hkeep _ _ hb)).2⟩
  have hrow : ∀ i z, arrs[i]? = some z → ∃ e E xs, rows[i]? = some (.row e (C.sz E)) ∧ z = .arr e E true xs ∧ has3 E i xs r ∧ (∀ y : T E, (C.enc E y).all XV.scal = true) ∧ C.full E = false := fun i z hz => by
    have hi : i < rows.length := by rw [← hlen]; exact lt_of_get hz
    obtain ⟨e, E, xs, hx, ha, q⟩ := hrel i rows[i] (List.getElem?_eq_getElem hi)
    rw [hz] at ha
    injection ha with ha
    exact ⟨e, E, xs, by rw [List.getElem?_eq_getElem hi, hx], ha, q⟩
  refine ⟨vA3 rv, υ, by rw [s3], ⟨fun i => rA (ρ' i), s1, ⟨fun i z hz => ?_, fun i j x y' b hx hy ax ay bx by_ => ?_⟩, ⟨Nat.zero_le _, fun i hi => absurd hi (Nat.not_lt_zero i), ⟨fun b k _ hk => by rw [hυo b (hnG _ _ hk)]; exact hk, R.but.used⟩, fun b ⟨i, z, hz, az, bz⟩ => ?_⟩⟩, hHυ, s2 _ _, hG2⟩
  · obtain ⟨e, E, xs, hx, rfl, q1, q2, q3⟩ := hrow i z hz
    have hsl := has3_sv q1 hrv
    have hvl := has3_val q1 hrv hV'
    obtain ⟨n, cells, hl, ho⟩ := H'.it i _ hx
    obtain ⟨A, c, cs, rest, ea, l1, l2, l3, l4, l5⟩ := sv_sl.1 hsl
    rcases ho with ⟨ho, _⟩ | ⟨g, c', ho, o1, o2, o3, o4⟩
    · right
      rw [ho] at ea
      injection ea with e1 e2 e3 e4
      exact ⟨by show rA (ρ' i) = _; rw [ho]; rfl, List.eq_nil_of_length_eq_zero e2.symm⟩
    · left
      rw [ho] at ea
      injection ea with e1 e2 e3 e4
      subst e1 e2 e3
      have hcl := l5.len
      rw [enc_len] at hcl
      have hrest : rest = [] := List.eq_nil_of_length_eq_zero (by rw [e4, List.length_append] at hl; omega)
      subst hrest
      rw [List.append_nil] at e4
      subst e4
      have hg : G g := ⟨i, lt_of_get hx, by rw [ho]; rfl⟩
      obtain ⟨t, cur, u1, u2, k, u3⟩ := hυi g hg
      rw [o3] at u3
      injection u3 with u3
      injection u3 with v1 v2 v3
      subst v1
      have hscal : (xs.flatMap (C.enc E)).all XV.scal = true := by
        rw [List.all_eq_true]
        intro v hv
        obtain ⟨y, _, hy⟩ := List.mem_flatMap.1 hv
        exact List.all_eq_true.1 (q2 y) v hy
      have hraw := scals_raw hscal l5
      rw [ho] at hvl
      unfold Valid at hvl
      have hat := hvl.2.2 _ rfl
      have htake : (cur.toList.map AV.raw).take (xs.length * C.sz E) = cells := by
        rw [hraw, ← List.map_take]
        congr 1
        apply List.ext_getElem?
        intro j
        rw [List.getElem?_take, List.getElem?_map]
        split
        · rename_i hj
          have hjl : j < cells.length := by omega
          have := (hat.get (List.getElem?_eq_getElem hjl)).1
          rw [Nat.zero_add, add_off_, Nat.zero_add] at this
          rw [List.getElem?_eq_getElem hjl, Array.getElem?_toList]
          have h2 : w'.cell? ⟨g, j, none⟩ = cur[j]? := by simp [World.cell?, u1]
          rw [← h2, this]
          rfl
        · rename_i hj
          rw [List.getElem?_eq_none (by omega)]
          rfl
      refine ⟨g, c', cells, (cur.toList.map AV.raw).drop (xs.length * C.sz E), by show rA (ρ' i) = _; rw [ho]; rfl, ?_, o4, fun N' ρ'' => (scals_sv hscal l5).1, ?_, o2, fun hf => by rw [q3] at hf; cases hf⟩
      · rw [← htake, List.take_append_drop]; exact u2
      · rw [← htake, List.take_append_drop, List.length_map, Array.length_toList, ← v3]
  · obtain ⟨e, E, xs, q1, rfl, _⟩ := hrow i x hx
    obtain ⟨e', E', xs', q2, rfl, _⟩ := hrow j y' hy
    exact H'.dist i j _ _ b q1 q2 rfl rfl (rA_blk _ _ bx) (rA_blk _ _ by_)
  · obtain ⟨e, E, xs, q1, rfl, _⟩ := hrow i z hz
    rcases R.born b ⟨i, _, q1, rfl, rA_blk _ _ bz⟩ with ⟨j, x, hj, _⟩ | h
    · simp at hj
    · exact .inr h
end
end Go.Proofs.Ytklmbkkeiihgdaa
