/- slices.Clone, at any type. -/
import Derived.Test.YtmffcfjdacoigaaGreatX15
namespace Go.Proofs.YtmffcfjdacoigaaGreat
open Go.RowKit
set_option maxRecDepth 100000
set_option linter.unusedVariables false
variable {T : Nat → Type}
section
variable {C : Codec T} {P : Program}
/-- A new row of ours is told. -/
theorem told_row {ρ : Nat → AV} {h : List (HI T)} {σ τ : St} {E : Nat} {xs : List (T E)} {e sz : Nat} {v : AV} {cells : List AV} (H : Hp C ρ h σ) (hX : Ext σ τ) (ho : Own τ e sz v xs.length cells) (hl : xs.length ≤ 140737488355328) (hc : ∀ N ρ, SVs C N ρ (xs.flatMap (C.enc E)) cells) (hv : ∀ g, v.owns g → σ.blk g = none ∧ ¬ σ.used g) :
    ∃ ρ', SV C (h ++ [HI.row e sz]).length ρ' (.sl E xs (some h.length)) v ∧ Hp C ρ' (h ++ [.row e sz]) τ ∧ Rel (fun _ => True) ρ h σ ρ' (h ++ [.row e sz]) τ := by
  obtain ⟨g1, g2⟩ := H.newRow (U := fun _ => True) hX ho hv
  exact ⟨_, sv_own.2 ⟨(rup_same _ _ _).symm, by simp, own_sv ho hl (hc _ _)⟩, g1, g2⟩
theorem clone_tr {f : FuncId} {fn : Func} {t e t' t0 t1 tb t2 t3 t4 t5 t6 : TypeId} {p0 p1 p2 p3 p4 p5 p6 p7 : String} {a0 a1 a2 a3 a4 a5 a6 a7 : Array Edge} {i0 i1 i2 i3 : Nat} {zv : Value} {sz by_ E : Nat}
    (hm : P.follows .mixedOrders = true) (hf : P.funcs[f]? = some fn) (hok : fnOk P fn 1 = true) (hr : fn.results = #[.tmp 2])
    (hb : fn.body = some (.seq (.region i0 #[⟨some 2, .assign (.const (.slice none 0 0)), t0, p0, a0, none⟩] false) (.seq (.seq (.region i1 #[⟨some 3, .move (.tmp 0), t1, p1, a1, none⟩, ⟨some 4, .binOp .eql t (.tmp 3) (.const (.slice none 0 0)) t', tb, p2, a2, none⟩] false) (.cond (.tmp 4) (.seq (.region i2 #[⟨some 2, .assign (.const (.slice none 0 0)), t2, p3, a3, none⟩] false) .ret) .skip)) (.seq (.region i3 #[⟨some 5, .buildSlice t 0 #[], t3, p4, a4, none⟩, ⟨some 6, .move (.tmp 0), t4, p5, a5, none⟩, ⟨some 7, .call ⟨.builtin .append, #[.tmp 5, .tmp 6], #[t, t]⟩, t5, p6, a6, none⟩, ⟨some 2, .assign (.tmp 7), t6, p7, a7, none⟩] false) .ret))))
    (he : sliceA P t = some e) (hsz : sizeA P e = some sz) (hz : zeroA P e = some zv) (hby : bytesA P e = some by_) (hzs : zv.cells.size = sz) (hE : sz = C.sz E)
    (xs : List (T E)) (hroom : xs.length ≤ 140737488355328 ∧ xs.length * by_ ≤ 140737488355328) : Tr C P (fun _ => True) f [.sl E xs none] [] (.sl E xs (some 0)) [.row e sz] := by
  intro ρ σ vs hs H
  obtain ⟨a, rfl, h3⟩ := svs1.1 hs
  obtain ⟨A, c, cs, rest, rfl, l1, l2, l3, l4, l5⟩ := sv_sl.1 h3
  unfold fnOk at hok
  rw [hb] at hok
  simp only [Bool.and_eq_true] at hok
  obtain ⟨⟨o1, o2⟩, o3⟩ := hok
  have hlen := l5.len
  rw [enc_len] at hlen
  have hpos := C.pos E
  have hres : fn.results.toList = [.tmp 2] := by rw [hr]
  refine callsA_of hm hf hb o2 o1 (Nat.le_of_ble_eq_true o3) ?_
  refine k_region (k_cons (s_assign rfl (k_nil ?_)))
  refine k_assoc (k_region (k_cons (s_move rfl (k_cons (s_eqlnil he rfl rfl (k_nil ?_))))))
  refine k_cond rfl (fun hA => ?_) (fun hA => ?_)
  · refine k_assoc (k_region (k_cons (s_assign rfl (k_nil (k_ret ?_)))))
    cases A with
    | some ad => cases hA
    | none =>
      have hx : xs = [] := List.eq_nil_of_length_eq_zero (l4 rfl).1
      subst hx
      refine res_one_ hres (res_tmp_ rfl) ?_
      exact told_row (xs := ([] : List (T E))) (e := e) (sz := sz) (cells := []) H (Ext.refl _) ⟨by simp, .inl ⟨rfl, rfl⟩⟩ (Nat.zero_le _) (fun _ _ => .none) (fun g hg => by cases hg)
  · refine k_skip (k_region (k_cons (s_buildSlice (vs := []) (cells := []) rfl he hsz hz hzs (by omega) (by simp [aFill]) fun b hu hn => ?_)))
    refine k_cons (s_move rfl ?_)
    have htk : (cs ++ rest).take (xs.length * sz) = cs := by rw [List.take_append_of_le_length (by rw [hlen, hE]; omega), List.take_of_length_le (by rw [hlen, hE]; omega)]
    have hown : Own (σ.put b (.tail e (0 * sz) (0 * sz))) e sz (.lst (some ⟨b, 0, none⟩) 0 0 []) 0 [] := ⟨by simp, .inr ⟨b, 0, rfl, Nat.le_refl _, Nat.zero_le _, put_same _ _ _, .inr rfl⟩⟩
    refine k_cons (s_append (v := .lst (some ⟨b, 0, none⟩) 0 0 []) (n := 0) (cells := []) (m := xs.length) (cb := c) (news := cs ++ rest) (B := A) rfl rfl he hsz hz hby hzs (by omega) hown (by rw [List.length_append, hlen, hE]; omega) (by rw [htk]; exact l5.ones fun v hv => closed_one (enc_shut xs v hv)) (by unfold maxLen; omega) (by rw [Nat.zero_add]; exact hroom.2) fun v' τ ho ha => ?_)
    rw [htk, List.nil_append, Nat.zero_add] at ho
    refine k_cons (s_assign rfl (k_nil (k_ret1 ?_)))
    refine res_one_ hres (res_tmp_ rfl) ?_
    have hX : Ext σ τ := But.ext (S := fun x => x = b) (Ext.put _ hn) (fun x hx => by subst hx; exact hn) ⟨fun x k hx hk => ha.keep x k (fun e => hx (by injection e with e; exact e.symm)) hk, ha.used⟩
    refine told_row (cells := cs) H hX ho hroom.1 (fun N ρ => l5.shut (enc_shut xs)) fun g hg => ?_
    obtain ⟨B', c', rfl, _⟩ := ho.form
    change (AV.lst B' xs.length c' cs).owns g at hg
    have hg := lst_owns hg
    rcases ha.new with h1 | ⟨g', h1, h2, h5, _⟩
    · rw [h1] at hg
      injection hg with hg
      change b = g at hg
      subst hg
      exact ⟨hn, hu⟩
    · rw [h1] at hg; injection hg with hg; subst hg
      refine ⟨?_, fun hq => h5 (.inl hq)⟩
      cases hq : σ.blk g' with
      | none => rfl
      | some k =>
        rw [put_other _ _ (by rintro rfl; rw [hn] at hq; cases hq), hq] at h2
        cases h2
end
end Go.Proofs.YtmffcfjdacoigaaGreat
