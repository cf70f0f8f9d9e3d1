/- Apart: lists are put into a bag, the bag's lists are looked at. -/
import Derived.Test.YtklmbkkeiihgdaaFl
namespace Go.Proofs.Ytklmbkkeiihgdaa
open Go.RowKit
set_option maxRecDepth 100000
set_option linter.unusedVariables false
set_option linter.unusedSimpArgs false
theorem k_loop1 {P : Program} {O : Nat → Prop} {c : Code} {Q : APost} {env : Env} {σ : St} (h : aCode P O c (fun ex e s => ex ≠ .normal ∧ Q ex e s) env σ) : aCode P O (.loop c) Q env σ := by
 refine k_loopE (fun n e s => e = env ∧ s = σ) ⟨0, rfl, rfl⟩ ?_
 rintro n e s ⟨rfl, rfl⟩
 refine aCode_mono (c := c) ?_ h
 rintro ex e2 s2 ⟨h1, h2⟩
 cases ex <;> first | exact absurd rfl h1 | exact h2
section
variable {P : Program} {O : Nat → Prop} {env : Env} {σ : St} {Q : APost} {rest c : Code} {i0 id b ctr a1 a2 a3 a4 : Nat} {T0 T1 T2 T3 T4 tI tJ tss ts : TypeId} {q0 q1 q2 q3 q4 : String} {f0 f1 f2 f3 f4 : Array Edge}
/-- A loop over nil. -/
theorem nil_part (h0 : env 0 = .lst none 0 0 []) (ht : sliceA P tss = some ts) (n : ¬ 0 = ctr ∧ ¬ 0 = a1 ∧ ¬ 0 = a2 ∧ ¬ 0 = a3 ∧ ¬ 0 = a4 ∧ ¬ a1 = a2 ∧ ¬ a1 = a3) (h : ∀ e, e 0 = .lst none 0 0 [] → aCode P O c Q e σ) :
  aCode P O (.seq (.seq (.region i0 #[⟨some ctr, .assign (.const (.int .i64 0)), T0, q0, f0, none⟩] false) (.block b (.loop (.seq (.seq (.region id #[⟨some a1, .move (.tmp ctr), T1, q1, f1, none⟩, ⟨some a2, .move (.tmp 0), T2, q2, f2, none⟩, ⟨some a3, .call ⟨.builtin .len, #[.tmp a2], #[tss]⟩, T3, q3, f3, none⟩, ⟨some a4, .binOp .lss tI (.tmp a1) (.tmp a3) tJ, T4, q4, f4, none⟩] false) (.cond (.tmp a4) .skip (.exit b))) rest)))) c) Q env σ := by
 obtain ⟨n0, n1, n2, n3, n4, n5, n6⟩ := n
 refine k_assoc ?_
 refine k_region ?_
 refine k_cons ?_
 refine s_assign (v := vI ((0 : Nat) : Int)) rfl ?_
 refine k_nil ?_
 refine k_cutS (fun e s => e 0 = .lst none 0 0 [] ∧ σ = s) (k_block1 (k_loop1 ?_)) ?_
 ·refine k_assoc ?_
  refine k_region ?_
  refine k_cons ?_
  refine s_move (v := vI ((0 : Nat) : Int)) (by simp [ev, Env.put]) ?_
  refine k_cons ?_
  refine s_move (v := .lst none 0 0 []) (by simp [ev, Env.put, n0, n1, h0]) ?_
  refine k_cons ?_
  refine s_lenN (v := .lst none 0 0 []) (A := none) (n := 0) (c := 0) (by simp [ev, Env.put]) (AV.val_lst _ _ _ _) rfl ht ?_
  refine k_cons ?_
  refine s_lssF 0 0 (by simp [ev, Env.put, n5, n6]) (by simp [ev, Env.put]) (by omega) ?_
  refine k_nil ?_
  refine k_condF (by simp [ev, Env.put, vT]) ?_
  refine k_exit ?_
  refine ⟨nofun, ?_⟩
  unfold AInBlock
  dsimp only
  rw [if_pos rfl]
  exact ⟨rfl, by simp [Env.put, n0, n1, n2, n3, n4, h0], rfl⟩
 ·rintro e s ⟨he, rfl⟩
  exact h e he
theorem nil_make (h0 : env 0 = .lst none 0 0 []) (ht : sliceA P tss = some ts) (hs : sizeA P ts = some 1) (hz : zeroA P ts = some (.slice none 0 0)) (hb : bytesA P ts = some 24) (n : ¬ 0 = a1 ∧ ¬ 0 = a2 ∧ ¬ 0 = a3 ∧ ¬ 0 = a4) (h : ∀ e τ, e 0 = .lst none 0 0 [] → Ext σ τ → aCode P O c Q e τ) :
  aCode P O (.seq (.region id #[⟨some a1, .move (.tmp 0), T1, q1, f1, none⟩, ⟨some a2, .call ⟨.builtin .len, #[.tmp a1], #[tss]⟩, T2, q2, f2, none⟩, ⟨some a3, .makeSlice tss (.tmp a2) (.tmp a2), T3, q3, f3, none⟩, ⟨some a4, .assign (.tmp a3), T4, q4, f4, none⟩] false) c) Q env σ := by
 obtain ⟨n1, n2, n3, n4⟩ := n
 refine k_region ?_
 refine k_cons ?_
 refine s_move (v := .lst none 0 0 []) (by simp [ev, h0]) ?_
 refine k_cons ?_
 refine s_lenN (v := .lst none 0 0 []) (A := none) (n := 0) (c := 0) (by simp [ev, Env.put]) (AV.val_lst _ _ _ _) rfl ht ?_
 refine k_cons ?_
 refine s_makeH (l := 0) (sz := 1) (bytes := 24) (z := .slice none 0 0) (by simp [ev, Env.put]) (by simp [ev, Env.put]) ht hs hz hb rfl (by omega) (fun i hi => by
  have : i = 0 := by omega
  subst this
  rfl) (by omega) (by omega) fun gb gq τ2 gc0 hG hXt hgn hgu => ?_
 refine k_cons ?_
 refine s_assign (v := hdr gb 0 gq) (by simp [ev, Env.put]) ?_
 refine k_nil ?_
 exact h _ _ (by simp [Env.put, n1, n2, n3, n4, h0]) hXt
end
theorem flat_nil0 (τ : St) (K : AV → St → Prop) (hK : ∀ τ2, Ext τ τ2 → K (vT true) τ2) : CallsA Try.prog 38 [.lst none 0 0 []] τ K := by
 refine callsA_of fl_mixed Try.func38 rfl rfl rfl (Nat.le_of_ble_eq_true rfl) (k_region (k_cons (s_assign rfl (k_nil ?_))))
 refine nil_part rfl (ts := 127) (by kernel_rfl) (by decide) fun e he => ?_
 refine nil_make he (ts := 127) (by kernel_rfl) (by kernel_rfl) (by kernel_rfl) (by kernel_rfl) (by decide) fun e τ2 he hX => ?_
 refine nil_part he (ts := 127) (by kernel_rfl) (by decide) fun e he => ?_
 refine nil_part he (ts := 127) (by kernel_rfl) (by decide) fun e he => ?_
 refine nil_part he (ts := 127) (by kernel_rfl) (by decide) fun e he => ?_
 refine nil_part he (ts := 127) (by kernel_rfl) (by decide) fun e he => ?_
 exact k_region (k_cons (s_assign rfl (k_nil (k_ret1 ⟨_, res_tmp rfl rfl, hK _ hX⟩))))
theorem flat_nil1 (τ : St) (K : AV → St → Prop) (hK : ∀ τ2, Ext τ τ2 → K (vT true) τ2) : CallsA Try.prog 39 [.lst none 0 0 []] τ K := by
 refine callsA_of fl_mixed Try.func39 rfl rfl rfl (Nat.le_of_ble_eq_true rfl) (k_region (k_cons (s_assign rfl (k_nil ?_))))
 refine nil_part rfl (ts := 128) (by kernel_rfl) (by decide) fun e he => ?_
 refine nil_make he (ts := 128) (by kernel_rfl) (by kernel_rfl) (by kernel_rfl) (by kernel_rfl) (by decide) fun e τ2 he hX => ?_
 refine nil_part he (ts := 128) (by kernel_rfl) (by decide) fun e he => ?_
 refine nil_part he (ts := 128) (by kernel_rfl) (by decide) fun e he => ?_
 refine nil_part he (ts := 128) (by kernel_rfl) (by decide) fun e he => ?_
 refine nil_part he (ts := 128) (by kernel_rfl) (by decide) fun e he => ?_
 exact k_region (k_cons (s_assign rfl (k_nil (k_ret1 ⟨_, res_tmp rfl rfl, hK _ hX⟩))))
theorem flat_nil2 (τ : St) (K : AV → St → Prop) (hK : ∀ τ2, Ext τ τ2 → K (vT true) τ2) : CallsA Try.prog 40 [.lst none 0 0 []] τ K := by
 refine callsA_of fl_mixed Try.func40 rfl rfl rfl (Nat.le_of_ble_eq_true rfl) (k_region (k_cons (s_assign rfl (k_nil ?_))))
 refine nil_part rfl (ts := 44) (by kernel_rfl) (by decide) fun e he => ?_
 refine nil_make he (ts := 44) (by kernel_rfl) (by kernel_rfl) (by kernel_rfl) (by kernel_rfl) (by decide) fun e τ2 he hX => ?_
 refine nil_part he (ts := 44) (by kernel_rfl) (by decide) fun e he => ?_
 refine nil_part he (ts := 44) (by kernel_rfl) (by decide) fun e he => ?_
 refine nil_part he (ts := 44) (by kernel_rfl) (by decide) fun e he => ?_
 refine nil_part he (ts := 44) (by kernel_rfl) (by decide) fun e he => ?_
 exact k_region (k_cons (s_assign rfl (k_nil (k_ret1 ⟨_, res_tmp rfl rfl, hK _ hX⟩))))
theorem flat_nil3 (τ : St) (K : AV → St → Prop) (hK : ∀ τ2, Ext τ τ2 → K (vT true) τ2) : CallsA Try.prog 41 [.lst none 0 0 []] τ K := by
 refine callsA_of fl_mixed Try.func41 rfl rfl rfl (Nat.le_of_ble_eq_true rfl) (k_region (k_cons (s_assign rfl (k_nil ?_))))
 refine nil_part rfl (ts := 129) (by kernel_rfl) (by decide) fun e he => ?_
 refine nil_make he (ts := 129) (by kernel_rfl) (by kernel_rfl) (by kernel_rfl) (by kernel_rfl) (by decide) fun e τ2 he hX => ?_
 refine nil_part he (ts := 129) (by kernel_rfl) (by decide) fun e he => ?_
 refine nil_part he (ts := 129) (by kernel_rfl) (by decide) fun e he => ?_
 refine nil_part he (ts := 129) (by kernel_rfl) (by decide) fun e he => ?_
 refine nil_part he (ts := 129) (by kernel_rfl) (by decide) fun e he => ?_
 exact k_region (k_cons (s_assign rfl (k_nil (k_ret1 ⟨_, res_tmp rfl rfl, hK _ hX⟩))))
theorem flat_nil4 (τ : St) (K : AV → St → Prop) (hK : ∀ τ2, Ext τ τ2 → K (vT true) τ2) : CallsA Try.prog 42 [.lst none 0 0 []] τ K := by
 refine callsA_of fl_mixed Try.func42 rfl rfl rfl (Nat.le_of_ble_eq_true rfl) (k_region (k_cons (s_assign rfl (k_nil ?_))))
 refine nil_part rfl (ts := 130) (by kernel_rfl) (by decide) fun e he => ?_
 refine nil_make he (ts := 130) (by kernel_rfl) (by kernel_rfl) (by kernel_rfl) (by kernel_rfl) (by decide) fun e τ2 he hX => ?_
 refine nil_part he (ts := 130) (by kernel_rfl) (by decide) fun e he => ?_
 refine nil_part he (ts := 130) (by kernel_rfl) (by decide) fun e he => ?_
 refine nil_part he (ts := 130) (by kernel_rfl) (by decide) fun e he => ?_
 refine nil_part he (ts := 130) (by kernel_rfl) (by decide) fun e he => ?_
 exact k_region (k_cons (s_assign rfl (k_nil (k_ret1 ⟨_, res_tmp rfl rfl, hK _ hX⟩))))
theorem flat_nil6 (τ : St) (K : AV → St → Prop) (hK : ∀ τ2, Ext τ τ2 → K (vT true) τ2) : CallsA Try.prog 44 [.lst none 0 0 []] τ K := by
 refine callsA_of fl_mixed Try.func44 rfl rfl rfl (Nat.le_of_ble_eq_true rfl) (k_region (k_cons (s_assign rfl (k_nil ?_))))
 refine nil_part rfl (ts := 132) (by kernel_rfl) (by decide) fun e he => ?_
 refine nil_make he (ts := 132) (by kernel_rfl) (by kernel_rfl) (by kernel_rfl) (by kernel_rfl) (by decide) fun e τ2 he hX => ?_
 refine nil_part he (ts := 132) (by kernel_rfl) (by decide) fun e he => ?_
 refine nil_part he (ts := 132) (by kernel_rfl) (by decide) fun e he => ?_
 refine nil_part he (ts := 132) (by kernel_rfl) (by decide) fun e he => ?_
 refine nil_part he (ts := 132) (by kernel_rfl) (by decide) fun e he => ?_
 exact k_region (k_cons (s_assign rfl (k_nil (k_ret1 ⟨_, res_tmp rfl rfl, hK _ hX⟩))))
theorem flat_nil7 (τ : St) (K : AV → St → Prop) (hK : ∀ τ2, Ext τ τ2 → K (vT true) τ2) : CallsA Try.prog 45 [.lst none 0 0 []] τ K := by
 refine callsA_of fl_mixed Try.func45 rfl rfl rfl (Nat.le_of_ble_eq_true rfl) (k_region (k_cons (s_assign rfl (k_nil ?_))))
 refine nil_part rfl (ts := 133) (by kernel_rfl) (by decide) fun e he => ?_
 refine nil_make he (ts := 133) (by kernel_rfl) (by kernel_rfl) (by kernel_rfl) (by kernel_rfl) (by decide) fun e τ2 he hX => ?_
 refine nil_part he (ts := 133) (by kernel_rfl) (by decide) fun e he => ?_
 refine nil_part he (ts := 133) (by kernel_rfl) (by decide) fun e he => ?_
 refine nil_part he (ts := 133) (by kernel_rfl) (by decide) fun e he => ?_
 refine nil_part he (ts := 133) (by kernel_rfl) (by decide) fun e he => ?_
 exact k_region (k_cons (s_assign rfl (k_nil (k_ret1 ⟨_, res_tmp rfl rfl, hK _ hX⟩))))
theorem flat_nil8 (τ : St) (K : AV → St → Prop) (hK : ∀ τ2, Ext τ τ2 → K (vT true) τ2) : CallsA Try.prog 46 [.lst none 0 0 []] τ K := by
 refine callsA_of fl_mixed Try.func46 rfl rfl rfl (Nat.le_of_ble_eq_true rfl) (k_region (k_cons (s_assign rfl (k_nil ?_))))
 refine nil_part rfl (ts := 137) (by kernel_rfl) (by decide) fun e he => ?_
 refine nil_make he (ts := 137) (by kernel_rfl) (by kernel_rfl) (by kernel_rfl) (by kernel_rfl) (by decide) fun e τ2 he hX => ?_
 refine nil_part he (ts := 137) (by kernel_rfl) (by decide) fun e he => ?_
 refine nil_part he (ts := 137) (by kernel_rfl) (by decide) fun e he => ?_
 refine nil_part he (ts := 137) (by kernel_rfl) (by decide) fun e he => ?_
 refine nil_part he (ts := 137) (by kernel_rfl) (by decide) fun e he => ?_
 exact k_region (k_cons (s_assign rfl (k_nil (k_ret1 ⟨_, res_tmp rfl rfl, hK _ hX⟩))))
theorem flat_nil9 (τ : St) (K : AV → St → Prop) (hK : ∀ τ2, Ext τ τ2 → K (vT true) τ2) : CallsA Try.prog 47 [.lst none 0 0 []] τ K := by
 refine callsA_of fl_mixed Try.func47 rfl rfl rfl (Nat.le_of_ble_eq_true rfl) (k_region (k_cons (s_assign rfl (k_nil ?_))))
 refine nil_part rfl (ts := 141) (by kernel_rfl) (by decide) fun e he => ?_
 refine nil_make he (ts := 141) (by kernel_rfl) (by kernel_rfl) (by kernel_rfl) (by kernel_rfl) (by decide) fun e τ2 he hX => ?_
 refine nil_part he (ts := 141) (by kernel_rfl) (by decide) fun e he => ?_
 refine nil_part he (ts := 141) (by kernel_rfl) (by decide) fun e he => ?_
 refine nil_part he (ts := 141) (by kernel_rfl) (by decide) fun e he => ?_
 refine nil_part he (ts := 141) (by kernel_rfl) (by decide) fun e he => ?_
 exact k_region (k_cons (s_assign rfl (k_nil (k_ret1 ⟨_, res_tmp rfl rfl, hK _ hX⟩))))
theorem flat_nil10 (τ : St) (K : AV → St → Prop) (hK : ∀ τ2, Ext τ τ2 → K (vT true) τ2) : CallsA Try.prog 48 [.lst none 0 0 []] τ K := by
 refine callsA_of fl_mixed Try.func48 rfl rfl rfl (Nat.le_of_ble_eq_true rfl) (k_region (k_cons (s_assign rfl (k_nil ?_))))
 refine nil_part rfl (ts := 146) (by kernel_rfl) (by decide) fun e he => ?_
 refine nil_make he (ts := 146) (by kernel_rfl) (by kernel_rfl) (by kernel_rfl) (by kernel_rfl) (by decide) fun e τ2 he hX => ?_
 refine nil_part he (ts := 146) (by kernel_rfl) (by decide) fun e he => ?_
 refine nil_part he (ts := 146) (by kernel_rfl) (by decide) fun e he => ?_
 refine nil_part he (ts := 146) (by kernel_rfl) (by decide) fun e he => ?_
 refine nil_part he (ts := 146) (by kernel_rfl) (by decide) fun e he => ?_
 exact k_region (k_cons (s_assign rfl (k_nil (k_ret1 ⟨_, res_tmp rfl rfl, hK _ hX⟩))))
theorem flat_nil11 (τ : St) (K : AV → St → Prop) (hK : ∀ τ2, Ext τ τ2 → K (vT true) τ2) : CallsA Try.prog 49 [.lst none 0 0 []] τ K := by
 refine callsA_of fl_mixed Try.func49 rfl rfl rfl (Nat.le_of_ble_eq_true rfl) (k_region (k_cons (s_assign rfl (k_nil ?_))))
 refine nil_part rfl (ts := 150) (by kernel_rfl) (by decide) fun e he => ?_
 refine nil_make he (ts := 150) (by kernel_rfl) (by kernel_rfl) (by kernel_rfl) (by kernel_rfl) (by decide) fun e τ2 he hX => ?_
 refine nil_part he (ts := 150) (by kernel_rfl) (by decide) fun e he => ?_
 refine nil_part he (ts := 150) (by kernel_rfl) (by decide) fun e he => ?_
 refine nil_part he (ts := 150) (by kernel_rfl) (by decide) fun e he => ?_
 refine nil_part he (ts := 150) (by kernel_rfl) (by decide) fun e he => ?_
 exact k_region (k_cons (s_assign rfl (k_nil (k_ret1 ⟨_, res_tmp rfl rfl, hK _ hX⟩))))
theorem flat_nil12 (τ : St) (K : AV → St → Prop) (hK : ∀ τ2, Ext τ τ2 → K (vT true) τ2) : CallsA Try.prog 50 [.lst none 0 0 []] τ K := by
 refine callsA_of fl_mixed Try.func50 rfl rfl rfl (Nat.le_of_ble_eq_true rfl) (k_region (k_cons (s_assign rfl (k_nil ?_))))
 refine nil_part rfl (ts := 155) (by kernel_rfl) (by decide) fun e he => ?_
 refine nil_make he (ts := 155) (by kernel_rfl) (by kernel_rfl) (by kernel_rfl) (by kernel_rfl) (by decide) fun e τ2 he hX => ?_
 refine nil_part he (ts := 155) (by kernel_rfl) (by decide) fun e he => ?_
 refine nil_part he (ts := 155) (by kernel_rfl) (by decide) fun e he => ?_
 refine nil_part he (ts := 155) (by kernel_rfl) (by decide) fun e he => ?_
 refine nil_part he (ts := 155) (by kernel_rfl) (by decide) fun e he => ?_
 exact k_region (k_cons (s_assign rfl (k_nil (k_ret1 ⟨_, res_tmp rfl rfl, hK _ hX⟩))))
theorem flat_nil13 (τ : St) (K : AV → St → Prop) (hK : ∀ τ2, Ext τ τ2 → K (vT true) τ2) : CallsA Try.prog 51 [.lst none 0 0 []] τ K := by
 refine callsA_of fl_mixed Try.func51 rfl rfl rfl (Nat.le_of_ble_eq_true rfl) (k_region (k_cons (s_assign rfl (k_nil ?_))))
 refine nil_part rfl (ts := 159) (by kernel_rfl) (by decide) fun e he => ?_
 refine nil_make he (ts := 159) (by kernel_rfl) (by kernel_rfl) (by kernel_rfl) (by kernel_rfl) (by decide) fun e τ2 he hX => ?_
 refine nil_part he (ts := 159) (by kernel_rfl) (by decide) fun e he => ?_
 refine nil_part he (ts := 159) (by kernel_rfl) (by decide) fun e he => ?_
 refine nil_part he (ts := 159) (by kernel_rfl) (by decide) fun e he => ?_
 refine nil_part he (ts := 159) (by kernel_rfl) (by decide) fun e he => ?_
 exact k_region (k_cons (s_assign rfl (k_nil (k_ret1 ⟨_, res_tmp rfl rfl, hK _ hX⟩))))
theorem flat_nil14 (τ : St) (K : AV → St → Prop) (hK : ∀ τ2, Ext τ τ2 → K (vT true) τ2) : CallsA Try.prog 52 [.lst none 0 0 []] τ K := by
 refine callsA_of fl_mixed Try.func52 rfl rfl rfl (Nat.le_of_ble_eq_true rfl) (k_region (k_cons (s_assign rfl (k_nil ?_))))
 refine nil_part rfl (ts := 163) (by kernel_rfl) (by decide) fun e he => ?_
 refine nil_make he (ts := 163) (by kernel_rfl) (by kernel_rfl) (by kernel_rfl) (by kernel_rfl) (by decide) fun e τ2 he hX => ?_
 refine nil_part he (ts := 163) (by kernel_rfl) (by decide) fun e he => ?_
 refine nil_part he (ts := 163) (by kernel_rfl) (by decide) fun e he => ?_
 refine nil_part he (ts := 163) (by kernel_rfl) (by decide) fun e he => ?_
 refine nil_part he (ts := 163) (by kernel_rfl) (by decide) fun e he => ?_
 exact k_region (k_cons (s_assign rfl (k_nil (k_ret1 ⟨_, res_tmp rfl rfl, hK _ hX⟩))))
theorem flat_nil15 (τ : St) (K : AV → St → Prop) (hK : ∀ τ2, Ext τ τ2 → K (vT true) τ2) : CallsA Try.prog 53 [.lst none 0 0 []] τ K := by
 refine callsA_of fl_mixed Try.func53 rfl rfl rfl (Nat.le_of_ble_eq_true rfl) (k_region (k_cons (s_assign rfl (k_nil ?_))))
 refine nil_part rfl (ts := 168) (by kernel_rfl) (by decide) fun e he => ?_
 refine nil_make he (ts := 168) (by kernel_rfl) (by kernel_rfl) (by kernel_rfl) (by kernel_rfl) (by decide) fun e τ2 he hX => ?_
 refine nil_part he (ts := 168) (by kernel_rfl) (by decide) fun e he => ?_
 refine nil_part he (ts := 168) (by kernel_rfl) (by decide) fun e he => ?_
 refine nil_part he (ts := 168) (by kernel_rfl) (by decide) fun e he => ?_
 refine nil_part he (ts := 168) (by kernel_rfl) (by decide) fun e he => ?_
 exact k_region (k_cons (s_assign rfl (k_nil (k_ret1 ⟨_, res_tmp rfl rfl, hK _ hX⟩))))
theorem flat_nil16 (τ : St) (K : AV → St → Prop) (hK : ∀ τ2, Ext τ τ2 → K (vT true) τ2) : CallsA Try.prog 54 [.lst none 0 0 []] τ K := by
 refine callsA_of fl_mixed Try.func54 rfl rfl rfl (Nat.le_of_ble_eq_true rfl) (k_region (k_cons (s_assign rfl (k_nil ?_))))
 refine nil_part rfl (ts := 173) (by kernel_rfl) (by decide) fun e he => ?_
 refine nil_make he (ts := 173) (by kernel_rfl) (by kernel_rfl) (by kernel_rfl) (by kernel_rfl) (by decide) fun e τ2 he hX => ?_
 refine nil_part he (ts := 173) (by kernel_rfl) (by decide) fun e he => ?_
 refine nil_part he (ts := 173) (by kernel_rfl) (by decide) fun e he => ?_
 refine nil_part he (ts := 173) (by kernel_rfl) (by decide) fun e he => ?_
 refine nil_part he (ts := 173) (by kernel_rfl) (by decide) fun e he => ?_
 exact k_region (k_cons (s_assign rfl (k_nil (k_ret1 ⟨_, res_tmp rfl rfl, hK _ hX⟩))))
theorem flat_nil17 (τ : St) (K : AV → St → Prop) (hK : ∀ τ2, Ext τ τ2 → K (vT true) τ2) : CallsA Try.prog 55 [.lst none 0 0 []] τ K := by
 refine callsA_of fl_mixed Try.func55 rfl rfl rfl (Nat.le_of_ble_eq_true rfl) (k_region (k_cons (s_assign rfl (k_nil ?_))))
 refine nil_part rfl (ts := 179) (by kernel_rfl) (by decide) fun e he => ?_
 refine nil_make he (ts := 179) (by kernel_rfl) (by kernel_rfl) (by kernel_rfl) (by kernel_rfl) (by decide) fun e τ2 he hX => ?_
 refine nil_part he (ts := 179) (by kernel_rfl) (by decide) fun e he => ?_
 refine nil_part he (ts := 179) (by kernel_rfl) (by decide) fun e he => ?_
 refine nil_part he (ts := 179) (by kernel_rfl) (by decide) fun e he => ?_
 refine nil_part he (ts := 179) (by kernel_rfl) (by decide) fun e he => ?_
 exact k_region (k_cons (s_assign rfl (k_nil (k_ret1 ⟨_, res_tmp rfl rfl, hK _ hX⟩))))
theorem flat_nil18 (τ : St) (K : AV → St → Prop) (hK : ∀ τ2, Ext τ τ2 → K (vT true) τ2) : CallsA Try.prog 56 [.lst none 0 0 []] τ K := by
 refine callsA_of fl_mixed Try.func56 rfl rfl rfl (Nat.le_of_ble_eq_true rfl) (k_region (k_cons (s_assign rfl (k_nil ?_))))
 refine nil_part rfl (ts := 184) (by kernel_rfl) (by decide) fun e he => ?_
 refine nil_make he (ts := 184) (by kernel_rfl) (by kernel_rfl) (by kernel_rfl) (by kernel_rfl) (by decide) fun e τ2 he hX => ?_
 refine nil_part he (ts := 184) (by kernel_rfl) (by decide) fun e he => ?_
 refine nil_part he (ts := 184) (by kernel_rfl) (by decide) fun e he => ?_
 refine nil_part he (ts := 184) (by kernel_rfl) (by decide) fun e he => ?_
 refine nil_part he (ts := 184) (by kernel_rfl) (by decide) fun e he => ?_
 exact k_region (k_cons (s_assign rfl (k_nil (k_ret1 ⟨_, res_tmp rfl rfl, hK _ hX⟩))))
theorem flat_nil19 (τ : St) (K : AV → St → Prop) (hK : ∀ τ2, Ext τ τ2 → K (vT true) τ2) : CallsA Try.prog 57 [.lst none 0 0 []] τ K := by
 refine callsA_of fl_mixed Try.func57 rfl rfl rfl (Nat.le_of_ble_eq_true rfl) (k_region (k_cons (s_assign rfl (k_nil ?_))))
 refine nil_part rfl (ts := 189) (by kernel_rfl) (by decide) fun e he => ?_
 refine nil_make he (ts := 189) (by kernel_rfl) (by kernel_rfl) (by kernel_rfl) (by kernel_rfl) (by decide) fun e τ2 he hX => ?_
 refine nil_part he (ts := 189) (by kernel_rfl) (by decide) fun e he => ?_
 refine nil_part he (ts := 189) (by kernel_rfl) (by decide) fun e he => ?_
 refine nil_part he (ts := 189) (by kernel_rfl) (by decide) fun e he => ?_
 refine nil_part he (ts := 189) (by kernel_rfl) (by decide) fun e he => ?_
 exact k_region (k_cons (s_assign rfl (k_nil (k_ret1 ⟨_, res_tmp rfl rfl, hK _ hX⟩))))
theorem flat_nil20 (τ : St) (K : AV → St → Prop) (hK : ∀ τ2, Ext τ τ2 → K (vT true) τ2) : CallsA Try.prog 58 [.lst none 0 0 []] τ K := by
 refine callsA_of fl_mixed Try.func58 rfl rfl rfl (Nat.le_of_ble_eq_true rfl) (k_region (k_cons (s_assign rfl (k_nil ?_))))
 refine nil_part rfl (ts := 195) (by kernel_rfl) (by decide) fun e he => ?_
 refine nil_make he (ts := 195) (by kernel_rfl) (by kernel_rfl) (by kernel_rfl) (by kernel_rfl) (by decide) fun e τ2 he hX => ?_
 refine nil_part he (ts := 195) (by kernel_rfl) (by decide) fun e he => ?_
 refine nil_part he (ts := 195) (by kernel_rfl) (by decide) fun e he => ?_
 refine nil_part he (ts := 195) (by kernel_rfl) (by decide) fun e he => ?_
 refine nil_part he (ts := 195) (by kernel_rfl) (by decide) fun e he => ?_
 exact k_region (k_cons (s_assign rfl (k_nil (k_ret1 ⟨_, res_tmp rfl rfl, hK _ hX⟩))))
theorem flat_nil21 (τ : St) (K : AV → St → Prop) (hK : ∀ τ2, Ext τ τ2 → K (vT true) τ2) : CallsA Try.prog 59 [.lst none 0 0 []] τ K := by
 refine callsA_of fl_mixed Try.func59 rfl rfl rfl (Nat.le_of_ble_eq_true rfl) (k_region (k_cons (s_assign rfl (k_nil ?_))))
 refine nil_part rfl (ts := 200) (by kernel_rfl) (by decide) fun e he => ?_
 refine nil_make he (ts := 200) (by kernel_rfl) (by kernel_rfl) (by kernel_rfl) (by kernel_rfl) (by decide) fun e τ2 he hX => ?_
 refine nil_part he (ts := 200) (by kernel_rfl) (by decide) fun e he => ?_
 refine nil_part he (ts := 200) (by kernel_rfl) (by decide) fun e he => ?_
 refine nil_part he (ts := 200) (by kernel_rfl) (by decide) fun e he => ?_
 refine nil_part he (ts := 200) (by kernel_rfl) (by decide) fun e he => ?_
 exact k_region (k_cons (s_assign rfl (k_nil (k_ret1 ⟨_, res_tmp rfl rfl, hK _ hX⟩))))
theorem ap_stB : structA Try.prog 89 = some [(0, some 1, some false), (1, some 1, some false), (2, some 1, some false), (3, some 1, some false), (4, some 1, some false), (5, some 1, some false), (6, some 1, some false), (7, some 1, some false), (8, some 1, some false), (9, some 1, some false), (10, some 1, some false), (11, some 1, some false), (12, some 1, some false), (13, some 1, some false), (14, some 1, some false), (15, some 1, some false), (16, some 1, some false), (17, some 1, some false), (18, some 1, some false), (19, some 1, some false), (20, some 1, some false), (21, some 1, some false)] := by kernel_rfl
theorem ap_plB : placesB Try.prog 89 = some [(0, 1), (1, 1), (2, 1), (3, 1), (4, 1), (5, 1), (6, 1), (7, 1), (8, 1), (9, 1), (10, 1), (11, 1), (12, 1), (13, 1), (14, 1), (15, 1), (16, 1), (17, 1), (18, 1), (19, 1), (20, 1), (21, 1)] := by kernel_rfl
theorem ap_zeB : zeroA Try.prog 89 = some (.agg #[.slice none 0 0, .slice none 0 0, .slice none 0 0, .slice none 0 0, .slice none 0 0, .slice none 0 0, .slice none 0 0, .slice none 0 0, .slice none 0 0, .slice none 0 0, .slice none 0 0, .slice none 0 0, .slice none 0 0, .slice none 0 0, .slice none 0 0, .slice none 0 0, .slice none 0 0, .slice none 0 0, .slice none 0 0, .slice none 0 0, .slice none 0 0, .slice none 0 0]) := by kernel_rfl
theorem ap_szL : sizeA Try.prog 26 = some 1 := by kernel_rfl
theorem ap_agL : aggA Try.prog 26 = some false := by kernel_rfl
theorem ap_sz_26 : sizeA Try.prog 26 = some 1 := by kernel_rfl
theorem ap_ag_26 : aggA Try.prog 26 = some false := by kernel_rfl
theorem ap_sz_67 : sizeA Try.prog 67 = some 1 := by kernel_rfl
theorem ap_ag_67 : aggA Try.prog 67 = some false := by kernel_rfl
theorem ap_sz_68 : sizeA Try.prog 68 = some 1 := by kernel_rfl
theorem ap_ag_68 : aggA Try.prog 68 = some false := by kernel_rfl
theorem ap_sz_69 : sizeA Try.prog 69 = some 1 := by kernel_rfl
theorem ap_ag_69 : aggA Try.prog 69 = some false := by kernel_rfl
theorem ap_sz_70 : sizeA Try.prog 70 = some 1 := by kernel_rfl
theorem ap_ag_70 : aggA Try.prog 70 = some false := by kernel_rfl
theorem ap_sz_71 : sizeA Try.prog 71 = some 1 := by kernel_rfl
theorem ap_ag_71 : aggA Try.prog 71 = some false := by kernel_rfl
theorem ap_sz_72 : sizeA Try.prog 72 = some 1 := by kernel_rfl
theorem ap_ag_72 : aggA Try.prog 72 = some false := by kernel_rfl
theorem ap_sz_73 : sizeA Try.prog 73 = some 1 := by kernel_rfl
theorem ap_ag_73 : aggA Try.prog 73 = some false := by kernel_rfl
theorem ap_sz_74 : sizeA Try.prog 74 = some 1 := by kernel_rfl
theorem ap_ag_74 : aggA Try.prog 74 = some false := by kernel_rfl
theorem ap_sz_75 : sizeA Try.prog 75 = some 1 := by kernel_rfl
theorem ap_ag_75 : aggA Try.prog 75 = some false := by kernel_rfl
theorem ap_sz_76 : sizeA Try.prog 76 = some 1 := by kernel_rfl
theorem ap_ag_76 : aggA Try.prog 76 = some false := by kernel_rfl
theorem ap_sz_77 : sizeA Try.prog 77 = some 1 := by kernel_rfl
theorem ap_ag_77 : aggA Try.prog 77 = some false := by kernel_rfl
theorem ap_sz_78 : sizeA Try.prog 78 = some 1 := by kernel_rfl
theorem ap_ag_78 : aggA Try.prog 78 = some false := by kernel_rfl
theorem ap_sz_79 : sizeA Try.prog 79 = some 1 := by kernel_rfl
theorem ap_ag_79 : aggA Try.prog 79 = some false := by kernel_rfl
theorem ap_sz_80 : sizeA Try.prog 80 = some 1 := by kernel_rfl
theorem ap_ag_80 : aggA Try.prog 80 = some false := by kernel_rfl
theorem ap_sz_81 : sizeA Try.prog 81 = some 1 := by kernel_rfl
theorem ap_ag_81 : aggA Try.prog 81 = some false := by kernel_rfl
theorem ap_sz_82 : sizeA Try.prog 82 = some 1 := by kernel_rfl
theorem ap_ag_82 : aggA Try.prog 82 = some false := by kernel_rfl
theorem ap_sz_83 : sizeA Try.prog 83 = some 1 := by kernel_rfl
theorem ap_ag_83 : aggA Try.prog 83 = some false := by kernel_rfl
theorem ap_sz_84 : sizeA Try.prog 84 = some 1 := by kernel_rfl
theorem ap_ag_84 : aggA Try.prog 84 = some false := by kernel_rfl
theorem ap_sz_85 : sizeA Try.prog 85 = some 1 := by kernel_rfl
theorem ap_ag_85 : aggA Try.prog 85 = some false := by kernel_rfl
theorem ap_sz_86 : sizeA Try.prog 86 = some 1 := by kernel_rfl
theorem ap_ag_86 : aggA Try.prog 86 = some false := by kernel_rfl
theorem ap_sz_87 : sizeA Try.prog 87 = some 1 := by kernel_rfl
theorem ap_ag_87 : aggA Try.prog 87 = some false := by kernel_rfl
/-- The bag's cells. -/
def bagC (v : AV) : List AV := [.lst none 0 0 [], .lst none 0 0 [], .lst none 0 0 [], .lst none 0 0 [], .lst none 0 0 [], v, .lst none 0 0 [], .lst none 0 0 [], .lst none 0 0 [], .lst none 0 0 [], .lst none 0 0 [], .lst none 0 0 [], .lst none 0 0 [], .lst none 0 0 [], .lst none 0 0 [], .lst none 0 0 [], .lst none 0 0 [], .lst none 0 0 [], .lst none 0 0 [], .lst none 0 0 [], .lst none 0 0 [], .lst none 0 0 []]
theorem Own.form_ {σ : St} {e sz : Nat} {v : AV} {n : Nat} {cells : List AV} (h : Own σ e sz v n cells) : ∃ A c, v = .lst A n c cells ∧ (A = none → n = 0) := by
 obtain ⟨A, c, rfl, _, _, h1⟩ := h.form
 exact ⟨A, c, rfl, fun e => (h1 e).1⟩
theorem Own.blk_ {σ : St} {e sz : Nat} {v : AV} {n : Nat} {cells : List AV} {g : Nat} (h : Own σ e sz v n cells) (hg : v.blk = some g) : ∃ k s, σ.blk g = some (.tail e k s) := by
 rcases h.2 with ⟨rfl, _⟩ | ⟨g', c, rfl, _, _, h1, _⟩
 ·cases hg
 ·injection hg with hg
  change g' = g at hg
  subst hg
  exact ⟨_, _, h1⟩
section
variable {σ : St} {K : AV → St → Prop} {hs r0 : List AV}
set_option maxHeartbeats 1000000 in
theorem put_ok {bb n : Nat} {Lv v : AV} {ls : List AV} (hb : σ.blk bb = some (.own 89 (bagC Lv))) (hO : Own σ 23 1 Lv n ls) (hv : v.one = true ∧ notTup v = true ∧ v.cells = [v]) (hn : n ≤ 1000)
  (h : ∀ Lu τ, Own τ 23 1 Lu (n + 1) (ls ++ [v]) → τ.blk bb = some (.own 89 (bagC Lu)) → But (fun b => b = bb ∨ Lv.blk = some b) σ τ → (∀ g, Lu.blk = some g → Lv.blk = some g ∨ (σ.blk g = none ∧ ¬ σ.used g)) → K (.tup []) τ) : CallsA Try.prog 29 [ptr bb 0, v] σ K := by
 refine callsA_of fl_mixed Try.func29 rfl rfl rfl (Nat.le_of_ble_eq_true rfl) ?_
 refine comp2 0 1 (v0 := ptr bb 0) (v1 := v) rfl rfl ?_
 intro e he
 refine k_region1 ?_
 refine k_cons (c_mv rfl (by simp only [EV, Nat.reduceEqDiff, ↓reduceIte, he] <;> try rfl) ?_)
 refine k_cons (c_mv rfl (by simp only [EV, Nat.reduceEqDiff, ↓reduceIte, he] <;> try rfl) ?_)
 refine k_cons ?_
 refine s_nilCheck (v := ptr bb 0) (by simp only [EV, Nat.reduceEqDiff, ↓reduceIte, he] <;> try rfl) rfl ?_
 refine k_cons ?_
 refine s_fieldAddr (b := bb) (o := 0) (by simp only [EV, Nat.reduceEqDiff, ↓reduceIte, he] <;> try rfl) ap_stB rfl ?_
 obtain ⟨A, c, hLv, hA⟩ := hO.form_
 refine k_cons ?_
 refine r_load (b := bb) (o := 0 + 5) (r := Lv) (by simp only [EV, Nat.reduceEqDiff, ↓reduceIte, he] <;> try rfl) hb ap_agL ap_szL rfl ?_
 refine k_cons (c_mv rfl (by simp only [EV, Nat.reduceEqDiff, ↓reduceIte, he] <;> try rfl) ?_)
 refine k_cons ?_
 refine r_row (vs := [v]) (cells := [v]) (by simp only [List.map_cons, List.map_nil, EV, Nat.reduceEqDiff, ↓reduceIte, he]) fl_slL fl_szS fl_zeS rfl (by omega) ?_ rfl fun rb τ2 hN hX => ?_
 ·show (if (!notTup v || v.cells.length ≠ 1 || 0 * 1 + v.cells.length > _) then none else some (splice _ (0 * 1) v.cells)) = some [v]
  rw [hv.2.1, hv.2.2]
  rfl
 refine k_cons ?_
 refine r_append (by simp only [EV, Nat.reduceEqDiff, ↓reduceIte, he] <;> try rfl) (by simp only [EV, Nat.reduceEqDiff, ↓reduceIte, he] <;> try rfl) fl_slL fl_szS fl_zeS fl_byS rfl (by omega) (hO.ext hX) (m := 1) (by simp) (fun c hc => by
  have hc := List.mem_of_mem_take hc
  rw [List.mem_singleton.1 hc]
  exact hv.1) (by omega) fun Lu τ3 hO3 hbt hnw => ?_
 have hb3 : τ3.blk bb = some (.own 89 (bagC Lv)) := hbt.keep _ _ (fun hg => by
  obtain ⟨k, s, h1⟩ := hO.blk_ hg
  rw [hb] at h1
  cases h1) (hX.keep _ _ hb)
 refine k_cons ?_
 refine s_nilCheck (v := ptr bb 0) (by simp only [EV, Nat.reduceEqDiff, ↓reduceIte, he] <;> try rfl) rfl ?_
 refine k_cons ?_
 refine s_fieldAddr (b := bb) (o := 0) (by simp only [EV, Nat.reduceEqDiff, ↓reduceIte, he] <;> try rfl) ap_stB rfl ?_
 obtain ⟨A2, c2, hLu, hA2⟩ := hO3.form_
 refine k_cons ?_
 refine r_store (b := bb) (o := 0 + 5) (u := Lu) (cs' := bagC Lu) (by simp only [EV, Nat.reduceEqDiff, ↓reduceIte, he] <;> try rfl) (by simp only [EV, Nat.reduceEqDiff, ↓reduceIte, he] <;> try rfl) hb3 ap_szL (by rw [hLu]; rfl) (by rw [hLu]; rfl) fun τ4 hb4 hk4 => ?_
 refine k_nil ?_
 show ∃ r, aResults _ _ _ _ r ∧ _
 refine ⟨_, res_none rfl, h Lu τ4 (hO3.but hk4 fun g hg e => ?_) hb4 ?_ fun g hg => ?_⟩
 ·subst e
  obtain ⟨k, s, h1⟩ := hO3.blk_ hg
  rw [hb3] at h1
  cases h1
 ·refine (hX.but.trans (hbt.sub fun b hb => .inr hb)).trans (hk4.sub fun b hb => .inl hb)
 ·rcases hnw g hg with h | h
  ·exact .inl h
  ·exact .inr ⟨hX.noneOf h.1, hX.unused h.2⟩
theorem l_comp {P : Program} {ops : Array Oper} {l : List Oper} {env : Env} {σ : St} {K : Env → St → Prop} (F : Env → Prop) (h0 : F env) (h : ∀ e, F e → aList P ops l e σ K) : aList P ops l env σ K := h _ h0
theorem y_of {ops : Array Oper} {env : Env} {j d : Nat} {b : Bool} (hd : (ops[j]?).bind (·.dst) = some d) (hv : env d = vT b) : yieldedA ops env j = some b := by
 unfold yieldedA
 rw [hd]
 dsimp only
 rw [hv]
 rfl
set_option maxHeartbeats 4000000 in
theorem bag_ok {bb : Nat} {Lv : AV} {S : Nat → Prop} (hb0 : σ.blk bb = some (.own 89 (bagC Lv))) (hS : ¬ S bb)
  (hn0 : ∀ (τ : St) (K : AV → St → Prop), (∀ τ2, Ext τ τ2 → K (vT true) τ2) → CallsA Try.prog 38 [.lst none 0 0 []] τ K)
  (hn1 : ∀ (τ : St) (K : AV → St → Prop), (∀ τ2, Ext τ τ2 → K (vT true) τ2) → CallsA Try.prog 39 [.lst none 0 0 []] τ K)
  (hn2 : ∀ (τ : St) (K : AV → St → Prop), (∀ τ2, Ext τ τ2 → K (vT true) τ2) → CallsA Try.prog 40 [.lst none 0 0 []] τ K)
  (hn3 : ∀ (τ : St) (K : AV → St → Prop), (∀ τ2, Ext τ τ2 → K (vT true) τ2) → CallsA Try.prog 41 [.lst none 0 0 []] τ K)
  (hn4 : ∀ (τ : St) (K : AV → St → Prop), (∀ τ2, Ext τ τ2 → K (vT true) τ2) → CallsA Try.prog 42 [.lst none 0 0 []] τ K)
  (hn6 : ∀ (τ : St) (K : AV → St → Prop), (∀ τ2, Ext τ τ2 → K (vT true) τ2) → CallsA Try.prog 44 [.lst none 0 0 []] τ K)
  (hn7 : ∀ (τ : St) (K : AV → St → Prop), (∀ τ2, Ext τ τ2 → K (vT true) τ2) → CallsA Try.prog 45 [.lst none 0 0 []] τ K)
  (hn8 : ∀ (τ : St) (K : AV → St → Prop), (∀ τ2, Ext τ τ2 → K (vT true) τ2) → CallsA Try.prog 46 [.lst none 0 0 []] τ K)
  (hn9 : ∀ (τ : St) (K : AV → St → Prop), (∀ τ2, Ext τ τ2 → K (vT true) τ2) → CallsA Try.prog 47 [.lst none 0 0 []] τ K)
  (hn10 : ∀ (τ : St) (K : AV → St → Prop), (∀ τ2, Ext τ τ2 → K (vT true) τ2) → CallsA Try.prog 48 [.lst none 0 0 []] τ K)
  (hn11 : ∀ (τ : St) (K : AV → St → Prop), (∀ τ2, Ext τ τ2 → K (vT true) τ2) → CallsA Try.prog 49 [.lst none 0 0 []] τ K)
  (hn12 : ∀ (τ : St) (K : AV → St → Prop), (∀ τ2, Ext τ τ2 → K (vT true) τ2) → CallsA Try.prog 50 [.lst none 0 0 []] τ K)
  (hn13 : ∀ (τ : St) (K : AV → St → Prop), (∀ τ2, Ext τ τ2 → K (vT true) τ2) → CallsA Try.prog 51 [.lst none 0 0 []] τ K)
  (hn14 : ∀ (τ : St) (K : AV → St → Prop), (∀ τ2, Ext τ τ2 → K (vT true) τ2) → CallsA Try.prog 52 [.lst none 0 0 []] τ K)
  (hn15 : ∀ (τ : St) (K : AV → St → Prop), (∀ τ2, Ext τ τ2 → K (vT true) τ2) → CallsA Try.prog 53 [.lst none 0 0 []] τ K)
  (hn16 : ∀ (τ : St) (K : AV → St → Prop), (∀ τ2, Ext τ τ2 → K (vT true) τ2) → CallsA Try.prog 54 [.lst none 0 0 []] τ K)
  (hn17 : ∀ (τ : St) (K : AV → St → Prop), (∀ τ2, Ext τ τ2 → K (vT true) τ2) → CallsA Try.prog 55 [.lst none 0 0 []] τ K)
  (hn18 : ∀ (τ : St) (K : AV → St → Prop), (∀ τ2, Ext τ τ2 → K (vT true) τ2) → CallsA Try.prog 56 [.lst none 0 0 []] τ K)
  (hn19 : ∀ (τ : St) (K : AV → St → Prop), (∀ τ2, Ext τ τ2 → K (vT true) τ2) → CallsA Try.prog 57 [.lst none 0 0 []] τ K)
  (hn20 : ∀ (τ : St) (K : AV → St → Prop), (∀ τ2, Ext τ τ2 → K (vT true) τ2) → CallsA Try.prog 58 [.lst none 0 0 []] τ K)
  (hn21 : ∀ (τ : St) (K : AV → St → Prop), (∀ τ2, Ext τ τ2 → K (vT true) τ2) → CallsA Try.prog 59 [.lst none 0 0 []] τ K)
  (hfl : ∀ (τ : St) (K : AV → St → Prop), Ext σ τ → (∀ τ', But S τ τ' → K (vT true) τ') → CallsA Try.prog 43 [Lv] τ K)
  (h : ∀ τ, But S σ τ → K (vT true) τ) : CallsA Try.prog 30 [ptr bb 0] σ K := by
 have hX0 := Ext.refl σ
 refine callsA_of fl_mixed Try.func30 rfl rfl rfl (Nat.le_of_ble_eq_true rfl) ?_
 refine comp1 0 (v0 := ptr bb 0) rfl ?_
 intro e he
 refine k_region ?_
 refine k_cons (c_mv rfl (by simp only [EV, Nat.reduceEqDiff, ↓reduceIte, he] <;> try rfl) ?_)
 refine k_nil ?_
 apply comp1 0
 ·simp only [EV, Nat.reduceEqDiff, ↓reduceIte, he] <;> try rfl
 clear he e
 intro e he
 refine k_region ?_
 refine k_cons ?_
 refine s_move (v := ptr bb 0) he ?_
 refine k_cons ?_
 refine s_nilCheck (v := ptr bb 0) rfl rfl ?_
 refine k_cons ?_
 refine s_fieldAddr (b := bb) (o := 0) rfl ap_stB rfl ?_
 refine k_cons ?_
 refine r_load (b := bb) (o := 0 + 0) (r := .lst none 0 0 []) rfl hb0 ap_ag_67 ap_sz_67 rfl ?_
 refine k_cons ?_
 refine s_call (vs := [.lst none 0 0 []]) rfl ?_
 refine hn0 _ _ fun τ1 hx1 => ?_
 have hb1 := hx1.keep _ _ hb0
 have hX1 := hX0.trans hx1
 refine k_cons ?_
 refine s_move (v := vT true) rfl ?_
 refine l_comp (fun e => e 0 = ptr bb 0 ∧ e 8 = vT true) ⟨he, rfl⟩ ?_
 clear he e
 intro e he
 refine k_cons ?_
 refine s_guard_on (y_of rfl he.2) ?_
 refine s_move (v := ptr bb 0) he.1 ?_
 refine k_cons ?_
 refine s_guard_on (y_of rfl he.2) ?_
 refine s_nilCheck (v := ptr bb 0) rfl rfl ?_
 refine k_cons ?_
 refine s_guard_on (y_of rfl he.2) ?_
 refine s_fieldAddr (b := bb) (o := 0) rfl ap_stB rfl ?_
 refine k_cons ?_
 refine s_guard_on (y_of rfl he.2) ?_
 refine r_load (b := bb) (o := 0 + 1) (r := .lst none 0 0 []) rfl hb1 ap_ag_68 ap_sz_68 rfl ?_
 refine k_cons ?_
 refine s_guard_on (y_of rfl he.2) ?_
 refine s_call (vs := [.lst none 0 0 []]) rfl ?_
 refine hn1 _ _ fun τ2 hx2 => ?_
 have hb2 := hx2.keep _ _ hb1
 have hX2 := hX1.trans hx2
 refine k_cons ?_
 refine s_pick_t (v := vT true) he.2 rfl ?_
 refine k_cons ?_
 refine s_move (v := vT true) rfl ?_
 refine l_comp (fun e => e 0 = ptr bb 0 ∧ e 15 = vT true) ⟨he.1, rfl⟩ ?_
 clear he e
 intro e he
 refine k_cons ?_
 refine s_guard_on (y_of rfl he.2) ?_
 refine s_move (v := ptr bb 0) he.1 ?_
 refine k_cons ?_
 refine s_guard_on (y_of rfl he.2) ?_
 refine s_nilCheck (v := ptr bb 0) rfl rfl ?_
 refine k_cons ?_
 refine s_guard_on (y_of rfl he.2) ?_
 refine s_fieldAddr (b := bb) (o := 0) rfl ap_stB rfl ?_
 refine k_cons ?_
 refine s_guard_on (y_of rfl he.2) ?_
 refine r_load (b := bb) (o := 0 + 2) (r := .lst none 0 0 []) rfl hb2 ap_ag_69 ap_sz_69 rfl ?_
 refine k_cons ?_
 refine s_guard_on (y_of rfl he.2) ?_
 refine s_call (vs := [.lst none 0 0 []]) rfl ?_
 refine hn2 _ _ fun τ3 hx3 => ?_
 have hb3 := hx3.keep _ _ hb2
 have hX3 := hX2.trans hx3
 refine k_cons ?_
 refine s_pick_t (v := vT true) he.2 rfl ?_
 refine k_cons ?_
 refine s_move (v := vT true) rfl ?_
 refine l_comp (fun e => e 0 = ptr bb 0 ∧ e 22 = vT true) ⟨he.1, rfl⟩ ?_
 clear he e
 intro e he
 refine k_cons ?_
 refine s_guard_on (y_of rfl he.2) ?_
 refine s_move (v := ptr bb 0) he.1 ?_
 refine k_cons ?_
 refine s_guard_on (y_of rfl he.2) ?_
 refine s_nilCheck (v := ptr bb 0) rfl rfl ?_
 refine k_cons ?_
 refine s_guard_on (y_of rfl he.2) ?_
 refine s_fieldAddr (b := bb) (o := 0) rfl ap_stB rfl ?_
 refine k_cons ?_
 refine s_guard_on (y_of rfl he.2) ?_
 refine r_load (b := bb) (o := 0 + 3) (r := .lst none 0 0 []) rfl hb3 ap_ag_70 ap_sz_70 rfl ?_
 refine k_cons ?_
 refine s_guard_on (y_of rfl he.2) ?_
 refine s_call (vs := [.lst none 0 0 []]) rfl ?_
 refine hn3 _ _ fun τ4 hx4 => ?_
 have hb4 := hx4.keep _ _ hb3
 have hX4 := hX3.trans hx4
 refine k_cons ?_
 refine s_pick_t (v := vT true) he.2 rfl ?_
 refine k_cons ?_
 refine s_move (v := vT true) rfl ?_
 refine l_comp (fun e => e 0 = ptr bb 0 ∧ e 29 = vT true) ⟨he.1, rfl⟩ ?_
 clear he e
 intro e he
 refine k_cons ?_
 refine s_guard_on (y_of rfl he.2) ?_
 refine s_move (v := ptr bb 0) he.1 ?_
 refine k_cons ?_
 refine s_guard_on (y_of rfl he.2) ?_
 refine s_nilCheck (v := ptr bb 0) rfl rfl ?_
 refine k_cons ?_
 refine s_guard_on (y_of rfl he.2) ?_
 refine s_fieldAddr (b := bb) (o := 0) rfl ap_stB rfl ?_
 refine k_cons ?_
 refine s_guard_on (y_of rfl he.2) ?_
 refine r_load (b := bb) (o := 0 + 4) (r := .lst none 0 0 []) rfl hb4 ap_ag_71 ap_sz_71 rfl ?_
 refine k_cons ?_
 refine s_guard_on (y_of rfl he.2) ?_
 refine s_call (vs := [.lst none 0 0 []]) rfl ?_
 refine hn4 _ _ fun τ5 hx5 => ?_
 have hb5 := hx5.keep _ _ hb4
 have hX5 := hX4.trans hx5
 refine k_cons ?_
 refine s_pick_t (v := vT true) he.2 rfl ?_
 refine k_cons ?_
 refine s_move (v := vT true) rfl ?_
 refine l_comp (fun e => e 0 = ptr bb 0 ∧ e 36 = vT true) ⟨he.1, rfl⟩ ?_
 clear he e
 intro e he
 refine k_cons ?_
 refine s_guard_on (y_of rfl he.2) ?_
 refine s_move (v := ptr bb 0) he.1 ?_
 refine k_cons ?_
 refine s_guard_on (y_of rfl he.2) ?_
 refine s_nilCheck (v := ptr bb 0) rfl rfl ?_
 refine k_cons ?_
 refine s_guard_on (y_of rfl he.2) ?_
 refine s_fieldAddr (b := bb) (o := 0) rfl ap_stB rfl ?_
 refine k_cons ?_
 refine s_guard_on (y_of rfl he.2) ?_
 refine r_load (b := bb) (o := 0 + 5) (r := Lv) rfl hb5 ap_ag_26 ap_sz_26 rfl ?_
 refine k_cons ?_
 refine s_guard_on (y_of rfl he.2) ?_
 refine s_call (vs := [Lv]) rfl ?_
 refine hfl _ _ hX5 fun τ6 hx6 => ?_
 have hb6 := hx6.keep _ _ hS hb5
 have hX6 := hX5.but.trans hx6
 refine k_cons ?_
 refine s_pick_t (v := vT true) he.2 rfl ?_
 refine k_cons ?_
 refine s_move (v := vT true) rfl ?_
 refine l_comp (fun e => e 0 = ptr bb 0 ∧ e 43 = vT true) ⟨he.1, rfl⟩ ?_
 clear he e
 intro e he
 refine k_cons ?_
 refine s_guard_on (y_of rfl he.2) ?_
 refine s_move (v := ptr bb 0) he.1 ?_
 refine k_cons ?_
 refine s_guard_on (y_of rfl he.2) ?_
 refine s_nilCheck (v := ptr bb 0) rfl rfl ?_
 refine k_cons ?_
 refine s_guard_on (y_of rfl he.2) ?_
 refine s_fieldAddr (b := bb) (o := 0) rfl ap_stB rfl ?_
 refine k_cons ?_
 refine s_guard_on (y_of rfl he.2) ?_
 refine r_load (b := bb) (o := 0 + 6) (r := .lst none 0 0 []) rfl hb6 ap_ag_72 ap_sz_72 rfl ?_
 refine k_cons ?_
 refine s_guard_on (y_of rfl he.2) ?_
 refine s_call (vs := [.lst none 0 0 []]) rfl ?_
 refine hn6 _ _ fun τ7 hx7 => ?_
 have hb7 := hx7.keep _ _ hb6
 have hX7 := hX6.trans hx7.but
 refine k_cons ?_
 refine s_pick_t (v := vT true) he.2 rfl ?_
 refine k_cons ?_
 refine s_move (v := vT true) rfl ?_
 refine l_comp (fun e => e 0 = ptr bb 0 ∧ e 50 = vT true) ⟨he.1, rfl⟩ ?_
 clear he e
 intro e he
 refine k_cons ?_
 refine s_guard_on (y_of rfl he.2) ?_
 refine s_move (v := ptr bb 0) he.1 ?_
 refine k_cons ?_
 refine s_guard_on (y_of rfl he.2) ?_
 refine s_nilCheck (v := ptr bb 0) rfl rfl ?_
 refine k_cons ?_
 refine s_guard_on (y_of rfl he.2) ?_
 refine s_fieldAddr (b := bb) (o := 0) rfl ap_stB rfl ?_
 refine k_cons ?_
 refine s_guard_on (y_of rfl he.2) ?_
 refine r_load (b := bb) (o := 0 + 7) (r := .lst none 0 0 []) rfl hb7 ap_ag_73 ap_sz_73 rfl ?_
 refine k_cons ?_
 refine s_guard_on (y_of rfl he.2) ?_
 refine s_call (vs := [.lst none 0 0 []]) rfl ?_
 refine hn7 _ _ fun τ8 hx8 => ?_
 have hb8 := hx8.keep _ _ hb7
 have hX8 := hX7.trans hx8.but
 refine k_cons ?_
 refine s_pick_t (v := vT true) he.2 rfl ?_
 refine k_cons ?_
 refine s_move (v := vT true) rfl ?_
 refine l_comp (fun e => e 0 = ptr bb 0 ∧ e 57 = vT true) ⟨he.1, rfl⟩ ?_
 clear he e
 intro e he
 refine k_cons ?_
 refine s_guard_on (y_of rfl he.2) ?_
 refine s_move (v := ptr bb 0) he.1 ?_
 refine k_cons ?_
 refine s_guard_on (y_of rfl he.2) ?_
 refine s_nilCheck (v := ptr bb 0) rfl rfl ?_
 refine k_cons ?_
 refine s_guard_on (y_of rfl he.2) ?_
 refine s_fieldAddr (b := bb) (o := 0) rfl ap_stB rfl ?_
 refine k_cons ?_
 refine s_guard_on (y_of rfl he.2) ?_
 refine r_load (b := bb) (o := 0 + 8) (r := .lst none 0 0 []) rfl hb8 ap_ag_74 ap_sz_74 rfl ?_
 refine k_cons ?_
 refine s_guard_on (y_of rfl he.2) ?_
 refine s_call (vs := [.lst none 0 0 []]) rfl ?_
 refine hn8 _ _ fun τ9 hx9 => ?_
 have hb9 := hx9.keep _ _ hb8
 have hX9 := hX8.trans hx9.but
 refine k_cons ?_
 refine s_pick_t (v := vT true) he.2 rfl ?_
 refine k_cons ?_
 refine s_move (v := vT true) rfl ?_
 refine l_comp (fun e => e 0 = ptr bb 0 ∧ e 64 = vT true) ⟨he.1, rfl⟩ ?_
 clear he e
 intro e he
 refine k_cons ?_
 refine s_guard_on (y_of rfl he.2) ?_
 refine s_move (v := ptr bb 0) he.1 ?_
 refine k_cons ?_
 refine s_guard_on (y_of rfl he.2) ?_
 refine s_nilCheck (v := ptr bb 0) rfl rfl ?_
 refine k_cons ?_
 refine s_guard_on (y_of rfl he.2) ?_
 refine s_fieldAddr (b := bb) (o := 0) rfl ap_stB rfl ?_
 refine k_cons ?_
 refine s_guard_on (y_of rfl he.2) ?_
 refine r_load (b := bb) (o := 0 + 9) (r := .lst none 0 0 []) rfl hb9 ap_ag_75 ap_sz_75 rfl ?_
 refine k_cons ?_
 refine s_guard_on (y_of rfl he.2) ?_
 refine s_call (vs := [.lst none 0 0 []]) rfl ?_
 refine hn9 _ _ fun τ10 hx10 => ?_
 have hb10 := hx10.keep _ _ hb9
 have hX10 := hX9.trans hx10.but
 refine k_cons ?_
 refine s_pick_t (v := vT true) he.2 rfl ?_
 refine k_cons ?_
 refine s_move (v := vT true) rfl ?_
 refine l_comp (fun e => e 0 = ptr bb 0 ∧ e 71 = vT true) ⟨he.1, rfl⟩ ?_
 clear he e
 intro e he
 refine k_cons ?_
 refine s_guard_on (y_of rfl he.2) ?_
 refine s_move (v := ptr bb 0) he.1 ?_
 refine k_cons ?_
 refine s_guard_on (y_of rfl he.2) ?_
 refine s_nilCheck (v := ptr bb 0) rfl rfl ?_
 refine k_cons ?_
 refine s_guard_on (y_of rfl he.2) ?_
 refine s_fieldAddr (b := bb) (o := 0) rfl ap_stB rfl ?_
 refine k_cons ?_
 refine s_guard_on (y_of rfl he.2) ?_
 refine r_load (b := bb) (o := 0 + 10) (r := .lst none 0 0 []) rfl hb10 ap_ag_76 ap_sz_76 rfl ?_
 refine k_cons ?_
 refine s_guard_on (y_of rfl he.2) ?_
 refine s_call (vs := [.lst none 0 0 []]) rfl ?_
 refine hn10 _ _ fun τ11 hx11 => ?_
 have hb11 := hx11.keep _ _ hb10
 have hX11 := hX10.trans hx11.but
 refine k_cons ?_
 refine s_pick_t (v := vT true) he.2 rfl ?_
 refine k_cons ?_
 refine s_move (v := vT true) rfl ?_
 refine l_comp (fun e => e 0 = ptr bb 0 ∧ e 78 = vT true) ⟨he.1, rfl⟩ ?_
 clear he e
 intro e he
 refine k_cons ?_
 refine s_guard_on (y_of rfl he.2) ?_
 refine s_move (v := ptr bb 0) he.1 ?_
 refine k_cons ?_
 refine s_guard_on (y_of rfl he.2) ?_
 refine s_nilCheck (v := ptr bb 0) rfl rfl ?_
 refine k_cons ?_
 refine s_guard_on (y_of rfl he.2) ?_
 refine s_fieldAddr (b := bb) (o := 0) rfl ap_stB rfl ?_
 refine k_cons ?_
 refine s_guard_on (y_of rfl he.2) ?_
 refine r_load (b := bb) (o := 0 + 11) (r := .lst none 0 0 []) rfl hb11 ap_ag_77 ap_sz_77 rfl ?_
 refine k_cons ?_
 refine s_guard_on (y_of rfl he.2) ?_
 refine s_call (vs := [.lst none 0 0 []]) rfl ?_
 refine hn11 _ _ fun τ12 hx12 => ?_
 have hb12 := hx12.keep _ _ hb11
 have hX12 := hX11.trans hx12.but
 refine k_cons ?_
 refine s_pick_t (v := vT true) he.2 rfl ?_
 refine k_cons ?_
 refine s_move (v := vT true) rfl ?_
 refine l_comp (fun e => e 0 = ptr bb 0 ∧ e 85 = vT true) ⟨he.1, rfl⟩ ?_
 clear he e
 intro e he
 refine k_cons ?_
 refine s_guard_on (y_of rfl he.2) ?_
 refine s_move (v := ptr bb 0) he.1 ?_
 refine k_cons ?_
 refine s_guard_on (y_of rfl he.2) ?_
 refine s_nilCheck (v := ptr bb 0) rfl rfl ?_
 refine k_cons ?_
 refine s_guard_on (y_of rfl he.2) ?_
 refine s_fieldAddr (b := bb) (o := 0) rfl ap_stB rfl ?_
 refine k_cons ?_
 refine s_guard_on (y_of rfl he.2) ?_
 refine r_load (b := bb) (o := 0 + 12) (r := .lst none 0 0 []) rfl hb12 ap_ag_78 ap_sz_78 rfl ?_
 refine k_cons ?_
 refine s_guard_on (y_of rfl he.2) ?_
 refine s_call (vs := [.lst none 0 0 []]) rfl ?_
 refine hn12 _ _ fun τ13 hx13 => ?_
 have hb13 := hx13.keep _ _ hb12
 have hX13 := hX12.trans hx13.but
 refine k_cons ?_
 refine s_pick_t (v := vT true) he.2 rfl ?_
 refine k_cons ?_
 refine s_move (v := vT true) rfl ?_
 refine l_comp (fun e => e 0 = ptr bb 0 ∧ e 92 = vT true) ⟨he.1, rfl⟩ ?_
 clear he e
 intro e he
 refine k_cons ?_
 refine s_guard_on (y_of rfl he.2) ?_
 refine s_move (v := ptr bb 0) he.1 ?_
 refine k_cons ?_
 refine s_guard_on (y_of rfl he.2) ?_
 refine s_nilCheck (v := ptr bb 0) rfl rfl ?_
 refine k_cons ?_
 refine s_guard_on (y_of rfl he.2) ?_
 refine s_fieldAddr (b := bb) (o := 0) rfl ap_stB rfl ?_
 refine k_cons ?_
 refine s_guard_on (y_of rfl he.2) ?_
 refine r_load (b := bb) (o := 0 + 13) (r := .lst none 0 0 []) rfl hb13 ap_ag_79 ap_sz_79 rfl ?_
 refine k_cons ?_
 refine s_guard_on (y_of rfl he.2) ?_
 refine s_call (vs := [.lst none 0 0 []]) rfl ?_
 refine hn13 _ _ fun τ14 hx14 => ?_
 have hb14 := hx14.keep _ _ hb13
 have hX14 := hX13.trans hx14.but
 refine k_cons ?_
 refine s_pick_t (v := vT true) he.2 rfl ?_
 refine k_cons ?_
 refine s_move (v := vT true) rfl ?_
 refine l_comp (fun e => e 0 = ptr bb 0 ∧ e 99 = vT true) ⟨he.1, rfl⟩ ?_
 clear he e
 intro e he
 refine k_cons ?_
 refine s_guard_on (y_of rfl he.2) ?_
 refine s_move (v := ptr bb 0) he.1 ?_
 refine k_cons ?_
 refine s_guard_on (y_of rfl he.2) ?_
 refine s_nilCheck (v := ptr bb 0) rfl rfl ?_
 refine k_cons ?_
 refine s_guard_on (y_of rfl he.2) ?_
 refine s_fieldAddr (b := bb) (o := 0) rfl ap_stB rfl ?_
 refine k_cons ?_
 refine s_guard_on (y_of rfl he.2) ?_
 refine r_load (b := bb) (o := 0 + 14) (r := .lst none 0 0 []) rfl hb14 ap_ag_80 ap_sz_80 rfl ?_
 refine k_cons ?_
 refine s_guard_on (y_of rfl he.2) ?_
 refine s_call (vs := [.lst none 0 0 []]) rfl ?_
 refine hn14 _ _ fun τ15 hx15 => ?_
 have hb15 := hx15.keep _ _ hb14
 have hX15 := hX14.trans hx15.but
 refine k_cons ?_
 refine s_pick_t (v := vT true) he.2 rfl ?_
 refine k_cons ?_
 refine s_move (v := vT true) rfl ?_
 refine l_comp (fun e => e 0 = ptr bb 0 ∧ e 106 = vT true) ⟨he.1, rfl⟩ ?_
 clear he e
 intro e he
 refine k_cons ?_
 refine s_guard_on (y_of rfl he.2) ?_
 refine s_move (v := ptr bb 0) he.1 ?_
 refine k_cons ?_
 refine s_guard_on (y_of rfl he.2) ?_
 refine s_nilCheck (v := ptr bb 0) rfl rfl ?_
 refine k_cons ?_
 refine s_guard_on (y_of rfl he.2) ?_
 refine s_fieldAddr (b := bb) (o := 0) rfl ap_stB rfl ?_
 refine k_cons ?_
 refine s_guard_on (y_of rfl he.2) ?_
 refine r_load (b := bb) (o := 0 + 15) (r := .lst none 0 0 []) rfl hb15 ap_ag_81 ap_sz_81 rfl ?_
 refine k_cons ?_
 refine s_guard_on (y_of rfl he.2) ?_
 refine s_call (vs := [.lst none 0 0 []]) rfl ?_
 refine hn15 _ _ fun τ16 hx16 => ?_
 have hb16 := hx16.keep _ _ hb15
 have hX16 := hX15.trans hx16.but
 refine k_cons ?_
 refine s_pick_t (v := vT true) he.2 rfl ?_
 refine k_cons ?_
 refine s_move (v := vT true) rfl ?_
 refine l_comp (fun e => e 0 = ptr bb 0 ∧ e 113 = vT true) ⟨he.1, rfl⟩ ?_
 clear he e
 intro e he
 refine k_cons ?_
 refine s_guard_on (y_of rfl he.2) ?_
 refine s_move (v := ptr bb 0) he.1 ?_
 refine k_cons ?_
 refine s_guard_on (y_of rfl he.2) ?_
 refine s_nilCheck (v := ptr bb 0) rfl rfl ?_
 refine k_cons ?_
 refine s_guard_on (y_of rfl he.2) ?_
 refine s_fieldAddr (b := bb) (o := 0) rfl ap_stB rfl ?_
 refine k_cons ?_
 refine s_guard_on (y_of rfl he.2) ?_
 refine r_load (b := bb) (o := 0 + 16) (r := .lst none 0 0 []) rfl hb16 ap_ag_82 ap_sz_82 rfl ?_
 refine k_cons ?_
 refine s_guard_on (y_of rfl he.2) ?_
 refine s_call (vs := [.lst none 0 0 []]) rfl ?_
 refine hn16 _ _ fun τ17 hx17 => ?_
 have hb17 := hx17.keep _ _ hb16
 have hX17 := hX16.trans hx17.but
 refine k_cons ?_
 refine s_pick_t (v := vT true) he.2 rfl ?_
 refine k_cons ?_
 refine s_move (v := vT true) rfl ?_
 refine l_comp (fun e => e 0 = ptr bb 0 ∧ e 120 = vT true) ⟨he.1, rfl⟩ ?_
 clear he e
 intro e he
 refine k_cons ?_
 refine s_guard_on (y_of rfl he.2) ?_
 refine s_move (v := ptr bb 0) he.1 ?_
 refine k_cons ?_
 refine s_guard_on (y_of rfl he.2) ?_
 refine s_nilCheck (v := ptr bb 0) rfl rfl ?_
 refine k_cons ?_
 refine s_guard_on (y_of rfl he.2) ?_
 refine s_fieldAddr (b := bb) (o := 0) rfl ap_stB rfl ?_
 refine k_cons ?_
 refine s_guard_on (y_of rfl he.2) ?_
 refine r_load (b := bb) (o := 0 + 17) (r := .lst none 0 0 []) rfl hb17 ap_ag_83 ap_sz_83 rfl ?_
 refine k_cons ?_
 refine s_guard_on (y_of rfl he.2) ?_
 refine s_call (vs := [.lst none 0 0 []]) rfl ?_
 refine hn17 _ _ fun τ18 hx18 => ?_
 have hb18 := hx18.keep _ _ hb17
 have hX18 := hX17.trans hx18.but
 refine k_cons ?_
 refine s_pick_t (v := vT true) he.2 rfl ?_
 refine k_cons ?_
 refine s_move (v := vT true) rfl ?_
 refine l_comp (fun e => e 0 = ptr bb 0 ∧ e 127 = vT true) ⟨he.1, rfl⟩ ?_
 clear he e
 intro e he
 refine k_cons ?_
 refine s_guard_on (y_of rfl he.2) ?_
 refine s_move (v := ptr bb 0) he.1 ?_
 refine k_cons ?_
 refine s_guard_on (y_of rfl he.2) ?_
 refine s_nilCheck (v := ptr bb 0) rfl rfl ?_
 refine k_cons ?_
 refine s_guard_on (y_of rfl he.2) ?_
 refine s_fieldAddr (b := bb) (o := 0) rfl ap_stB rfl ?_
 refine k_cons ?_
 refine s_guard_on (y_of rfl he.2) ?_
 refine r_load (b := bb) (o := 0 + 18) (r := .lst none 0 0 []) rfl hb18 ap_ag_84 ap_sz_84 rfl ?_
 refine k_cons ?_
 refine s_guard_on (y_of rfl he.2) ?_
 refine s_call (vs := [.lst none 0 0 []]) rfl ?_
 refine hn18 _ _ fun τ19 hx19 => ?_
 have hb19 := hx19.keep _ _ hb18
 have hX19 := hX18.trans hx19.but
 refine k_cons ?_
 refine s_pick_t (v := vT true) he.2 rfl ?_
 refine k_cons ?_
 refine s_move (v := vT true) rfl ?_
 refine l_comp (fun e => e 0 = ptr bb 0 ∧ e 134 = vT true) ⟨he.1, rfl⟩ ?_
 clear he e
 intro e he
 refine k_cons ?_
 refine s_guard_on (y_of rfl he.2) ?_
 refine s_move (v := ptr bb 0) he.1 ?_
 refine k_cons ?_
 refine s_guard_on (y_of rfl he.2) ?_
 refine s_nilCheck (v := ptr bb 0) rfl rfl ?_
 refine k_cons ?_
 refine s_guard_on (y_of rfl he.2) ?_
 refine s_fieldAddr (b := bb) (o := 0) rfl ap_stB rfl ?_
 refine k_cons ?_
 refine s_guard_on (y_of rfl he.2) ?_
 refine r_load (b := bb) (o := 0 + 19) (r := .lst none 0 0 []) rfl hb19 ap_ag_85 ap_sz_85 rfl ?_
 refine k_cons ?_
 refine s_guard_on (y_of rfl he.2) ?_
 refine s_call (vs := [.lst none 0 0 []]) rfl ?_
 refine hn19 _ _ fun τ20 hx20 => ?_
 have hb20 := hx20.keep _ _ hb19
 have hX20 := hX19.trans hx20.but
 refine k_cons ?_
 refine s_pick_t (v := vT true) he.2 rfl ?_
 refine k_cons ?_
 refine s_move (v := vT true) rfl ?_
 refine l_comp (fun e => e 0 = ptr bb 0 ∧ e 141 = vT true) ⟨he.1, rfl⟩ ?_
 clear he e
 intro e he
 refine k_cons ?_
 refine s_guard_on (y_of rfl he.2) ?_
 refine s_move (v := ptr bb 0) he.1 ?_
 refine k_cons ?_
 refine s_guard_on (y_of rfl he.2) ?_
 refine s_nilCheck (v := ptr bb 0) rfl rfl ?_
 refine k_cons ?_
 refine s_guard_on (y_of rfl he.2) ?_
 refine s_fieldAddr (b := bb) (o := 0) rfl ap_stB rfl ?_
 refine k_cons ?_
 refine s_guard_on (y_of rfl he.2) ?_
 refine r_load (b := bb) (o := 0 + 20) (r := .lst none 0 0 []) rfl hb20 ap_ag_86 ap_sz_86 rfl ?_
 refine k_cons ?_
 refine s_guard_on (y_of rfl he.2) ?_
 refine s_call (vs := [.lst none 0 0 []]) rfl ?_
 refine hn20 _ _ fun τ21 hx21 => ?_
 have hb21 := hx21.keep _ _ hb20
 have hX21 := hX20.trans hx21.but
 refine k_cons ?_
 refine s_pick_t (v := vT true) he.2 rfl ?_
 refine k_cons ?_
 refine s_move (v := vT true) rfl ?_
 refine l_comp (fun e => e 0 = ptr bb 0 ∧ e 148 = vT true) ⟨he.1, rfl⟩ ?_
 clear he e
 intro e he
 refine k_cons ?_
 refine s_guard_on (y_of rfl he.2) ?_
 refine s_move (v := ptr bb 0) he.1 ?_
 refine k_cons ?_
 refine s_guard_on (y_of rfl he.2) ?_
 refine s_nilCheck (v := ptr bb 0) rfl rfl ?_
 refine k_cons ?_
 refine s_guard_on (y_of rfl he.2) ?_
 refine s_fieldAddr (b := bb) (o := 0) rfl ap_stB rfl ?_
 refine k_cons ?_
 refine s_guard_on (y_of rfl he.2) ?_
 refine r_load (b := bb) (o := 0 + 21) (r := .lst none 0 0 []) rfl hb21 ap_ag_87 ap_sz_87 rfl ?_
 refine k_cons ?_
 refine s_guard_on (y_of rfl he.2) ?_
 refine s_call (vs := [.lst none 0 0 []]) rfl ?_
 refine hn21 _ _ fun τ22 hx22 => ?_
 have hb22 := hx22.keep _ _ hb21
 have hX22 := hX21.trans hx22.but
 refine k_cons ?_
 refine s_pick_t (v := vT true) he.2 rfl ?_
 refine l_comp (fun e => e 0 = ptr bb 0 ∧ e 154 = vT true) ⟨he.1, rfl⟩ ?_
 clear he e
 intro e he
 refine k_cons (c_mv rfl (by simp only [EV, Nat.reduceEqDiff, ↓reduceIte, he] <;> try rfl) ?_)
 refine k_nil ?_
 refine k_ret1 ?_
 show ∃ r, aResults _ _ _ _ r ∧ _
 exact ⟨_, res_tmp rfl (by simp only [EV, Nat.reduceEqDiff, ↓reduceIte, he] <;> try rfl), h _ hX22⟩
set_option maxHeartbeats 1000000 in
theorem apart_ok {nn : Nat → Nat} {m : Nat → Nat → Int} {A : Option Addr} {c : Nat} {σ : St} {X0 : Nat → List AV}
  (hmk : ∀ (k i : Nat) (σ : St) (K : AV → St → Prop), (∀ τ, Ext σ τ → K (agg1 (mkS m k i)) τ) → CallsA Try.prog 23 [vI k, vI i] σ K)
  
  (hm : hs.length ≤ 1000) (hA : A = none → hs.length = 0) (hn : ∀ j, nn j ≤ 1000000) (h0 : FA hs nn σ X0) (hfar : ∀ (k : Nat) (v : AV), hs[k]? = some v → FarH hs k v) :
  CallsA Try.prog 18 [.lst A hs.length c (hs ++ r0)] σ fun r τ => r = vT true ∧ But (FS hs) σ τ := by
 have hSu : ∀ b, FS hs b → σ.used b := fun b ⟨j, v, hv, hb⟩ => (h0 j v hv).used hb
 refine callsA_of fl_mixed Try.func18 rfl rfl rfl (Nat.le_of_ble_eq_true rfl) ?_
 refine comp1 0 (v0 := .lst A hs.length c (hs ++ r0)) rfl ?_
 intro e he
 refine k_region ?_
 refine k_cons (c_mv rfl (by simp only [EV, Nat.reduceEqDiff, ↓reduceIte, he] <;> try rfl) ?_)
 refine k_nil ?_
 refine k_region ?_
 refine k_cons ?_
 refine s_build (vs := []) (cells := bagC (.lst none 0 0 [])) rfl ap_zeB ap_plB rfl ?_
 refine k_cons ?_
 refine r_box (v := .agg (bagC (.lst none 0 0 []))) (by simp only [EV, Nat.reduceEqDiff, ↓reduceIte, he] <;> try rfl) rfl fun bb υ hbn hbu hb hbv hX => ?_
 refine k_cons (c_mv rfl (by simp only [EV, Nat.reduceEqDiff, ↓reduceIte, he] <;> try rfl) ?_)
 refine k_nil ?_
 refine k_assoc ?_
 refine k_region ?_
 refine k_cons (c_mv rfl (by simp only [EV, Nat.reduceEqDiff, ↓reduceIte, he] <;> try rfl) ?_)
 refine k_nil ?_
 refine k_cutS (fun env υ => ∃ Lv, (env 3 = ptr bb 0) ∧ Ext σ υ ∧ υ.blk bb = some (.own 89 (bagC Lv)) ∧ Own υ 23 1 Lv hs.length hs) ?_ ?_
 ·apply comp3 0 3 4
  ·simp only [EV, Nat.reduceEqDiff, ↓reduceIte, he] <;> try rfl
  ·simp only [EV, Nat.reduceEqDiff, ↓reduceIte, he] <;> try rfl
  ·simp only [EV, Nat.reduceEqDiff, ↓reduceIte, he] <;> try rfl
  clear he e
  intro e he
  refine k_block1 ?_
  refine k_loopE (fun μ env υ => ∃ (k : Nat) (Lv : AV), μ = hs.length - k ∧ k ≤ hs.length ∧ (env 0 = .lst A hs.length c (hs ++ r0) ∧ env 3 = ptr bb 0 ∧ env 4 = vI k) ∧ Ext σ υ ∧ υ.blk bb = some (.own 89 (bagC Lv)) ∧ Own υ 23 1 Lv k (hs.take k) ∧ ∀ g, Lv.blk = some g → σ.blk g = none ∧ ¬ σ.used g) ⟨_, 0, .lst none 0 0 [], rfl, Nat.zero_le _, he, hX, hb, ⟨by simp, .inl ⟨rfl, rfl⟩⟩, fun g hg => by cases hg⟩ ?_
  clear he e hX hb hbv υ
  rintro _ e υ ⟨k, Lv, rfl, hk, he, hX, hb, hO, hL⟩
  refine k_assoc ?_
  refine k_region ?_
  refine k_cons (c_mv rfl (by simp only [EV, Nat.reduceEqDiff, ↓reduceIte, he] <;> try rfl) ?_)
  refine k_cons (c_mv rfl (by simp only [EV, Nat.reduceEqDiff, ↓reduceIte, he] <;> try rfl) ?_)
  refine k_cons ?_
  apply s_lenN (hts := rfl) (ht := fl_slL)
  ·simp only [EV, Nat.reduceEqDiff, ↓reduceIte, he] <;> try rfl
  ·exact AV.val_lst _ _ _ _
  refine k_cons ?_
  refine s_lssN k hs.length (by simp only [EV, Nat.reduceEqDiff, ↓reduceIte, he] <;> try rfl) (by simp only [EV, Nat.reduceEqDiff, ↓reduceIte, he] <;> try rfl) ?_
  refine k_nil ?_
  apply comp4 0 3 4 10
  ·simp only [EV, Nat.reduceEqDiff, ↓reduceIte, he] <;> try rfl
  ·simp only [EV, Nat.reduceEqDiff, ↓reduceIte, he] <;> try rfl
  ·simp only [EV, Nat.reduceEqDiff, ↓reduceIte, he] <;> try rfl
  ·simp only [EV, Nat.reduceEqDiff, ↓reduceIte, he] <;> try rfl
  clear he e
  intro e he
  refine k_cond (t := decide (k < hs.length)) (by simp only [EV, Nat.reduceEqDiff, ↓reduceIte, he] <;> try rfl) (fun ht => ?_) (fun ht => ?_)
  ·have hlt : k < hs.length := of_decide_eq_true ht
   obtain ⟨v, hv⟩ : ∃ v, hs[k]? = some v := ⟨hs[k], List.getElem?_eq_getElem hlt⟩
   have ho := (h0 k v hv).oneV
   refine k_skip ?_
   refine k_block ?_
   refine k_region1 ?_
   refine k_cons (c_mv rfl (by simp only [EV, Nat.reduceEqDiff, ↓reduceIte, he] <;> try rfl) ?_)
   refine k_cons (c_mv rfl (by simp only [EV, Nat.reduceEqDiff, ↓reduceIte, he] <;> try rfl) ?_)
   refine k_cons (c_mv rfl (by simp only [EV, Nat.reduceEqDiff, ↓reduceIte, he] <;> try rfl) ?_)
   refine k_cons ?_
   refine s_ixL (by simp only [EV, Nat.reduceEqDiff, ↓reduceIte, he] <;> try rfl) (by simp only [EV, Nat.reduceEqDiff, ↓reduceIte, he] <;> try rfl) hA fl_slL fl_szS hlt fun ad => ?_
   refine k_cons ?_
   refine s_ldL (by simp only [EV, Nat.reduceEqDiff, ↓reduceIte, he] <;> try rfl) hv fl_agS fl_szS ?_
   refine k_cons ?_
   refine s_call (vs := [ptr bb 0, v]) (by simp only [List.map_cons, List.map_nil, EV, Nat.reduceEqDiff, ↓reduceIte, he]) ?_
   refine put_ok hb hO ho (by omega) fun Lu τ hO2 hb2 hbt hnw => ?_
   refine k_nil ?_
   show aCode _ _ _ _ _ _
   refine k_region1 ?_
   refine k_cons (c_mv rfl (by simp only [EV, Nat.reduceEqDiff, ↓reduceIte, he] <;> try rfl) ?_)
   refine k_cons ?_
   refine s_addN k 1 (by simp only [EV, Nat.reduceEqDiff, ↓reduceIte, he] <;> try rfl) (by simp only [EV, Nat.reduceEqDiff, ↓reduceIte, he] <;> try rfl) (by omega) ?_
   refine k_cons (c_mv rfl (by simp only [EV, Nat.reduceEqDiff, ↓reduceIte, he] <;> try rfl) ?_)
   refine k_nil ?_
   show ∃ n', n' < _ ∧ _
   refine ⟨_, (by omega : hs.length - (k + 1) < hs.length - k), k + 1, Lu, rfl, hlt, ⟨by simp only [EV, Nat.reduceEqDiff, ↓reduceIte, he] <;> try rfl, by simp only [EV, Nat.reduceEqDiff, ↓reduceIte, he] <;> try rfl, by simp only [EV, Nat.reduceEqDiff, ↓reduceIte, he] <;> try rfl⟩, But.ext hX (fun b hb => ?_) hbt, hb2, ?_, fun g hg => ?_⟩
   ·rcases hb with rfl | hb
    ·exact hbn
    ·exact (hL b hb).1
   ·have hvk : hs[k] = v := by
     rw [List.getElem?_eq_getElem hlt] at hv
     injection hv
    rw [map_take_snoc hs k hlt, hvk]
    exact hO2
   ·rcases hnw g hg with h | h
    ·exact hL g h
    ·exact ⟨hX.noneOf h.1, hX.unused h.2⟩
  ·have hke : k = hs.length := by have := of_decide_eq_false ht; omega
   subst hke
   rw [List.take_length] at hO
   refine k_exit ?_
   exact ⟨rfl, Lv, by simp only [EV, Nat.reduceEqDiff, ↓reduceIte, he] <;> try rfl, hX, hb, hO⟩
 clear he e hX hb hbv υ
 rintro e υ ⟨Lv, he, hX, hb, hO⟩
 obtain ⟨A2, c2, hLv, hA2⟩ := hO.form_
 refine k_region ?_
 refine k_cons (c_mv rfl (by simp only [EV, Nat.reduceEqDiff, ↓reduceIte, he] <;> try rfl) ?_)
 refine k_cons ?_
 refine s_call (vs := [ptr bb 0]) (by simp only [List.map_cons, List.map_nil, EV, Nat.reduceEqDiff, ↓reduceIte, he]) ?_
 refine bag_ok (S := FS hs) hb (fun h => hbu (hSu bb h)) flat_nil0 flat_nil1 flat_nil2 flat_nil3 flat_nil4 flat_nil6 flat_nil7 flat_nil8 flat_nil9 flat_nil10 flat_nil11 flat_nil12 flat_nil13 flat_nil14 flat_nil15 flat_nil16 flat_nil17 flat_nil18 flat_nil19 flat_nil20 flat_nil21 (fun τ K hτ hK => ?_) fun τ hτ => ?_
 ·have hf := flat_ok (r0 := []) (A := A2) (c := c2) (m := m) hmk hm hA2 hn (h0.ext (hX.trans hτ)) hfar
  rw [List.append_nil, ← hLv] at hf
  exact hf.mono fun r τ' ⟨h1, h2⟩ => by rw [h1]; exact hK τ' h2
 ·refine k_cons (c_mv rfl (by simp only [EV, Nat.reduceEqDiff, ↓reduceIte, he] <;> try rfl) ?_)
  refine k_nil ?_
  refine k_ret1 ?_
  show ∃ r, aResults _ _ _ _ r ∧ _
  exact ⟨_, res_tmp rfl (by simp only [EV, Nat.reduceEqDiff, ↓reduceIte, he] <;> try rfl), rfl, hX.but.trans hτ⟩
end
end Go.Proofs.Ytklmbkkeiihgdaa
