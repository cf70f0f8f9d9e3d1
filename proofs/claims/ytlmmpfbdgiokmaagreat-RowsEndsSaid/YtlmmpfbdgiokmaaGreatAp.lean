/- Apart: lists are put into a bag, the bag's lists are looked at. -/
import Derived.Test.YtlmmpfbdgiokmaaGreatFl
namespace Go.Proofs.YtlmmpfbdgiokmaaGreat
open Go.RowKit
set_option maxRecDepth 100000
set_option linter.unusedVariables false
set_option linter.unusedSimpArgs false
theorem ZBg {P : Program} {O : Nat -> Prop} {c : Code} {Q : ZiG} {env : Env} {σ : St} (h : ZaY P O c (fun ex e s => ex ≠ .normal /\ Q ex e s) env σ) : ZaY P O (.loop c) Q env σ := by
 refine Zgk (fun n e s => e = env /\ s = σ) ⟨0, rfl, rfl⟩ ?_
 rintro n e s ⟨rfl, rfl⟩
 refine ZaS (c := c) ?_ h
 rintro ex e2 s2 ⟨h1, h2⟩
 cases ex <;> first | exact absurd rfl h1 | exact h2
section
variable {P : Program} {O : Nat -> Prop} {env : Env} {σ : St} {Q : ZiG} {rest c : Code} {i0 id b ctr a1 a2 a3 a4 : Nat} {T0 T1 T2 T3 T4 tI tJ tss ts : TypeId} {q0 q1 q2 q3 q4 : String} {f0 f1 f2 f3 f4 : Array Edge}
theorem Zaf (h0 : env 0 = .lst none 0 0 []) (ht : ZaB P tss = some ts) (n : ¬ 0 = ctr /\ ¬ 0 = a1 /\ ¬ 0 = a2 /\ ¬ 0 = a3 /\ ¬ 0 = a4 /\ ¬ a1 = a2 /\ ¬ a1 = a3) (h : ∀ e, e 0 = .lst none 0 0 [] -> ZaY P O c Q e σ) :
 ZaY P O (.seq (.seq (.region i0 #[⟨some ctr, .assign (.const (.int .i64 0)), T0, q0, f0, none⟩] false) (.block b (.loop (.seq (.seq (.region id #[⟨some a1, .move (.tmp ctr), T1, q1, f1, none⟩, ⟨some a2, .move (.tmp 0), T2, q2, f2, none⟩, ⟨some a3, .call ⟨.builtin .len, #[.tmp a2], #[tss]⟩, T3, q3, f3, none⟩, ⟨some a4, .binOp .lss tI (.tmp a1) (.tmp a3) tJ, T4, q4, f4, none⟩] false) (.cond (.tmp a4) .skip (.exit b))) rest)))) c) Q env σ := by
 obtain ⟨n0, n1, n2, n3, n4, n5, n6⟩ := n
 refine Zcb ?_
 refine Zah ?_
 refine Zaa ?_
 refine Zas (v := vI ((0 : Nat) : Int)) rfl ?_
 refine ZaD ?_
 refine ZlE (fun e s => e 0 = .lst none 0 0 [] /\ σ = s) (Ze1 (ZBg ?_)) ?_
 ·refine Zcb ?_
  refine Zah ?_
  refine Zaa ?_
  refine Za0 (v := vI ((0 : Nat) : Int)) (by simp [ev, Env.put]) ?_
  refine Zaa ?_
  refine Za0 (v := .lst none 0 0 []) (by simp [ev, Env.put, n0, n1, h0]) ?_
  refine Zaa ?_
  refine ZkT (v := .lst none 0 0 []) (A := none) (n := 0) (c := 0) (by simp [ev, Env.put]) (AV.val_lst _ _ _ _) rfl ht ?_
  refine Zaa ?_
  refine ZAg 0 0 (by simp [ev, Env.put, n5, n6]) (by simp [ev, Env.put]) (by omega) ?_
  refine ZaD ?_
  refine ZAA (by simp [ev, Env.put, vT]) ?_
  refine Zjq ?_
  refine ⟨nofun, ?_⟩
  unfold Zht
  dsimp only
  rw [if_pos rfl]
  exact ⟨rfl, by simp [Env.put, n0, n1, n2, n3, n4, h0], rfl⟩
 ·rintro e s ⟨he, rfl⟩
  exact h e he
theorem Zci (h0 : env 0 = .lst none 0 0 []) (ht : ZaB P tss = some ts) (hs : Zaw P ts = some 1) (hz : Zbt P ts = some (.slice none 0 0)) (hb : ZdE P ts = some 24) (n : ¬ 0 = a1 /\ ¬ 0 = a2 /\ ¬ 0 = a3 /\ ¬ 0 = a4) (h : ∀ e τ, e 0 = .lst none 0 0 [] -> Ext σ τ -> ZaY P O c Q e τ) :
 ZaY P O (.seq (.region id #[⟨some a1, .move (.tmp 0), T1, q1, f1, none⟩, ⟨some a2, .call ⟨.builtin .len, #[.tmp a1], #[tss]⟩, T2, q2, f2, none⟩, ⟨some a3, .makeSlice tss (.tmp a2) (.tmp a2), T3, q3, f3, none⟩, ⟨some a4, .assign (.tmp a3), T4, q4, f4, none⟩] false) c) Q env σ := by
 obtain ⟨n1, n2, n3, n4⟩ := n
 refine Zah ?_
 refine Zaa ?_
 refine Za0 (v := .lst none 0 0 []) (by simp [ev, h0]) ?_
 refine Zaa ?_
 refine ZkT (v := .lst none 0 0 []) (A := none) (n := 0) (c := 0) (by simp [ev, Env.put]) (AV.val_lst _ _ _ _) rfl ht ?_
 refine Zaa ?_
 refine ZtB (l := 0) (sz := 1) (bytes := 24) (z := .slice none 0 0) (by simp [ev, Env.put]) (by simp [ev, Env.put]) ht hs hz hb rfl (by omega) (fun i hi => by
  have : i = 0 := by omega
  subst this
  rfl) (by omega) (by omega) fun gb gq τ2 gc0 hG hXt hgn hgu => ?_
 refine Zaa ?_
 refine Zas (v := hdr gb 0 gq) (by simp [ev, Env.put]) ?_
 refine ZaD ?_
 exact h _ _ (by simp [Env.put, n1, n2, n3, n4, h0]) hXt
end
theorem Zxr (τ : St) (K : AV -> St -> Prop) (hK : ∀ τ2, Ext τ τ2 -> K (vT true) τ2) : ZaC Tryz.prog 56 [.lst none 0 0 []] τ K := by
 refine ZaR Zbv Tryz.func56 rfl rfl rfl (Nat.le_of_ble_eq_true rfl) (Zah (Zaa (Zas rfl (ZaD ?_))))
 refine Zaf rfl (ts := 166) (by kernel_rfl) (by decide) fun e he => ?_
 refine Zci he (ts := 166) (by kernel_rfl) (by kernel_rfl) (by kernel_rfl) (by kernel_rfl) (by decide) fun e τ2 he hX => ?_
 refine Zaf he (ts := 166) (by kernel_rfl) (by decide) fun e he => ?_
 refine Zaf he (ts := 166) (by kernel_rfl) (by decide) fun e he => ?_
 refine Zaf he (ts := 166) (by kernel_rfl) (by decide) fun e he => ?_
 refine Zaf he (ts := 166) (by kernel_rfl) (by decide) fun e he => ?_
 exact Zah (Zaa (Zas rfl (ZaD (ZdD ⟨_, ZcA rfl rfl, hK _ hX⟩))))
theorem Zxs (τ : St) (K : AV -> St -> Prop) (hK : ∀ τ2, Ext τ τ2 -> K (vT true) τ2) : ZaC Tryz.prog 57 [.lst none 0 0 []] τ K := by
 refine ZaR Zbv Tryz.func57 rfl rfl rfl (Nat.le_of_ble_eq_true rfl) (Zah (Zaa (Zas rfl (ZaD ?_))))
 refine Zaf rfl (ts := 168) (by kernel_rfl) (by decide) fun e he => ?_
 refine Zci he (ts := 168) (by kernel_rfl) (by kernel_rfl) (by kernel_rfl) (by kernel_rfl) (by decide) fun e τ2 he hX => ?_
 refine Zaf he (ts := 168) (by kernel_rfl) (by decide) fun e he => ?_
 refine Zaf he (ts := 168) (by kernel_rfl) (by decide) fun e he => ?_
 refine Zaf he (ts := 168) (by kernel_rfl) (by decide) fun e he => ?_
 refine Zaf he (ts := 168) (by kernel_rfl) (by decide) fun e he => ?_
 exact Zah (Zaa (Zas rfl (ZaD (ZdD ⟨_, ZcA rfl rfl, hK _ hX⟩))))
theorem Zxt (τ : St) (K : AV -> St -> Prop) (hK : ∀ τ2, Ext τ τ2 -> K (vT true) τ2) : ZaC Tryz.prog 58 [.lst none 0 0 []] τ K := by
 refine ZaR Zbv Tryz.func58 rfl rfl rfl (Nat.le_of_ble_eq_true rfl) (Zah (Zaa (Zas rfl (ZaD ?_))))
 refine Zaf rfl (ts := 111) (by kernel_rfl) (by decide) fun e he => ?_
 refine Zci he (ts := 111) (by kernel_rfl) (by kernel_rfl) (by kernel_rfl) (by kernel_rfl) (by decide) fun e τ2 he hX => ?_
 refine Zaf he (ts := 111) (by kernel_rfl) (by decide) fun e he => ?_
 refine Zaf he (ts := 111) (by kernel_rfl) (by decide) fun e he => ?_
 refine Zaf he (ts := 111) (by kernel_rfl) (by decide) fun e he => ?_
 refine Zaf he (ts := 111) (by kernel_rfl) (by decide) fun e he => ?_
 exact Zah (Zaa (Zas rfl (ZaD (ZdD ⟨_, ZcA rfl rfl, hK _ hX⟩))))
theorem Zxu (τ : St) (K : AV -> St -> Prop) (hK : ∀ τ2, Ext τ τ2 -> K (vT true) τ2) : ZaC Tryz.prog 59 [.lst none 0 0 []] τ K := by
 refine ZaR Zbv Tryz.func59 rfl rfl rfl (Nat.le_of_ble_eq_true rfl) (Zah (Zaa (Zas rfl (ZaD ?_))))
 refine Zaf rfl (ts := 170) (by kernel_rfl) (by decide) fun e he => ?_
 refine Zci he (ts := 170) (by kernel_rfl) (by kernel_rfl) (by kernel_rfl) (by kernel_rfl) (by decide) fun e τ2 he hX => ?_
 refine Zaf he (ts := 170) (by kernel_rfl) (by decide) fun e he => ?_
 refine Zaf he (ts := 170) (by kernel_rfl) (by decide) fun e he => ?_
 refine Zaf he (ts := 170) (by kernel_rfl) (by decide) fun e he => ?_
 refine Zaf he (ts := 170) (by kernel_rfl) (by decide) fun e he => ?_
 exact Zah (Zaa (Zas rfl (ZaD (ZdD ⟨_, ZcA rfl rfl, hK _ hX⟩))))
theorem Zxv (τ : St) (K : AV -> St -> Prop) (hK : ∀ τ2, Ext τ τ2 -> K (vT true) τ2) : ZaC Tryz.prog 60 [.lst none 0 0 []] τ K := by
 refine ZaR Zbv Tryz.func60 rfl rfl rfl (Nat.le_of_ble_eq_true rfl) (Zah (Zaa (Zas rfl (ZaD ?_))))
 refine Zaf rfl (ts := 23) (by kernel_rfl) (by decide) fun e he => ?_
 refine Zci he (ts := 23) (by kernel_rfl) (by kernel_rfl) (by kernel_rfl) (by kernel_rfl) (by decide) fun e τ2 he hX => ?_
 refine Zaf he (ts := 23) (by kernel_rfl) (by decide) fun e he => ?_
 refine Zaf he (ts := 23) (by kernel_rfl) (by decide) fun e he => ?_
 refine Zaf he (ts := 23) (by kernel_rfl) (by decide) fun e he => ?_
 refine Zaf he (ts := 23) (by kernel_rfl) (by decide) fun e he => ?_
 exact Zah (Zaa (Zas rfl (ZaD (ZdD ⟨_, ZcA rfl rfl, hK _ hX⟩))))
theorem Zxw (τ : St) (K : AV -> St -> Prop) (hK : ∀ τ2, Ext τ τ2 -> K (vT true) τ2) : ZaC Tryz.prog 61 [.lst none 0 0 []] τ K := by
 refine ZaR Zbv Tryz.func61 rfl rfl rfl (Nat.le_of_ble_eq_true rfl) (Zah (Zaa (Zas rfl (ZaD ?_))))
 refine Zaf rfl (ts := 50) (by kernel_rfl) (by decide) fun e he => ?_
 refine Zci he (ts := 50) (by kernel_rfl) (by kernel_rfl) (by kernel_rfl) (by kernel_rfl) (by decide) fun e τ2 he hX => ?_
 refine Zaf he (ts := 50) (by kernel_rfl) (by decide) fun e he => ?_
 refine Zaf he (ts := 50) (by kernel_rfl) (by decide) fun e he => ?_
 refine Zaf he (ts := 50) (by kernel_rfl) (by decide) fun e he => ?_
 refine Zaf he (ts := 50) (by kernel_rfl) (by decide) fun e he => ?_
 exact Zah (Zaa (Zas rfl (ZaD (ZdD ⟨_, ZcA rfl rfl, hK _ hX⟩))))
theorem Zxx (τ : St) (K : AV -> St -> Prop) (hK : ∀ τ2, Ext τ τ2 -> K (vT true) τ2) : ZaC Tryz.prog 62 [.lst none 0 0 []] τ K := by
 refine ZaR Zbv Tryz.func62 rfl rfl rfl (Nat.le_of_ble_eq_true rfl) (Zah (Zaa (Zas rfl (ZaD ?_))))
 refine Zaf rfl (ts := 160) (by kernel_rfl) (by decide) fun e he => ?_
 refine Zci he (ts := 160) (by kernel_rfl) (by kernel_rfl) (by kernel_rfl) (by kernel_rfl) (by decide) fun e τ2 he hX => ?_
 refine Zaf he (ts := 160) (by kernel_rfl) (by decide) fun e he => ?_
 refine Zaf he (ts := 160) (by kernel_rfl) (by decide) fun e he => ?_
 refine Zaf he (ts := 160) (by kernel_rfl) (by decide) fun e he => ?_
 refine Zaf he (ts := 160) (by kernel_rfl) (by decide) fun e he => ?_
 exact Zah (Zaa (Zas rfl (ZaD (ZdD ⟨_, ZcA rfl rfl, hK _ hX⟩))))
theorem Zxy (τ : St) (K : AV -> St -> Prop) (hK : ∀ τ2, Ext τ τ2 -> K (vT true) τ2) : ZaC Tryz.prog 63 [.lst none 0 0 []] τ K := by
 refine ZaR Zbv Tryz.func63 rfl rfl rfl (Nat.le_of_ble_eq_true rfl) (Zah (Zaa (Zas rfl (ZaD ?_))))
 refine Zaf rfl (ts := 46) (by kernel_rfl) (by decide) fun e he => ?_
 refine Zci he (ts := 46) (by kernel_rfl) (by kernel_rfl) (by kernel_rfl) (by kernel_rfl) (by decide) fun e τ2 he hX => ?_
 refine Zaf he (ts := 46) (by kernel_rfl) (by decide) fun e he => ?_
 refine Zaf he (ts := 46) (by kernel_rfl) (by decide) fun e he => ?_
 refine Zaf he (ts := 46) (by kernel_rfl) (by decide) fun e he => ?_
 refine Zaf he (ts := 46) (by kernel_rfl) (by decide) fun e he => ?_
 exact Zah (Zaa (Zas rfl (ZaD (ZdD ⟨_, ZcA rfl rfl, hK _ hX⟩))))
theorem Zxz (τ : St) (K : AV -> St -> Prop) (hK : ∀ τ2, Ext τ τ2 -> K (vT true) τ2) : ZaC Tryz.prog 64 [.lst none 0 0 []] τ K := by
 refine ZaR Zbv Tryz.func64 rfl rfl rfl (Nat.le_of_ble_eq_true rfl) (Zah (Zaa (Zas rfl (ZaD ?_))))
 refine Zaf rfl (ts := 173) (by kernel_rfl) (by decide) fun e he => ?_
 refine Zci he (ts := 173) (by kernel_rfl) (by kernel_rfl) (by kernel_rfl) (by kernel_rfl) (by decide) fun e τ2 he hX => ?_
 refine Zaf he (ts := 173) (by kernel_rfl) (by decide) fun e he => ?_
 refine Zaf he (ts := 173) (by kernel_rfl) (by decide) fun e he => ?_
 refine Zaf he (ts := 173) (by kernel_rfl) (by decide) fun e he => ?_
 refine Zaf he (ts := 173) (by kernel_rfl) (by decide) fun e he => ?_
 exact Zah (Zaa (Zas rfl (ZaD (ZdD ⟨_, ZcA rfl rfl, hK _ hX⟩))))
theorem ZxA (τ : St) (K : AV -> St -> Prop) (hK : ∀ τ2, Ext τ τ2 -> K (vT true) τ2) : ZaC Tryz.prog 65 [.lst none 0 0 []] τ K := by
 refine ZaR Zbv Tryz.func65 rfl rfl rfl (Nat.le_of_ble_eq_true rfl) (Zah (Zaa (Zas rfl (ZaD ?_))))
 refine Zaf rfl (ts := 177) (by kernel_rfl) (by decide) fun e he => ?_
 refine Zci he (ts := 177) (by kernel_rfl) (by kernel_rfl) (by kernel_rfl) (by kernel_rfl) (by decide) fun e τ2 he hX => ?_
 refine Zaf he (ts := 177) (by kernel_rfl) (by decide) fun e he => ?_
 refine Zaf he (ts := 177) (by kernel_rfl) (by decide) fun e he => ?_
 refine Zaf he (ts := 177) (by kernel_rfl) (by decide) fun e he => ?_
 refine Zaf he (ts := 177) (by kernel_rfl) (by decide) fun e he => ?_
 exact Zah (Zaa (Zas rfl (ZaD (ZdD ⟨_, ZcA rfl rfl, hK _ hX⟩))))
theorem ZvE (τ : St) (K : AV -> St -> Prop) (hK : ∀ τ2, Ext τ τ2 -> K (vT true) τ2) : ZaC Tryz.prog 66 [.lst none 0 0 []] τ K := by
 refine ZaR Zbv Tryz.func66 rfl rfl rfl (Nat.le_of_ble_eq_true rfl) (Zah (Zaa (Zas rfl (ZaD ?_))))
 refine Zaf rfl (ts := 182) (by kernel_rfl) (by decide) fun e he => ?_
 refine Zci he (ts := 182) (by kernel_rfl) (by kernel_rfl) (by kernel_rfl) (by kernel_rfl) (by decide) fun e τ2 he hX => ?_
 refine Zaf he (ts := 182) (by kernel_rfl) (by decide) fun e he => ?_
 refine Zaf he (ts := 182) (by kernel_rfl) (by decide) fun e he => ?_
 refine Zaf he (ts := 182) (by kernel_rfl) (by decide) fun e he => ?_
 refine Zaf he (ts := 182) (by kernel_rfl) (by decide) fun e he => ?_
 exact Zah (Zaa (Zas rfl (ZaD (ZdD ⟨_, ZcA rfl rfl, hK _ hX⟩))))
theorem ZvF (τ : St) (K : AV -> St -> Prop) (hK : ∀ τ2, Ext τ τ2 -> K (vT true) τ2) : ZaC Tryz.prog 67 [.lst none 0 0 []] τ K := by
 refine ZaR Zbv Tryz.func67 rfl rfl rfl (Nat.le_of_ble_eq_true rfl) (Zah (Zaa (Zas rfl (ZaD ?_))))
 refine Zaf rfl (ts := 186) (by kernel_rfl) (by decide) fun e he => ?_
 refine Zci he (ts := 186) (by kernel_rfl) (by kernel_rfl) (by kernel_rfl) (by kernel_rfl) (by decide) fun e τ2 he hX => ?_
 refine Zaf he (ts := 186) (by kernel_rfl) (by decide) fun e he => ?_
 refine Zaf he (ts := 186) (by kernel_rfl) (by decide) fun e he => ?_
 refine Zaf he (ts := 186) (by kernel_rfl) (by decide) fun e he => ?_
 refine Zaf he (ts := 186) (by kernel_rfl) (by decide) fun e he => ?_
 exact Zah (Zaa (Zas rfl (ZaD (ZdD ⟨_, ZcA rfl rfl, hK _ hX⟩))))
theorem ZvG (τ : St) (K : AV -> St -> Prop) (hK : ∀ τ2, Ext τ τ2 -> K (vT true) τ2) : ZaC Tryz.prog 68 [.lst none 0 0 []] τ K := by
 refine ZaR Zbv Tryz.func68 rfl rfl rfl (Nat.le_of_ble_eq_true rfl) (Zah (Zaa (Zas rfl (ZaD ?_))))
 refine Zaf rfl (ts := 191) (by kernel_rfl) (by decide) fun e he => ?_
 refine Zci he (ts := 191) (by kernel_rfl) (by kernel_rfl) (by kernel_rfl) (by kernel_rfl) (by decide) fun e τ2 he hX => ?_
 refine Zaf he (ts := 191) (by kernel_rfl) (by decide) fun e he => ?_
 refine Zaf he (ts := 191) (by kernel_rfl) (by decide) fun e he => ?_
 refine Zaf he (ts := 191) (by kernel_rfl) (by decide) fun e he => ?_
 refine Zaf he (ts := 191) (by kernel_rfl) (by decide) fun e he => ?_
 exact Zah (Zaa (Zas rfl (ZaD (ZdD ⟨_, ZcA rfl rfl, hK _ hX⟩))))
theorem ZvH (τ : St) (K : AV -> St -> Prop) (hK : ∀ τ2, Ext τ τ2 -> K (vT true) τ2) : ZaC Tryz.prog 70 [.lst none 0 0 []] τ K := by
 refine ZaR Zbv Tryz.func70 rfl rfl rfl (Nat.le_of_ble_eq_true rfl) (Zah (Zaa (Zas rfl (ZaD ?_))))
 refine Zaf rfl (ts := 195) (by kernel_rfl) (by decide) fun e he => ?_
 refine Zci he (ts := 195) (by kernel_rfl) (by kernel_rfl) (by kernel_rfl) (by kernel_rfl) (by decide) fun e τ2 he hX => ?_
 refine Zaf he (ts := 195) (by kernel_rfl) (by decide) fun e he => ?_
 refine Zaf he (ts := 195) (by kernel_rfl) (by decide) fun e he => ?_
 refine Zaf he (ts := 195) (by kernel_rfl) (by decide) fun e he => ?_
 refine Zaf he (ts := 195) (by kernel_rfl) (by decide) fun e he => ?_
 exact Zah (Zaa (Zas rfl (ZaD (ZdD ⟨_, ZcA rfl rfl, hK _ hX⟩))))
theorem ZvI (τ : St) (K : AV -> St -> Prop) (hK : ∀ τ2, Ext τ τ2 -> K (vT true) τ2) : ZaC Tryz.prog 71 [.lst none 0 0 []] τ K := by
 refine ZaR Zbv Tryz.func71 rfl rfl rfl (Nat.le_of_ble_eq_true rfl) (Zah (Zaa (Zas rfl (ZaD ?_))))
 refine Zaf rfl (ts := 200) (by kernel_rfl) (by decide) fun e he => ?_
 refine Zci he (ts := 200) (by kernel_rfl) (by kernel_rfl) (by kernel_rfl) (by kernel_rfl) (by decide) fun e τ2 he hX => ?_
 refine Zaf he (ts := 200) (by kernel_rfl) (by decide) fun e he => ?_
 refine Zaf he (ts := 200) (by kernel_rfl) (by decide) fun e he => ?_
 refine Zaf he (ts := 200) (by kernel_rfl) (by decide) fun e he => ?_
 refine Zaf he (ts := 200) (by kernel_rfl) (by decide) fun e he => ?_
 exact Zah (Zaa (Zas rfl (ZaD (ZdD ⟨_, ZcA rfl rfl, hK _ hX⟩))))
theorem ZvJ (τ : St) (K : AV -> St -> Prop) (hK : ∀ τ2, Ext τ τ2 -> K (vT true) τ2) : ZaC Tryz.prog 72 [.lst none 0 0 []] τ K := by
 refine ZaR Zbv Tryz.func72 rfl rfl rfl (Nat.le_of_ble_eq_true rfl) (Zah (Zaa (Zas rfl (ZaD ?_))))
 refine Zaf rfl (ts := 205) (by kernel_rfl) (by decide) fun e he => ?_
 refine Zci he (ts := 205) (by kernel_rfl) (by kernel_rfl) (by kernel_rfl) (by kernel_rfl) (by decide) fun e τ2 he hX => ?_
 refine Zaf he (ts := 205) (by kernel_rfl) (by decide) fun e he => ?_
 refine Zaf he (ts := 205) (by kernel_rfl) (by decide) fun e he => ?_
 refine Zaf he (ts := 205) (by kernel_rfl) (by decide) fun e he => ?_
 refine Zaf he (ts := 205) (by kernel_rfl) (by decide) fun e he => ?_
 exact Zah (Zaa (Zas rfl (ZaD (ZdD ⟨_, ZcA rfl rfl, hK _ hX⟩))))
theorem ZvK (τ : St) (K : AV -> St -> Prop) (hK : ∀ τ2, Ext τ τ2 -> K (vT true) τ2) : ZaC Tryz.prog 73 [.lst none 0 0 []] τ K := by
 refine ZaR Zbv Tryz.func73 rfl rfl rfl (Nat.le_of_ble_eq_true rfl) (Zah (Zaa (Zas rfl (ZaD ?_))))
 refine Zaf rfl (ts := 211) (by kernel_rfl) (by decide) fun e he => ?_
 refine Zci he (ts := 211) (by kernel_rfl) (by kernel_rfl) (by kernel_rfl) (by kernel_rfl) (by decide) fun e τ2 he hX => ?_
 refine Zaf he (ts := 211) (by kernel_rfl) (by decide) fun e he => ?_
 refine Zaf he (ts := 211) (by kernel_rfl) (by decide) fun e he => ?_
 refine Zaf he (ts := 211) (by kernel_rfl) (by decide) fun e he => ?_
 refine Zaf he (ts := 211) (by kernel_rfl) (by decide) fun e he => ?_
 exact Zah (Zaa (Zas rfl (ZaD (ZdD ⟨_, ZcA rfl rfl, hK _ hX⟩))))
theorem ZvL (τ : St) (K : AV -> St -> Prop) (hK : ∀ τ2, Ext τ τ2 -> K (vT true) τ2) : ZaC Tryz.prog 74 [.lst none 0 0 []] τ K := by
 refine ZaR Zbv Tryz.func74 rfl rfl rfl (Nat.le_of_ble_eq_true rfl) (Zah (Zaa (Zas rfl (ZaD ?_))))
 refine Zaf rfl (ts := 216) (by kernel_rfl) (by decide) fun e he => ?_
 refine Zci he (ts := 216) (by kernel_rfl) (by kernel_rfl) (by kernel_rfl) (by kernel_rfl) (by decide) fun e τ2 he hX => ?_
 refine Zaf he (ts := 216) (by kernel_rfl) (by decide) fun e he => ?_
 refine Zaf he (ts := 216) (by kernel_rfl) (by decide) fun e he => ?_
 refine Zaf he (ts := 216) (by kernel_rfl) (by decide) fun e he => ?_
 refine Zaf he (ts := 216) (by kernel_rfl) (by decide) fun e he => ?_
 exact Zah (Zaa (Zas rfl (ZaD (ZdD ⟨_, ZcA rfl rfl, hK _ hX⟩))))
theorem ZvM (τ : St) (K : AV -> St -> Prop) (hK : ∀ τ2, Ext τ τ2 -> K (vT true) τ2) : ZaC Tryz.prog 75 [.lst none 0 0 []] τ K := by
 refine ZaR Zbv Tryz.func75 rfl rfl rfl (Nat.le_of_ble_eq_true rfl) (Zah (Zaa (Zas rfl (ZaD ?_))))
 refine Zaf rfl (ts := 221) (by kernel_rfl) (by decide) fun e he => ?_
 refine Zci he (ts := 221) (by kernel_rfl) (by kernel_rfl) (by kernel_rfl) (by kernel_rfl) (by decide) fun e τ2 he hX => ?_
 refine Zaf he (ts := 221) (by kernel_rfl) (by decide) fun e he => ?_
 refine Zaf he (ts := 221) (by kernel_rfl) (by decide) fun e he => ?_
 refine Zaf he (ts := 221) (by kernel_rfl) (by decide) fun e he => ?_
 refine Zaf he (ts := 221) (by kernel_rfl) (by decide) fun e he => ?_
 exact Zah (Zaa (Zas rfl (ZaD (ZdD ⟨_, ZcA rfl rfl, hK _ hX⟩))))
theorem ZvN (τ : St) (K : AV -> St -> Prop) (hK : ∀ τ2, Ext τ τ2 -> K (vT true) τ2) : ZaC Tryz.prog 76 [.lst none 0 0 []] τ K := by
 refine ZaR Zbv Tryz.func76 rfl rfl rfl (Nat.le_of_ble_eq_true rfl) (Zah (Zaa (Zas rfl (ZaD ?_))))
 refine Zaf rfl (ts := 227) (by kernel_rfl) (by decide) fun e he => ?_
 refine Zci he (ts := 227) (by kernel_rfl) (by kernel_rfl) (by kernel_rfl) (by kernel_rfl) (by decide) fun e τ2 he hX => ?_
 refine Zaf he (ts := 227) (by kernel_rfl) (by decide) fun e he => ?_
 refine Zaf he (ts := 227) (by kernel_rfl) (by decide) fun e he => ?_
 refine Zaf he (ts := 227) (by kernel_rfl) (by decide) fun e he => ?_
 refine Zaf he (ts := 227) (by kernel_rfl) (by decide) fun e he => ?_
 exact Zah (Zaa (Zas rfl (ZaD (ZdD ⟨_, ZcA rfl rfl, hK _ hX⟩))))
theorem ZvO (τ : St) (K : AV -> St -> Prop) (hK : ∀ τ2, Ext τ τ2 -> K (vT true) τ2) : ZaC Tryz.prog 77 [.lst none 0 0 []] τ K := by
 refine ZaR Zbv Tryz.func77 rfl rfl rfl (Nat.le_of_ble_eq_true rfl) (Zah (Zaa (Zas rfl (ZaD ?_))))
 refine Zaf rfl (ts := 232) (by kernel_rfl) (by decide) fun e he => ?_
 refine Zci he (ts := 232) (by kernel_rfl) (by kernel_rfl) (by kernel_rfl) (by kernel_rfl) (by decide) fun e τ2 he hX => ?_
 refine Zaf he (ts := 232) (by kernel_rfl) (by decide) fun e he => ?_
 refine Zaf he (ts := 232) (by kernel_rfl) (by decide) fun e he => ?_
 refine Zaf he (ts := 232) (by kernel_rfl) (by decide) fun e he => ?_
 refine Zaf he (ts := 232) (by kernel_rfl) (by decide) fun e he => ?_
 exact Zah (Zaa (Zas rfl (ZaD (ZdD ⟨_, ZcA rfl rfl, hK _ hX⟩))))
theorem Zea : ZdQ Tryz.prog 87 = some [(0, some 1, some false), (1, some 1, some false), (2, some 1, some false), (3, some 1, some false), (4, some 1, some false), (5, some 1, some false), (6, some 1, some false), (7, some 1, some false), (8, some 1, some false), (9, some 1, some false), (10, some 1, some false), (11, some 1, some false), (12, some 1, some false), (13, some 1, some false), (14, some 1, some false), (15, some 1, some false), (16, some 1, some false), (17, some 1, some false), (18, some 1, some false), (19, some 1, some false), (20, some 1, some false), (21, some 1, some false)] := by kernel_rfl
theorem ZCt : ZiA Tryz.prog 87 = some [(0, 1), (1, 1), (2, 1), (3, 1), (4, 1), (5, 1), (6, 1), (7, 1), (8, 1), (9, 1), (10, 1), (11, 1), (12, 1), (13, 1), (14, 1), (15, 1), (16, 1), (17, 1), (18, 1), (19, 1), (20, 1), (21, 1)] := by kernel_rfl
theorem ZCu : Zbt Tryz.prog 87 = some (.agg #[.slice none 0 0, .slice none 0 0, .slice none 0 0, .slice none 0 0, .slice none 0 0, .slice none 0 0, .slice none 0 0, .slice none 0 0, .slice none 0 0, .slice none 0 0, .slice none 0 0, .slice none 0 0, .slice none 0 0, .slice none 0 0, .slice none 0 0, .slice none 0 0, .slice none 0 0, .slice none 0 0, .slice none 0 0, .slice none 0 0, .slice none 0 0, .slice none 0 0]) := by kernel_rfl
theorem ZAi : Zaw Tryz.prog 44 = some 1 := by kernel_rfl
theorem ZCv : Zer Tryz.prog 44 = some false := by kernel_rfl
theorem Zy0 : Zaw Tryz.prog 44 = some 1 := by kernel_rfl
theorem Zy1 : Zer Tryz.prog 44 = some false := by kernel_rfl
theorem Zy2 : Zaw Tryz.prog 65 = some 1 := by kernel_rfl
theorem Zy3 : Zer Tryz.prog 65 = some false := by kernel_rfl
theorem Zy4 : Zaw Tryz.prog 66 = some 1 := by kernel_rfl
theorem Zy5 : Zer Tryz.prog 66 = some false := by kernel_rfl
theorem Zy6 : Zaw Tryz.prog 67 = some 1 := by kernel_rfl
theorem Zy7 : Zer Tryz.prog 67 = some false := by kernel_rfl
theorem Zy8 : Zaw Tryz.prog 68 = some 1 := by kernel_rfl
theorem Zy9 : Zer Tryz.prog 68 = some false := by kernel_rfl
theorem Zza : Zaw Tryz.prog 69 = some 1 := by kernel_rfl
theorem Zzb : Zer Tryz.prog 69 = some false := by kernel_rfl
theorem Zzc : Zaw Tryz.prog 70 = some 1 := by kernel_rfl
theorem Zzd : Zer Tryz.prog 70 = some false := by kernel_rfl
theorem Zze : Zaw Tryz.prog 71 = some 1 := by kernel_rfl
theorem Zzf : Zer Tryz.prog 71 = some false := by kernel_rfl
theorem Zzg : Zaw Tryz.prog 72 = some 1 := by kernel_rfl
theorem Zzh : Zer Tryz.prog 72 = some false := by kernel_rfl
theorem Zzi : Zaw Tryz.prog 73 = some 1 := by kernel_rfl
theorem Zzj : Zer Tryz.prog 73 = some false := by kernel_rfl
theorem Zzk : Zaw Tryz.prog 74 = some 1 := by kernel_rfl
theorem Zzl : Zer Tryz.prog 74 = some false := by kernel_rfl
theorem Zzm : Zaw Tryz.prog 75 = some 1 := by kernel_rfl
theorem Zzn : Zer Tryz.prog 75 = some false := by kernel_rfl
theorem Zzo : Zaw Tryz.prog 76 = some 1 := by kernel_rfl
theorem Zzp : Zer Tryz.prog 76 = some false := by kernel_rfl
theorem Zzq : Zaw Tryz.prog 77 = some 1 := by kernel_rfl
theorem Zzr : Zer Tryz.prog 77 = some false := by kernel_rfl
theorem Zzs : Zaw Tryz.prog 78 = some 1 := by kernel_rfl
theorem Zzt : Zer Tryz.prog 78 = some false := by kernel_rfl
theorem Zzu : Zaw Tryz.prog 79 = some 1 := by kernel_rfl
theorem Zzv : Zer Tryz.prog 79 = some false := by kernel_rfl
theorem Zzw : Zaw Tryz.prog 80 = some 1 := by kernel_rfl
theorem Zzx : Zer Tryz.prog 80 = some false := by kernel_rfl
theorem Zzy : Zaw Tryz.prog 81 = some 1 := by kernel_rfl
theorem Zzz : Zer Tryz.prog 81 = some false := by kernel_rfl
theorem ZzA : Zaw Tryz.prog 82 = some 1 := by kernel_rfl
theorem ZzB : Zer Tryz.prog 82 = some false := by kernel_rfl
theorem ZzC : Zaw Tryz.prog 83 = some 1 := by kernel_rfl
theorem ZzD : Zer Tryz.prog 83 = some false := by kernel_rfl
theorem ZzE : Zaw Tryz.prog 84 = some 1 := by kernel_rfl
theorem ZzF : Zer Tryz.prog 84 = some false := by kernel_rfl
theorem ZzG : Zaw Tryz.prog 85 = some 1 := by kernel_rfl
theorem ZzH : Zer Tryz.prog 85 = some false := by kernel_rfl
def ZzI (v : AV) : List AV := [.lst none 0 0 [], .lst none 0 0 [], .lst none 0 0 [], .lst none 0 0 [], .lst none 0 0 [], .lst none 0 0 [], .lst none 0 0 [], .lst none 0 0 [], .lst none 0 0 [], .lst none 0 0 [], .lst none 0 0 [], .lst none 0 0 [], .lst none 0 0 [], v, .lst none 0 0 [], .lst none 0 0 [], .lst none 0 0 [], .lst none 0 0 [], .lst none 0 0 [], .lst none 0 0 [], .lst none 0 0 [], .lst none 0 0 []]
theorem Own.form_ {σ : St} {e sz : Nat} {v : AV} {n : Nat} {cells : List AV} (h : Own σ e sz v n cells) : ∃ A c, v = .lst A n c cells /\ (A = none -> n = 0) := by
 obtain ⟨A, c, rfl, _, _, h1⟩ := h.form
 exact ⟨A, c, rfl, fun e => (h1 e).1⟩
theorem Own.blk_ {σ : St} {e sz : Nat} {v : AV} {n : Nat} {cells : List AV} {g : Nat} (h : Own σ e sz v n cells) (hg : v.blk = some g) : ∃ k s, σ.blk g = some (.tail e k s) := by
 rcases h.2 with ⟨rfl, _⟩ | ⟨g', c, rfl, _, _, h1, _⟩
 ·cases hg
 ·injection hg with hg
  change g' = g at hg
  subst hg
  exact ⟨_, _, h1⟩
section
variable {σ : St} {K : AV -> St -> Prop} {hs r0 : List AV}
set_option maxHeartbeats 1000000 in
theorem ZCw {bb n : Nat} {Lv v : AV} {ls : List AV} (hb : σ.blk bb = some (.own 87 (ZzI Lv))) (hO : Own σ 29 1 Lv n ls) (hv : v.one = true /\ ZfD v = true /\ v.cells = [v]) (hn : n <= 1000)
 (h : ∀ Lu τ, Own τ 29 1 Lu (n + 1) (ls ++ [v]) -> τ.blk bb = some (.own 87 (ZzI Lu)) -> But (fun b => b = bb \/ Lv.blk = some b) σ τ -> (∀ g, Lu.blk = some g -> Lv.blk = some g \/ (σ.blk g = none /\ ¬ σ.used g)) -> K (.tup []) τ) : ZaC Tryz.prog 32 [ptr bb 0, v] σ K := by
 refine ZaR Zbv Tryz.func32 rfl rfl rfl (Nat.le_of_ble_eq_true rfl) ?_
 refine ZB1 0 1 (v0 := ptr bb 0) (v1 := v) rfl rfl ?_
 intro e he
 refine Zb7 ?_
 refine Zaa (Zbu rfl (by simp only [EV, Nat.reduceEqDiff, ↓reduceIte, he] <;> try rfl) ?_)
 refine Zaa (Zbu rfl (by simp only [EV, Nat.reduceEqDiff, ↓reduceIte, he] <;> try rfl) ?_)
 refine Zaa ?_
 refine ZaU (v := ptr bb 0) (by simp only [EV, Nat.reduceEqDiff, ↓reduceIte, he] <;> try rfl) rfl ?_
 refine Zaa ?_
 refine ZaM (b := bb) (o := 0) (by simp only [EV, Nat.reduceEqDiff, ↓reduceIte, he] <;> try rfl) Zea rfl ?_
 obtain ⟨A, c, hLv, hA⟩ := hO.form_
 refine Zaa ?_
 refine Zeg (b := bb) (o := 0 + 13) (r := Lv) (by simp only [EV, Nat.reduceEqDiff, ↓reduceIte, he] <;> try rfl) hb ZCv ZAi rfl ?_
 refine Zaa (Zbu rfl (by simp only [EV, Nat.reduceEqDiff, ↓reduceIte, he] <;> try rfl) ?_)
 refine Zaa ?_
 refine ZB5 (vs := [v]) (cells := [v]) (by simp only [List.map_cons, List.map_nil, EV, Nat.reduceEqDiff, ↓reduceIte, he]) ZdO Zcw Zxp rfl (by omega) ?_ rfl fun rb τ2 hN hX => ?_
 ·show (if (!ZfD v || v.cells.length ≠ 1 || 0 * 1 + v.cells.length > _) then none else some (ZaH _ (0 * 1) v.cells)) = some [v]
  rw [hv.2.1, hv.2.2]
  rfl
 refine Zaa ?_
 refine Zyo (by simp only [EV, Nat.reduceEqDiff, ↓reduceIte, he] <;> try rfl) (by simp only [EV, Nat.reduceEqDiff, ↓reduceIte, he] <;> try rfl) ZdO Zcw Zxp ZAh rfl (by omega) (hO.ext hX) (m := 1) (by simp) (fun c hc => by
  have hc := List.mem_of_mem_take hc
  rw [List.mem_singleton.1 hc]
  exact hv.1) (by omega) fun Lu τ3 hO3 hbt hnw => ?_
 have hb3 : τ3.blk bb = some (.own 87 (ZzI Lv)) := hbt.keep _ _ (fun hg => by
  obtain ⟨k, s, h1⟩ := hO.blk_ hg
  rw [hb] at h1
  cases h1) (hX.keep _ _ hb)
 refine Zaa ?_
 refine ZaU (v := ptr bb 0) (by simp only [EV, Nat.reduceEqDiff, ↓reduceIte, he] <;> try rfl) rfl ?_
 refine Zaa ?_
 refine ZaM (b := bb) (o := 0) (by simp only [EV, Nat.reduceEqDiff, ↓reduceIte, he] <;> try rfl) Zea rfl ?_
 obtain ⟨A2, c2, hLu, hA2⟩ := hO3.form_
 refine Zaa ?_
 refine Zwr (b := bb) (o := 0 + 13) (u := Lu) (cs' := ZzI Lu) (by simp only [EV, Nat.reduceEqDiff, ↓reduceIte, he] <;> try rfl) (by simp only [EV, Nat.reduceEqDiff, ↓reduceIte, he] <;> try rfl) hb3 ZAi (by rw [hLu]; rfl) (by rw [hLu]; rfl) fun τ4 hb4 hk4 => ?_
 refine ZaD ?_
 show ∃ r, Zc8 _ _ _ _ r /\ _
 refine ⟨_, Zyl rfl, h Lu τ4 (hO3.but hk4 fun g hg e => ?_) hb4 ?_ fun g hg => ?_⟩
 ·subst e
  obtain ⟨k, s, h1⟩ := hO3.blk_ hg
  rw [hb3] at h1
  cases h1
 ·refine (hX.but.trans (hbt.sub fun b hb => .inr hb)).trans (hk4.sub fun b hb => .inl hb)
 ·rcases hnw g hg with h | h
  ·exact .inl h
  ·exact .inr ⟨hX.noneOf h.1, hX.unused h.2⟩
theorem ZeA {P : Program} {ops : Array Oper} {l : List Oper} {env : Env} {σ : St} {K : Env -> St -> Prop} (F : Env -> Prop) (h0 : F env) (h : ∀ e, F e -> ZiD P ops l e σ K) : ZiD P ops l env σ K := h _ h0
theorem Zcp {ops : Array Oper} {env : Env} {j d : Nat} {b : Bool} (hd : (ops[j]?).bind (·.dst) = some d) (hv : env d = vT b) : Zax ops env j = some b := by
 unfold Zax
 rw [hd]
 dsimp only
 rw [hv]
 rfl
set_option maxHeartbeats 4000000 in
theorem ZCx {bb : Nat} {Lv : AV} {S : Nat -> Prop} (hb0 : σ.blk bb = some (.own 87 (ZzI Lv))) (hS : ¬ S bb)
 (hn0 : ∀ (τ : St) (K : AV -> St -> Prop), (∀ τ2, Ext τ τ2 -> K (vT true) τ2) -> ZaC Tryz.prog 56 [.lst none 0 0 []] τ K)
 (hn1 : ∀ (τ : St) (K : AV -> St -> Prop), (∀ τ2, Ext τ τ2 -> K (vT true) τ2) -> ZaC Tryz.prog 57 [.lst none 0 0 []] τ K)
 (hn2 : ∀ (τ : St) (K : AV -> St -> Prop), (∀ τ2, Ext τ τ2 -> K (vT true) τ2) -> ZaC Tryz.prog 58 [.lst none 0 0 []] τ K)
 (hn3 : ∀ (τ : St) (K : AV -> St -> Prop), (∀ τ2, Ext τ τ2 -> K (vT true) τ2) -> ZaC Tryz.prog 59 [.lst none 0 0 []] τ K)
 (hn4 : ∀ (τ : St) (K : AV -> St -> Prop), (∀ τ2, Ext τ τ2 -> K (vT true) τ2) -> ZaC Tryz.prog 60 [.lst none 0 0 []] τ K)
 (hn5 : ∀ (τ : St) (K : AV -> St -> Prop), (∀ τ2, Ext τ τ2 -> K (vT true) τ2) -> ZaC Tryz.prog 61 [.lst none 0 0 []] τ K)
 (hn6 : ∀ (τ : St) (K : AV -> St -> Prop), (∀ τ2, Ext τ τ2 -> K (vT true) τ2) -> ZaC Tryz.prog 62 [.lst none 0 0 []] τ K)
 (hn7 : ∀ (τ : St) (K : AV -> St -> Prop), (∀ τ2, Ext τ τ2 -> K (vT true) τ2) -> ZaC Tryz.prog 63 [.lst none 0 0 []] τ K)
 (hn8 : ∀ (τ : St) (K : AV -> St -> Prop), (∀ τ2, Ext τ τ2 -> K (vT true) τ2) -> ZaC Tryz.prog 64 [.lst none 0 0 []] τ K)
 (hn9 : ∀ (τ : St) (K : AV -> St -> Prop), (∀ τ2, Ext τ τ2 -> K (vT true) τ2) -> ZaC Tryz.prog 65 [.lst none 0 0 []] τ K)
 (hn10 : ∀ (τ : St) (K : AV -> St -> Prop), (∀ τ2, Ext τ τ2 -> K (vT true) τ2) -> ZaC Tryz.prog 66 [.lst none 0 0 []] τ K)
 (hn11 : ∀ (τ : St) (K : AV -> St -> Prop), (∀ τ2, Ext τ τ2 -> K (vT true) τ2) -> ZaC Tryz.prog 67 [.lst none 0 0 []] τ K)
 (hn12 : ∀ (τ : St) (K : AV -> St -> Prop), (∀ τ2, Ext τ τ2 -> K (vT true) τ2) -> ZaC Tryz.prog 68 [.lst none 0 0 []] τ K)
 (hn14 : ∀ (τ : St) (K : AV -> St -> Prop), (∀ τ2, Ext τ τ2 -> K (vT true) τ2) -> ZaC Tryz.prog 70 [.lst none 0 0 []] τ K)
 (hn15 : ∀ (τ : St) (K : AV -> St -> Prop), (∀ τ2, Ext τ τ2 -> K (vT true) τ2) -> ZaC Tryz.prog 71 [.lst none 0 0 []] τ K)
 (hn16 : ∀ (τ : St) (K : AV -> St -> Prop), (∀ τ2, Ext τ τ2 -> K (vT true) τ2) -> ZaC Tryz.prog 72 [.lst none 0 0 []] τ K)
 (hn17 : ∀ (τ : St) (K : AV -> St -> Prop), (∀ τ2, Ext τ τ2 -> K (vT true) τ2) -> ZaC Tryz.prog 73 [.lst none 0 0 []] τ K)
 (hn18 : ∀ (τ : St) (K : AV -> St -> Prop), (∀ τ2, Ext τ τ2 -> K (vT true) τ2) -> ZaC Tryz.prog 74 [.lst none 0 0 []] τ K)
 (hn19 : ∀ (τ : St) (K : AV -> St -> Prop), (∀ τ2, Ext τ τ2 -> K (vT true) τ2) -> ZaC Tryz.prog 75 [.lst none 0 0 []] τ K)
 (hn20 : ∀ (τ : St) (K : AV -> St -> Prop), (∀ τ2, Ext τ τ2 -> K (vT true) τ2) -> ZaC Tryz.prog 76 [.lst none 0 0 []] τ K)
 (hn21 : ∀ (τ : St) (K : AV -> St -> Prop), (∀ τ2, Ext τ τ2 -> K (vT true) τ2) -> ZaC Tryz.prog 77 [.lst none 0 0 []] τ K)
 (hfl : ∀ (τ : St) (K : AV -> St -> Prop), Ext σ τ -> (∀ τ', But S τ τ' -> K (vT true) τ') -> ZaC Tryz.prog 69 [Lv] τ K)
 (h : ∀ τ, But S σ τ -> K (vT true) τ) : ZaC Tryz.prog 33 [ptr bb 0] σ K := by
 have hX0 := Ext.refl σ
 refine ZaR Zbv Tryz.func33 rfl rfl rfl (Nat.le_of_ble_eq_true rfl) ?_
 refine Zym 0 (v0 := ptr bb 0) rfl ?_
 intro e he
 refine Zah ?_
 refine Zaa (Zbu rfl (by simp only [EV, Nat.reduceEqDiff, ↓reduceIte, he] <;> try rfl) ?_)
 refine ZaD ?_
 apply Zym 0
 ·simp only [EV, Nat.reduceEqDiff, ↓reduceIte, he] <;> try rfl
 clear he e
 intro e he
 refine Zah ?_
 refine Zaa ?_
 refine Za0 (v := ptr bb 0) he ?_
 refine Zaa ?_
 refine ZaU (v := ptr bb 0) rfl rfl ?_
 refine Zaa ?_
 refine ZaM (b := bb) (o := 0) rfl Zea rfl ?_
 refine Zaa ?_
 refine Zeg (b := bb) (o := 0 + 0) (r := .lst none 0 0 []) rfl hb0 Zy3 Zy2 rfl ?_
 refine Zaa ?_
 refine ZcZ (vs := [.lst none 0 0 []]) rfl ?_
 refine hn0 _ _ fun τ1 hx1 => ?_
 have hb1 := hx1.keep _ _ hb0
 have hX1 := hX0.trans hx1
 refine Zaa ?_
 refine Za0 (v := vT true) rfl ?_
 refine ZeA (fun e => e 0 = ptr bb 0 /\ e 8 = vT true) ⟨he, rfl⟩ ?_
 clear he e
 intro e he
 refine Zaa ?_
 refine Zac (Zcp rfl he.2) ?_
 refine Za0 (v := ptr bb 0) he.1 ?_
 refine Zaa ?_
 refine Zac (Zcp rfl he.2) ?_
 refine ZaU (v := ptr bb 0) rfl rfl ?_
 refine Zaa ?_
 refine Zac (Zcp rfl he.2) ?_
 refine ZaM (b := bb) (o := 0) rfl Zea rfl ?_
 refine Zaa ?_
 refine Zac (Zcp rfl he.2) ?_
 refine Zeg (b := bb) (o := 0 + 1) (r := .lst none 0 0 []) rfl hb1 Zy5 Zy4 rfl ?_
 refine Zaa ?_
 refine Zac (Zcp rfl he.2) ?_
 refine ZcZ (vs := [.lst none 0 0 []]) rfl ?_
 refine hn1 _ _ fun τ2 hx2 => ?_
 have hb2 := hx2.keep _ _ hb1
 have hX2 := hX1.trans hx2
 refine Zaa ?_
 refine ZbS (v := vT true) he.2 rfl ?_
 refine Zaa ?_
 refine Za0 (v := vT true) rfl ?_
 refine ZeA (fun e => e 0 = ptr bb 0 /\ e 15 = vT true) ⟨he.1, rfl⟩ ?_
 clear he e
 intro e he
 refine Zaa ?_
 refine Zac (Zcp rfl he.2) ?_
 refine Za0 (v := ptr bb 0) he.1 ?_
 refine Zaa ?_
 refine Zac (Zcp rfl he.2) ?_
 refine ZaU (v := ptr bb 0) rfl rfl ?_
 refine Zaa ?_
 refine Zac (Zcp rfl he.2) ?_
 refine ZaM (b := bb) (o := 0) rfl Zea rfl ?_
 refine Zaa ?_
 refine Zac (Zcp rfl he.2) ?_
 refine Zeg (b := bb) (o := 0 + 2) (r := .lst none 0 0 []) rfl hb2 Zy7 Zy6 rfl ?_
 refine Zaa ?_
 refine Zac (Zcp rfl he.2) ?_
 refine ZcZ (vs := [.lst none 0 0 []]) rfl ?_
 refine hn2 _ _ fun τ3 hx3 => ?_
 have hb3 := hx3.keep _ _ hb2
 have hX3 := hX2.trans hx3
 refine Zaa ?_
 refine ZbS (v := vT true) he.2 rfl ?_
 refine Zaa ?_
 refine Za0 (v := vT true) rfl ?_
 refine ZeA (fun e => e 0 = ptr bb 0 /\ e 22 = vT true) ⟨he.1, rfl⟩ ?_
 clear he e
 intro e he
 refine Zaa ?_
 refine Zac (Zcp rfl he.2) ?_
 refine Za0 (v := ptr bb 0) he.1 ?_
 refine Zaa ?_
 refine Zac (Zcp rfl he.2) ?_
 refine ZaU (v := ptr bb 0) rfl rfl ?_
 refine Zaa ?_
 refine Zac (Zcp rfl he.2) ?_
 refine ZaM (b := bb) (o := 0) rfl Zea rfl ?_
 refine Zaa ?_
 refine Zac (Zcp rfl he.2) ?_
 refine Zeg (b := bb) (o := 0 + 3) (r := .lst none 0 0 []) rfl hb3 Zy9 Zy8 rfl ?_
 refine Zaa ?_
 refine Zac (Zcp rfl he.2) ?_
 refine ZcZ (vs := [.lst none 0 0 []]) rfl ?_
 refine hn3 _ _ fun τ4 hx4 => ?_
 have hb4 := hx4.keep _ _ hb3
 have hX4 := hX3.trans hx4
 refine Zaa ?_
 refine ZbS (v := vT true) he.2 rfl ?_
 refine Zaa ?_
 refine Za0 (v := vT true) rfl ?_
 refine ZeA (fun e => e 0 = ptr bb 0 /\ e 29 = vT true) ⟨he.1, rfl⟩ ?_
 clear he e
 intro e he
 refine Zaa ?_
 refine Zac (Zcp rfl he.2) ?_
 refine Za0 (v := ptr bb 0) he.1 ?_
 refine Zaa ?_
 refine Zac (Zcp rfl he.2) ?_
 refine ZaU (v := ptr bb 0) rfl rfl ?_
 refine Zaa ?_
 refine Zac (Zcp rfl he.2) ?_
 refine ZaM (b := bb) (o := 0) rfl Zea rfl ?_
 refine Zaa ?_
 refine Zac (Zcp rfl he.2) ?_
 refine Zeg (b := bb) (o := 0 + 4) (r := .lst none 0 0 []) rfl hb4 Zzb Zza rfl ?_
 refine Zaa ?_
 refine Zac (Zcp rfl he.2) ?_
 refine ZcZ (vs := [.lst none 0 0 []]) rfl ?_
 refine hn4 _ _ fun τ5 hx5 => ?_
 have hb5 := hx5.keep _ _ hb4
 have hX5 := hX4.trans hx5
 refine Zaa ?_
 refine ZbS (v := vT true) he.2 rfl ?_
 refine Zaa ?_
 refine Za0 (v := vT true) rfl ?_
 refine ZeA (fun e => e 0 = ptr bb 0 /\ e 36 = vT true) ⟨he.1, rfl⟩ ?_
 clear he e
 intro e he
 refine Zaa ?_
 refine Zac (Zcp rfl he.2) ?_
 refine Za0 (v := ptr bb 0) he.1 ?_
 refine Zaa ?_
 refine Zac (Zcp rfl he.2) ?_
 refine ZaU (v := ptr bb 0) rfl rfl ?_
 refine Zaa ?_
 refine Zac (Zcp rfl he.2) ?_
 refine ZaM (b := bb) (o := 0) rfl Zea rfl ?_
 refine Zaa ?_
 refine Zac (Zcp rfl he.2) ?_
 refine Zeg (b := bb) (o := 0 + 5) (r := .lst none 0 0 []) rfl hb5 Zzd Zzc rfl ?_
 refine Zaa ?_
 refine Zac (Zcp rfl he.2) ?_
 refine ZcZ (vs := [.lst none 0 0 []]) rfl ?_
 refine hn5 _ _ fun τ6 hx6 => ?_
 have hb6 := hx6.keep _ _ hb5
 have hX6 := hX5.trans hx6
 refine Zaa ?_
 refine ZbS (v := vT true) he.2 rfl ?_
 refine Zaa ?_
 refine Za0 (v := vT true) rfl ?_
 refine ZeA (fun e => e 0 = ptr bb 0 /\ e 43 = vT true) ⟨he.1, rfl⟩ ?_
 clear he e
 intro e he
 refine Zaa ?_
 refine Zac (Zcp rfl he.2) ?_
 refine Za0 (v := ptr bb 0) he.1 ?_
 refine Zaa ?_
 refine Zac (Zcp rfl he.2) ?_
 refine ZaU (v := ptr bb 0) rfl rfl ?_
 refine Zaa ?_
 refine Zac (Zcp rfl he.2) ?_
 refine ZaM (b := bb) (o := 0) rfl Zea rfl ?_
 refine Zaa ?_
 refine Zac (Zcp rfl he.2) ?_
 refine Zeg (b := bb) (o := 0 + 6) (r := .lst none 0 0 []) rfl hb6 Zzf Zze rfl ?_
 refine Zaa ?_
 refine Zac (Zcp rfl he.2) ?_
 refine ZcZ (vs := [.lst none 0 0 []]) rfl ?_
 refine hn6 _ _ fun τ7 hx7 => ?_
 have hb7 := hx7.keep _ _ hb6
 have hX7 := hX6.trans hx7
 refine Zaa ?_
 refine ZbS (v := vT true) he.2 rfl ?_
 refine Zaa ?_
 refine Za0 (v := vT true) rfl ?_
 refine ZeA (fun e => e 0 = ptr bb 0 /\ e 50 = vT true) ⟨he.1, rfl⟩ ?_
 clear he e
 intro e he
 refine Zaa ?_
 refine Zac (Zcp rfl he.2) ?_
 refine Za0 (v := ptr bb 0) he.1 ?_
 refine Zaa ?_
 refine Zac (Zcp rfl he.2) ?_
 refine ZaU (v := ptr bb 0) rfl rfl ?_
 refine Zaa ?_
 refine Zac (Zcp rfl he.2) ?_
 refine ZaM (b := bb) (o := 0) rfl Zea rfl ?_
 refine Zaa ?_
 refine Zac (Zcp rfl he.2) ?_
 refine Zeg (b := bb) (o := 0 + 7) (r := .lst none 0 0 []) rfl hb7 Zzh Zzg rfl ?_
 refine Zaa ?_
 refine Zac (Zcp rfl he.2) ?_
 refine ZcZ (vs := [.lst none 0 0 []]) rfl ?_
 refine hn7 _ _ fun τ8 hx8 => ?_
 have hb8 := hx8.keep _ _ hb7
 have hX8 := hX7.trans hx8
 refine Zaa ?_
 refine ZbS (v := vT true) he.2 rfl ?_
 refine Zaa ?_
 refine Za0 (v := vT true) rfl ?_
 refine ZeA (fun e => e 0 = ptr bb 0 /\ e 57 = vT true) ⟨he.1, rfl⟩ ?_
 clear he e
 intro e he
 refine Zaa ?_
 refine Zac (Zcp rfl he.2) ?_
 refine Za0 (v := ptr bb 0) he.1 ?_
 refine Zaa ?_
 refine Zac (Zcp rfl he.2) ?_
 refine ZaU (v := ptr bb 0) rfl rfl ?_
 refine Zaa ?_
 refine Zac (Zcp rfl he.2) ?_
 refine ZaM (b := bb) (o := 0) rfl Zea rfl ?_
 refine Zaa ?_
 refine Zac (Zcp rfl he.2) ?_
 refine Zeg (b := bb) (o := 0 + 8) (r := .lst none 0 0 []) rfl hb8 Zzj Zzi rfl ?_
 refine Zaa ?_
 refine Zac (Zcp rfl he.2) ?_
 refine ZcZ (vs := [.lst none 0 0 []]) rfl ?_
 refine hn8 _ _ fun τ9 hx9 => ?_
 have hb9 := hx9.keep _ _ hb8
 have hX9 := hX8.trans hx9
 refine Zaa ?_
 refine ZbS (v := vT true) he.2 rfl ?_
 refine Zaa ?_
 refine Za0 (v := vT true) rfl ?_
 refine ZeA (fun e => e 0 = ptr bb 0 /\ e 64 = vT true) ⟨he.1, rfl⟩ ?_
 clear he e
 intro e he
 refine Zaa ?_
 refine Zac (Zcp rfl he.2) ?_
 refine Za0 (v := ptr bb 0) he.1 ?_
 refine Zaa ?_
 refine Zac (Zcp rfl he.2) ?_
 refine ZaU (v := ptr bb 0) rfl rfl ?_
 refine Zaa ?_
 refine Zac (Zcp rfl he.2) ?_
 refine ZaM (b := bb) (o := 0) rfl Zea rfl ?_
 refine Zaa ?_
 refine Zac (Zcp rfl he.2) ?_
 refine Zeg (b := bb) (o := 0 + 9) (r := .lst none 0 0 []) rfl hb9 Zzl Zzk rfl ?_
 refine Zaa ?_
 refine Zac (Zcp rfl he.2) ?_
 refine ZcZ (vs := [.lst none 0 0 []]) rfl ?_
 refine hn9 _ _ fun τ10 hx10 => ?_
 have hb10 := hx10.keep _ _ hb9
 have hX10 := hX9.trans hx10
 refine Zaa ?_
 refine ZbS (v := vT true) he.2 rfl ?_
 refine Zaa ?_
 refine Za0 (v := vT true) rfl ?_
 refine ZeA (fun e => e 0 = ptr bb 0 /\ e 71 = vT true) ⟨he.1, rfl⟩ ?_
 clear he e
 intro e he
 refine Zaa ?_
 refine Zac (Zcp rfl he.2) ?_
 refine Za0 (v := ptr bb 0) he.1 ?_
 refine Zaa ?_
 refine Zac (Zcp rfl he.2) ?_
 refine ZaU (v := ptr bb 0) rfl rfl ?_
 refine Zaa ?_
 refine Zac (Zcp rfl he.2) ?_
 refine ZaM (b := bb) (o := 0) rfl Zea rfl ?_
 refine Zaa ?_
 refine Zac (Zcp rfl he.2) ?_
 refine Zeg (b := bb) (o := 0 + 10) (r := .lst none 0 0 []) rfl hb10 Zzn Zzm rfl ?_
 refine Zaa ?_
 refine Zac (Zcp rfl he.2) ?_
 refine ZcZ (vs := [.lst none 0 0 []]) rfl ?_
 refine hn10 _ _ fun τ11 hx11 => ?_
 have hb11 := hx11.keep _ _ hb10
 have hX11 := hX10.trans hx11
 refine Zaa ?_
 refine ZbS (v := vT true) he.2 rfl ?_
 refine Zaa ?_
 refine Za0 (v := vT true) rfl ?_
 refine ZeA (fun e => e 0 = ptr bb 0 /\ e 78 = vT true) ⟨he.1, rfl⟩ ?_
 clear he e
 intro e he
 refine Zaa ?_
 refine Zac (Zcp rfl he.2) ?_
 refine Za0 (v := ptr bb 0) he.1 ?_
 refine Zaa ?_
 refine Zac (Zcp rfl he.2) ?_
 refine ZaU (v := ptr bb 0) rfl rfl ?_
 refine Zaa ?_
 refine Zac (Zcp rfl he.2) ?_
 refine ZaM (b := bb) (o := 0) rfl Zea rfl ?_
 refine Zaa ?_
 refine Zac (Zcp rfl he.2) ?_
 refine Zeg (b := bb) (o := 0 + 11) (r := .lst none 0 0 []) rfl hb11 Zzp Zzo rfl ?_
 refine Zaa ?_
 refine Zac (Zcp rfl he.2) ?_
 refine ZcZ (vs := [.lst none 0 0 []]) rfl ?_
 refine hn11 _ _ fun τ12 hx12 => ?_
 have hb12 := hx12.keep _ _ hb11
 have hX12 := hX11.trans hx12
 refine Zaa ?_
 refine ZbS (v := vT true) he.2 rfl ?_
 refine Zaa ?_
 refine Za0 (v := vT true) rfl ?_
 refine ZeA (fun e => e 0 = ptr bb 0 /\ e 85 = vT true) ⟨he.1, rfl⟩ ?_
 clear he e
 intro e he
 refine Zaa ?_
 refine Zac (Zcp rfl he.2) ?_
 refine Za0 (v := ptr bb 0) he.1 ?_
 refine Zaa ?_
 refine Zac (Zcp rfl he.2) ?_
 refine ZaU (v := ptr bb 0) rfl rfl ?_
 refine Zaa ?_
 refine Zac (Zcp rfl he.2) ?_
 refine ZaM (b := bb) (o := 0) rfl Zea rfl ?_
 refine Zaa ?_
 refine Zac (Zcp rfl he.2) ?_
 refine Zeg (b := bb) (o := 0 + 12) (r := .lst none 0 0 []) rfl hb12 Zzr Zzq rfl ?_
 refine Zaa ?_
 refine Zac (Zcp rfl he.2) ?_
 refine ZcZ (vs := [.lst none 0 0 []]) rfl ?_
 refine hn12 _ _ fun τ13 hx13 => ?_
 have hb13 := hx13.keep _ _ hb12
 have hX13 := hX12.trans hx13
 refine Zaa ?_
 refine ZbS (v := vT true) he.2 rfl ?_
 refine Zaa ?_
 refine Za0 (v := vT true) rfl ?_
 refine ZeA (fun e => e 0 = ptr bb 0 /\ e 92 = vT true) ⟨he.1, rfl⟩ ?_
 clear he e
 intro e he
 refine Zaa ?_
 refine Zac (Zcp rfl he.2) ?_
 refine Za0 (v := ptr bb 0) he.1 ?_
 refine Zaa ?_
 refine Zac (Zcp rfl he.2) ?_
 refine ZaU (v := ptr bb 0) rfl rfl ?_
 refine Zaa ?_
 refine Zac (Zcp rfl he.2) ?_
 refine ZaM (b := bb) (o := 0) rfl Zea rfl ?_
 refine Zaa ?_
 refine Zac (Zcp rfl he.2) ?_
 refine Zeg (b := bb) (o := 0 + 13) (r := Lv) rfl hb13 Zy1 Zy0 rfl ?_
 refine Zaa ?_
 refine Zac (Zcp rfl he.2) ?_
 refine ZcZ (vs := [Lv]) rfl ?_
 refine hfl _ _ hX13 fun τ14 hx14 => ?_
 have hb14 := hx14.keep _ _ hS hb13
 have hX14 := hX13.but.trans hx14
 refine Zaa ?_
 refine ZbS (v := vT true) he.2 rfl ?_
 refine Zaa ?_
 refine Za0 (v := vT true) rfl ?_
 refine ZeA (fun e => e 0 = ptr bb 0 /\ e 99 = vT true) ⟨he.1, rfl⟩ ?_
 clear he e
 intro e he
 refine Zaa ?_
 refine Zac (Zcp rfl he.2) ?_
 refine Za0 (v := ptr bb 0) he.1 ?_
 refine Zaa ?_
 refine Zac (Zcp rfl he.2) ?_
 refine ZaU (v := ptr bb 0) rfl rfl ?_
 refine Zaa ?_
 refine Zac (Zcp rfl he.2) ?_
 refine ZaM (b := bb) (o := 0) rfl Zea rfl ?_
 refine Zaa ?_
 refine Zac (Zcp rfl he.2) ?_
 refine Zeg (b := bb) (o := 0 + 14) (r := .lst none 0 0 []) rfl hb14 Zzt Zzs rfl ?_
 refine Zaa ?_
 refine Zac (Zcp rfl he.2) ?_
 refine ZcZ (vs := [.lst none 0 0 []]) rfl ?_
 refine hn14 _ _ fun τ15 hx15 => ?_
 have hb15 := hx15.keep _ _ hb14
 have hX15 := hX14.trans hx15.but
 refine Zaa ?_
 refine ZbS (v := vT true) he.2 rfl ?_
 refine Zaa ?_
 refine Za0 (v := vT true) rfl ?_
 refine ZeA (fun e => e 0 = ptr bb 0 /\ e 106 = vT true) ⟨he.1, rfl⟩ ?_
 clear he e
 intro e he
 refine Zaa ?_
 refine Zac (Zcp rfl he.2) ?_
 refine Za0 (v := ptr bb 0) he.1 ?_
 refine Zaa ?_
 refine Zac (Zcp rfl he.2) ?_
 refine ZaU (v := ptr bb 0) rfl rfl ?_
 refine Zaa ?_
 refine Zac (Zcp rfl he.2) ?_
 refine ZaM (b := bb) (o := 0) rfl Zea rfl ?_
 refine Zaa ?_
 refine Zac (Zcp rfl he.2) ?_
 refine Zeg (b := bb) (o := 0 + 15) (r := .lst none 0 0 []) rfl hb15 Zzv Zzu rfl ?_
 refine Zaa ?_
 refine Zac (Zcp rfl he.2) ?_
 refine ZcZ (vs := [.lst none 0 0 []]) rfl ?_
 refine hn15 _ _ fun τ16 hx16 => ?_
 have hb16 := hx16.keep _ _ hb15
 have hX16 := hX15.trans hx16.but
 refine Zaa ?_
 refine ZbS (v := vT true) he.2 rfl ?_
 refine Zaa ?_
 refine Za0 (v := vT true) rfl ?_
 refine ZeA (fun e => e 0 = ptr bb 0 /\ e 113 = vT true) ⟨he.1, rfl⟩ ?_
 clear he e
 intro e he
 refine Zaa ?_
 refine Zac (Zcp rfl he.2) ?_
 refine Za0 (v := ptr bb 0) he.1 ?_
 refine Zaa ?_
 refine Zac (Zcp rfl he.2) ?_
 refine ZaU (v := ptr bb 0) rfl rfl ?_
 refine Zaa ?_
 refine Zac (Zcp rfl he.2) ?_
 refine ZaM (b := bb) (o := 0) rfl Zea rfl ?_
 refine Zaa ?_
 refine Zac (Zcp rfl he.2) ?_
 refine Zeg (b := bb) (o := 0 + 16) (r := .lst none 0 0 []) rfl hb16 Zzx Zzw rfl ?_
 refine Zaa ?_
 refine Zac (Zcp rfl he.2) ?_
 refine ZcZ (vs := [.lst none 0 0 []]) rfl ?_
 refine hn16 _ _ fun τ17 hx17 => ?_
 have hb17 := hx17.keep _ _ hb16
 have hX17 := hX16.trans hx17.but
 refine Zaa ?_
 refine ZbS (v := vT true) he.2 rfl ?_
 refine Zaa ?_
 refine Za0 (v := vT true) rfl ?_
 refine ZeA (fun e => e 0 = ptr bb 0 /\ e 120 = vT true) ⟨he.1, rfl⟩ ?_
 clear he e
 intro e he
 refine Zaa ?_
 refine Zac (Zcp rfl he.2) ?_
 refine Za0 (v := ptr bb 0) he.1 ?_
 refine Zaa ?_
 refine Zac (Zcp rfl he.2) ?_
 refine ZaU (v := ptr bb 0) rfl rfl ?_
 refine Zaa ?_
 refine Zac (Zcp rfl he.2) ?_
 refine ZaM (b := bb) (o := 0) rfl Zea rfl ?_
 refine Zaa ?_
 refine Zac (Zcp rfl he.2) ?_
 refine Zeg (b := bb) (o := 0 + 17) (r := .lst none 0 0 []) rfl hb17 Zzz Zzy rfl ?_
 refine Zaa ?_
 refine Zac (Zcp rfl he.2) ?_
 refine ZcZ (vs := [.lst none 0 0 []]) rfl ?_
 refine hn17 _ _ fun τ18 hx18 => ?_
 have hb18 := hx18.keep _ _ hb17
 have hX18 := hX17.trans hx18.but
 refine Zaa ?_
 refine ZbS (v := vT true) he.2 rfl ?_
 refine Zaa ?_
 refine Za0 (v := vT true) rfl ?_
 refine ZeA (fun e => e 0 = ptr bb 0 /\ e 127 = vT true) ⟨he.1, rfl⟩ ?_
 clear he e
 intro e he
 refine Zaa ?_
 refine Zac (Zcp rfl he.2) ?_
 refine Za0 (v := ptr bb 0) he.1 ?_
 refine Zaa ?_
 refine Zac (Zcp rfl he.2) ?_
 refine ZaU (v := ptr bb 0) rfl rfl ?_
 refine Zaa ?_
 refine Zac (Zcp rfl he.2) ?_
 refine ZaM (b := bb) (o := 0) rfl Zea rfl ?_
 refine Zaa ?_
 refine Zac (Zcp rfl he.2) ?_
 refine Zeg (b := bb) (o := 0 + 18) (r := .lst none 0 0 []) rfl hb18 ZzB ZzA rfl ?_
 refine Zaa ?_
 refine Zac (Zcp rfl he.2) ?_
 refine ZcZ (vs := [.lst none 0 0 []]) rfl ?_
 refine hn18 _ _ fun τ19 hx19 => ?_
 have hb19 := hx19.keep _ _ hb18
 have hX19 := hX18.trans hx19.but
 refine Zaa ?_
 refine ZbS (v := vT true) he.2 rfl ?_
 refine Zaa ?_
 refine Za0 (v := vT true) rfl ?_
 refine ZeA (fun e => e 0 = ptr bb 0 /\ e 134 = vT true) ⟨he.1, rfl⟩ ?_
 clear he e
 intro e he
 refine Zaa ?_
 refine Zac (Zcp rfl he.2) ?_
 refine Za0 (v := ptr bb 0) he.1 ?_
 refine Zaa ?_
 refine Zac (Zcp rfl he.2) ?_
 refine ZaU (v := ptr bb 0) rfl rfl ?_
 refine Zaa ?_
 refine Zac (Zcp rfl he.2) ?_
 refine ZaM (b := bb) (o := 0) rfl Zea rfl ?_
 refine Zaa ?_
 refine Zac (Zcp rfl he.2) ?_
 refine Zeg (b := bb) (o := 0 + 19) (r := .lst none 0 0 []) rfl hb19 ZzD ZzC rfl ?_
 refine Zaa ?_
 refine Zac (Zcp rfl he.2) ?_
 refine ZcZ (vs := [.lst none 0 0 []]) rfl ?_
 refine hn19 _ _ fun τ20 hx20 => ?_
 have hb20 := hx20.keep _ _ hb19
 have hX20 := hX19.trans hx20.but
 refine Zaa ?_
 refine ZbS (v := vT true) he.2 rfl ?_
 refine Zaa ?_
 refine Za0 (v := vT true) rfl ?_
 refine ZeA (fun e => e 0 = ptr bb 0 /\ e 141 = vT true) ⟨he.1, rfl⟩ ?_
 clear he e
 intro e he
 refine Zaa ?_
 refine Zac (Zcp rfl he.2) ?_
 refine Za0 (v := ptr bb 0) he.1 ?_
 refine Zaa ?_
 refine Zac (Zcp rfl he.2) ?_
 refine ZaU (v := ptr bb 0) rfl rfl ?_
 refine Zaa ?_
 refine Zac (Zcp rfl he.2) ?_
 refine ZaM (b := bb) (o := 0) rfl Zea rfl ?_
 refine Zaa ?_
 refine Zac (Zcp rfl he.2) ?_
 refine Zeg (b := bb) (o := 0 + 20) (r := .lst none 0 0 []) rfl hb20 ZzF ZzE rfl ?_
 refine Zaa ?_
 refine Zac (Zcp rfl he.2) ?_
 refine ZcZ (vs := [.lst none 0 0 []]) rfl ?_
 refine hn20 _ _ fun τ21 hx21 => ?_
 have hb21 := hx21.keep _ _ hb20
 have hX21 := hX20.trans hx21.but
 refine Zaa ?_
 refine ZbS (v := vT true) he.2 rfl ?_
 refine Zaa ?_
 refine Za0 (v := vT true) rfl ?_
 refine ZeA (fun e => e 0 = ptr bb 0 /\ e 148 = vT true) ⟨he.1, rfl⟩ ?_
 clear he e
 intro e he
 refine Zaa ?_
 refine Zac (Zcp rfl he.2) ?_
 refine Za0 (v := ptr bb 0) he.1 ?_
 refine Zaa ?_
 refine Zac (Zcp rfl he.2) ?_
 refine ZaU (v := ptr bb 0) rfl rfl ?_
 refine Zaa ?_
 refine Zac (Zcp rfl he.2) ?_
 refine ZaM (b := bb) (o := 0) rfl Zea rfl ?_
 refine Zaa ?_
 refine Zac (Zcp rfl he.2) ?_
 refine Zeg (b := bb) (o := 0 + 21) (r := .lst none 0 0 []) rfl hb21 ZzH ZzG rfl ?_
 refine Zaa ?_
 refine Zac (Zcp rfl he.2) ?_
 refine ZcZ (vs := [.lst none 0 0 []]) rfl ?_
 refine hn21 _ _ fun τ22 hx22 => ?_
 have hb22 := hx22.keep _ _ hb21
 have hX22 := hX21.trans hx22.but
 refine Zaa ?_
 refine ZbS (v := vT true) he.2 rfl ?_
 refine ZeA (fun e => e 0 = ptr bb 0 /\ e 154 = vT true) ⟨he.1, rfl⟩ ?_
 clear he e
 intro e he
 refine Zaa (Zbu rfl (by simp only [EV, Nat.reduceEqDiff, ↓reduceIte, he] <;> try rfl) ?_)
 refine ZaD ?_
 refine ZdD ?_
 show ∃ r, Zc8 _ _ _ _ r /\ _
 exact ⟨_, ZcA rfl (by simp only [EV, Nat.reduceEqDiff, ↓reduceIte, he] <;> try rfl), h _ hX22⟩
set_option maxHeartbeats 1000000 in
theorem ZzJ {nn : Nat -> Nat} {mk : Nat -> Nat -> List AV} {A : Option Addr} {c : Nat} {σ : St} {X0 : Nat -> List AV}
 (hmk : ∀ (k i : Nat) (σ : St) (K : AV -> St -> Prop), (∀ τ, Ext σ τ -> K (.agg (mk k i)) τ) -> ZaC Tryz.prog 52 [vI k, vI i] σ K)
 (hl : ∀ k i, (mk k i).length = 2) (h1 : ∀ k i, ∀ a ∈ mk k i, a.one = true) (hfit : ∀ k i, ZnO [.s, .s] ((mk k i).map AV.val))
 (hm : hs.length <= 1000) (hA : A = none -> hs.length = 0) (hn : ∀ j, nn j <= 1000000) (h0 : FA hs nn σ X0) (hfar : ∀ (k : Nat) (v : AV), hs[k]? = some v -> ZBc hs k v) :
 ZaC Tryz.prog 15 [.lst A hs.length c (hs ++ r0)] σ fun r τ => r = vT true /\ But (FS hs) σ τ := by
 have hSu : ∀ b, FS hs b -> σ.used b := fun b ⟨j, v, hv, hb⟩ => (h0 j v hv).used hb
 refine ZaR Zbv Tryz.func15 rfl rfl rfl (Nat.le_of_ble_eq_true rfl) ?_
 refine Zym 0 (v0 := .lst A hs.length c (hs ++ r0)) rfl ?_
 intro e he
 refine Zah ?_
 refine Zaa (Zbu rfl (by simp only [EV, Nat.reduceEqDiff, ↓reduceIte, he] <;> try rfl) ?_)
 refine ZaD ?_
 refine Zah ?_
 refine Zaa ?_
 refine ZAz (vs := []) (cells := ZzI (.lst none 0 0 [])) rfl ZCu ZCt rfl ?_
 refine Zaa ?_
 refine ZDf (v := .agg (ZzI (.lst none 0 0 []))) (by simp only [EV, Nat.reduceEqDiff, ↓reduceIte, he] <;> try rfl) rfl fun bb υ hbn hbu hb hbv hX => ?_
 refine Zaa (Zbu rfl (by simp only [EV, Nat.reduceEqDiff, ↓reduceIte, he] <;> try rfl) ?_)
 refine ZaD ?_
 refine Zcb ?_
 refine Zah ?_
 refine Zaa (Zbu rfl (by simp only [EV, Nat.reduceEqDiff, ↓reduceIte, he] <;> try rfl) ?_)
 refine ZaD ?_
 refine ZlE (fun env υ => ∃ Lv, (env 3 = ptr bb 0) /\ Ext σ υ /\ υ.blk bb = some (.own 87 (ZzI Lv)) /\ Own υ 29 1 Lv hs.length hs) ?_ ?_
 ·apply Zta 0 3 4
  ·simp only [EV, Nat.reduceEqDiff, ↓reduceIte, he] <;> try rfl
  ·simp only [EV, Nat.reduceEqDiff, ↓reduceIte, he] <;> try rfl
  ·simp only [EV, Nat.reduceEqDiff, ↓reduceIte, he] <;> try rfl
  clear he e
  intro e he
  refine Ze1 ?_
  refine Zgk (fun μ env υ => ∃ (k : Nat) (Lv : AV), μ = hs.length - k /\ k <= hs.length /\ (env 0 = .lst A hs.length c (hs ++ r0) /\ env 3 = ptr bb 0 /\ env 4 = vI k) /\ Ext σ υ /\ υ.blk bb = some (.own 87 (ZzI Lv)) /\ Own υ 29 1 Lv k (hs.take k) /\ ∀ g, Lv.blk = some g -> σ.blk g = none /\ ¬ σ.used g) ⟨_, 0, .lst none 0 0 [], rfl, Nat.zero_le _, he, hX, hb, ⟨by simp, .inl ⟨rfl, rfl⟩⟩, fun g hg => by cases hg⟩ ?_
  clear he e hX hb hbv υ
  rintro _ e υ ⟨k, Lv, rfl, hk, he, hX, hb, hO, hL⟩
  refine Zcb ?_
  refine Zah ?_
  refine Zaa (Zbu rfl (by simp only [EV, Nat.reduceEqDiff, ↓reduceIte, he] <;> try rfl) ?_)
  refine Zaa (Zbu rfl (by simp only [EV, Nat.reduceEqDiff, ↓reduceIte, he] <;> try rfl) ?_)
  refine Zaa ?_
  apply ZkT (hts := rfl) (ht := ZdO)
  ·simp only [EV, Nat.reduceEqDiff, ↓reduceIte, he] <;> try rfl
  ·exact AV.val_lst _ _ _ _
  refine Zaa ?_
  refine Zia k hs.length (by simp only [EV, Nat.reduceEqDiff, ↓reduceIte, he] <;> try rfl) (by simp only [EV, Nat.reduceEqDiff, ↓reduceIte, he] <;> try rfl) ?_
  refine ZaD ?_
  apply Zre 0 3 4 10
  ·simp only [EV, Nat.reduceEqDiff, ↓reduceIte, he] <;> try rfl
  ·simp only [EV, Nat.reduceEqDiff, ↓reduceIte, he] <;> try rfl
  ·simp only [EV, Nat.reduceEqDiff, ↓reduceIte, he] <;> try rfl
  ·simp only [EV, Nat.reduceEqDiff, ↓reduceIte, he] <;> try rfl
  clear he e
  intro e he
  refine ZgQ (t := decide (k < hs.length)) (by simp only [EV, Nat.reduceEqDiff, ↓reduceIte, he] <;> try rfl) (fun ht => ?_) (fun ht => ?_)
  ·have hlt : k < hs.length := of_decide_eq_true ht
   obtain ⟨v, hv⟩ : ∃ v, hs[k]? = some v := ⟨hs[k], List.getElem?_eq_getElem hlt⟩
   have ho := (h0 k v hv).oneV
   refine Zhv ?_
   refine ZgR ?_
   refine Zb7 ?_
   refine Zaa (Zbu rfl (by simp only [EV, Nat.reduceEqDiff, ↓reduceIte, he] <;> try rfl) ?_)
   refine Zaa (Zbu rfl (by simp only [EV, Nat.reduceEqDiff, ↓reduceIte, he] <;> try rfl) ?_)
   refine Zaa (Zbu rfl (by simp only [EV, Nat.reduceEqDiff, ↓reduceIte, he] <;> try rfl) ?_)
   refine Zaa ?_
   refine ZoZ (by simp only [EV, Nat.reduceEqDiff, ↓reduceIte, he] <;> try rfl) (by simp only [EV, Nat.reduceEqDiff, ↓reduceIte, he] <;> try rfl) hA ZdO Zcw hlt fun ad => ?_
   refine Zaa ?_
   refine Zo0 (by simp only [EV, Nat.reduceEqDiff, ↓reduceIte, he] <;> try rfl) hv Zib Zcw ?_
   refine Zaa ?_
   refine ZcZ (vs := [ptr bb 0, v]) (by simp only [List.map_cons, List.map_nil, EV, Nat.reduceEqDiff, ↓reduceIte, he]) ?_
   refine ZCw hb hO ho (by omega) fun Lu τ hO2 hb2 hbt hnw => ?_
   refine ZaD ?_
   show ZaY _ _ _ _ _ _
   refine Zb7 ?_
   refine Zaa (Zbu rfl (by simp only [EV, Nat.reduceEqDiff, ↓reduceIte, he] <;> try rfl) ?_)
   refine Zaa ?_
   refine ZhA k 1 (by simp only [EV, Nat.reduceEqDiff, ↓reduceIte, he] <;> try rfl) (by simp only [EV, Nat.reduceEqDiff, ↓reduceIte, he] <;> try rfl) (by omega) ?_
   refine Zaa (Zbu rfl (by simp only [EV, Nat.reduceEqDiff, ↓reduceIte, he] <;> try rfl) ?_)
   refine ZaD ?_
   show ∃ n', n' < _ /\ _
   refine ⟨_, (by omega : hs.length - (k + 1) < hs.length - k), k + 1, Lu, rfl, hlt, ⟨by simp only [EV, Nat.reduceEqDiff, ↓reduceIte, he] <;> try rfl, by simp only [EV, Nat.reduceEqDiff, ↓reduceIte, he] <;> try rfl, by simp only [EV, Nat.reduceEqDiff, ↓reduceIte, he] <;> try rfl⟩, But.ext hX (fun b hb => ?_) hbt, hb2, ?_, fun g hg => ?_⟩
   ·rcases hb with rfl | hb
    ·exact hbn
    ·exact (hL b hb).1
   ·have hvk : hs[k] = v := by
     rw [List.getElem?_eq_getElem hlt] at hv
     injection hv
    rw [ZpW hs k hlt, hvk]
    exact hO2
   ·rcases hnw g hg with h | h
    ·exact hL g h
    ·exact ⟨hX.noneOf h.1, hX.unused h.2⟩
  ·have hke : k = hs.length := by have := of_decide_eq_false ht; omega
   subst hke
   rw [List.take_length] at hO
   refine Zjq ?_
   exact ⟨rfl, Lv, by simp only [EV, Nat.reduceEqDiff, ↓reduceIte, he] <;> try rfl, hX, hb, hO⟩
 clear he e hX hb hbv υ
 rintro e υ ⟨Lv, he, hX, hb, hO⟩
 obtain ⟨A2, c2, hLv, hA2⟩ := hO.form_
 refine Zah ?_
 refine Zaa (Zbu rfl (by simp only [EV, Nat.reduceEqDiff, ↓reduceIte, he] <;> try rfl) ?_)
 refine Zaa ?_
 refine ZcZ (vs := [ptr bb 0]) (by simp only [List.map_cons, List.map_nil, EV, Nat.reduceEqDiff, ↓reduceIte, he]) ?_
 refine ZCx (S := FS hs) hb (fun h => hbu (hSu bb h)) Zxr Zxs Zxt Zxu Zxv Zxw Zxx Zxy Zxz ZxA ZvE ZvF ZvG ZvH ZvI ZvJ ZvK ZvL ZvM ZvN ZvO (fun τ K hτ hK => ?_) fun τ hτ => ?_
 ·have hf := ZBf (r0 := []) (A := A2) (c := c2) hmk hl h1 hfit hm hA2 hn (h0.ext (hX.trans hτ)) hfar
  rw [List.append_nil, <- hLv] at hf
  exact hf.mono fun r τ' ⟨h1, h2⟩ => by rw [h1]; exact hK τ' h2
 ·refine Zaa (Zbu rfl (by simp only [EV, Nat.reduceEqDiff, ↓reduceIte, he] <;> try rfl) ?_)
  refine ZaD ?_
  refine ZdD ?_
  show ∃ r, Zc8 _ _ _ _ r /\ _
  exact ⟨_, ZcA rfl (by simp only [EV, Nat.reduceEqDiff, ↓reduceIte, he] <;> try rfl), rfl, hX.but.trans hτ⟩
end
section
variable {T : Nat -> Type} {C : Zau T}
def avF : XV T -> AV
 | .int k n => .raw (.int k n)
 | .bool b => .raw (.bool b)
 | .str s => .raw (.string ⟨s.toArray⟩)
 | _ => .raw undef
def XV.flatB : XV T -> Bool
 | .int _ _ | .bool _ | .str _ => true
 | _ => false
theorem ZAj {N : Nat} {ρ : Nat -> AV} : ∀ {vs : List (XV T)} {as_ : List AV}, (∀ v ∈ vs, v.flatB = true) -> SVs C N ρ vs as_ -> as_ = vs.map avF
 | [], as_, _, h => ZcB.1 h
 | v :: vs, as_, hf, h => by
  obtain ⟨a, bs, rfl, h1, h2⟩ := h.to
  rw [List.map_cons, <- ZAj (fun x hx => hf x (List.mem_cons_of_mem _ hx)) h2]
  have hv := hf v List.mem_cons_self
  congr 1
  cases v <;> first | (cases hv; done) | exact Zat.1 h1 | exact Za6.1 h1 | exact Zc1.1 h1
theorem ZBh {vs : List (XV T)} (hf : ∀ v ∈ vs, v.flatB = true) : ∀ a ∈ vs.map avF, a.one = true := by
 intro a ha
 obtain ⟨v, hv, rfl⟩ := List.mem_map.1 ha
 have := hf v hv
 cases v <;> first | (cases this; done) | rfl
theorem ZzK {P : Program} {f : FuncId} {args : List (XV T)} {r : XV T} {vs : List AV} {rv : AV} (h : Tr C P (fun _ => True) f args [] r []) (hs : ∀ N ρ, SVs C N ρ args vs) (hr : ∀ N ρ a, SV C N ρ r a -> a = rv) (σ : St) (K : AV -> St -> Prop) (hK : ∀ τ, Ext σ τ -> K rv τ) : ZaC P f vs σ K := by
 have H : Hp C (fun _ => .raw undef) [] σ := ⟨fun i x hx => by simp at hx, fun i j x y b hx => by simp at hx⟩
 refine (h _ σ vs (hs _ _) H).mono fun a τ ⟨ρ', q1, q2, q3⟩ => ?_
 rw [hr _ _ _ q1]
 refine hK τ ⟨fun b k hb => q3.but.keep _ _ (fun hl => ?_) hb, q3.but.used⟩
 obtain ⟨i, x, _, hx, _⟩ := hl
 simp at hx
theorem ZuT {ρ : Nat -> AV} {h : List (HI T)} {σ : St} {N i n E : Nat} {a : AV} {e : TypeId} {kp : Bool} {xs : List (T E)} (hs : SV C N ρ (.as E i 0 n none) a) (H : Hp C ρ h σ) (hi : h[i]? = some (.arr e E kp xs)) (hn : n <= xs.length) : ∃ cells, Hd σ e (C.sz E) a n cells /\ ∀ b, hbk a = some b -> (ρ i).owns b := by
 rcases Zbz.1 hs with ⟨ad, c, rfl, hA⟩ | ⟨rfl, hn0, _⟩
 ·obtain ⟨b, q1, q2⟩ := hA.at_
  rcases Nat.eq_zero_or_pos c with hc | hc
  ·subst hc
   have hn0 : n = 0 := by have := hA.le; omega
   subst hn0
   exact ⟨[], ⟨by simp, by simp, .inl ⟨.inr ⟨ad, rfl⟩, rfl⟩⟩, fun b hb => by cases hb⟩
  ·have had := q2 hc
   rw [Nat.zero_mul] at had
   subst had
   obtain ⟨pre, rest, h2, h3, h4, h5, h6, h7⟩ := H.arrAt hi q1
   have hpl := (h4 0 ρ).len
   rw [Zc2] at hpl
   have hmul : n * C.sz E <= xs.length * C.sz E := Nat.mul_le_mul_right _ hn
   have hmul2 : n * C.sz E <= c * C.sz E := Nat.mul_le_mul_right _ hA.le
   rw [Nat.zero_add] at h5 h6 q1
   have ht : (pre ++ rest).take (n * C.sz E) = pre.take (n * C.sz E) := List.take_append_of_le_length (by omega)
   refine ⟨pre.take (n * C.sz E), ⟨by rw [List.length_take]; omega, fun a ha => ?_, .inr ⟨b, c, _, hc, rfl, h2, h3, h5, ht, hA.le, hA.max⟩⟩, fun b' hb => ?_⟩
   ·refine (h4 0 ρ).ones (fun x hx => ?_) a (List.mem_of_mem_take ha)
    obtain ⟨y, _, hy⟩ := List.mem_flatMap.1 hx
    exact Ze6 (C.shut _ _ _ hy)
   ·rw [q1, <- ZmQ hb]
    exact (ZAF _ _ _).2 rfl
 ·subst hn0
  exact ⟨[], ⟨by simp, by simp, .inl ⟨.inl rfl, rfl⟩⟩, fun b hb => by cases hb⟩
set_option maxHeartbeats 1000000 in
theorem ZzL {E : Nat} {xs ys : List (T E)} {n m : Nat} (hsz : C.sz E = 2) {mk : Int -> Int -> List AV}
 (hmk : ∀ (k i : Int) (σ : St) (K : AV -> St -> Prop), (∀ τ, Ext σ τ -> K (.agg (mk k i)) τ) -> ZaC Tryz.prog 52 [vI k, vI i] σ K)
 (hl : ∀ k i, (mk k i).length = 2) (h1 : ∀ k i, ∀ a ∈ mk k i, a.one = true) (hfit : ∀ k i, ZnO [.s, .s] ((mk k i).map AV.val))
 (hn : n <= xs.length) (hm : m <= ys.length) (hnB : n <= 1000000) (hmB : m <= 1000000) :
 Tr C Tryz.prog (fun _ => True) 15 [.vl [.as E 0 0 n none, .as E 1 0 m none]] [.arr 48 E true xs, .arr 48 E true ys] (.bool true) [.dead, .dead] := by
 intro ρ σ vs hs H
 obtain ⟨a, rfl, h2⟩ := ZgU.1 hs
 cases h2 with
 | vl l A c ls rest g1 g2 g3 g4 g5 g6 =>
 obtain ⟨a0, a1, rfl, s0, s1⟩ := ZiI.1 g5
 obtain ⟨c0, d0, o0⟩ := ZuT s0 H rfl hn
 obtain ⟨c1, d1, o1⟩ := ZuT s1 H rfl hm
 rw [hsz] at d0 d1
 have hap := ZzJ (hs := [a0, a1]) (r0 := rest) (nn := fun j => if j = 0 then n else m) (mk := fun k i => mk k i) (A := A) (c := c) (σ := σ) (X0 := fun j => if j = 0 then c0 else c1) (fun k i => hmk k i) (fun k i => hl k i) (fun k i => h1 k i) (fun k i => hfit k i) (by simp) (fun e => (g4 e).1) (fun j => by show (if j = 0 then n else m) <= _; split <;> omega)
  (fun j v hv => by
   match j, hv with
   | 0, hv => injection hv with hv; subst hv; exact d0
   | 1, hv => injection hv with hv; subst hv; exact d1)
  (fun k v hv i u b hik hu hub hb => by
   match k, i, hv, hu with
   | 0, 0, _, _ => exact hik rfl
   | 1, 1, _, _ => exact hik rfl
   | 0, 1, hv, hu =>
    injection hv with hv; injection hu with hu
    subst hv hu
    exact absurd (H.dist 0 1 _ _ b rfl rfl rfl rfl (o0 b hb) (o1 b hub)) (by decide)
   | 1, 0, hv, hu =>
    injection hv with hv; injection hu with hu
    subst hv hu
    exact absurd (H.dist 0 1 _ _ b rfl rfl rfl rfl (o0 b hub) (o1 b hb)) (by decide))
 refine hap.mono fun r τ ⟨e1, hB⟩ => ?_
 subst e1
 refine ⟨ρ, Za6.2 rfl, ⟨fun i x hx => ?_, fun i j x y b hx hy ax ay => ?_⟩, Nat.le_refl _, fun _ _ => rfl, hB.sub fun b hb => ?_, fun b hb => ?_⟩
 ·match i, hx with
  | 0, hx => injection hx with hx; subst hx; trivial
  | 1, hx => injection hx with hx; subst hx; trivial
 ·match i, hx with
  | 0, hx => injection hx with hx; subst hx; cases ax
  | 1, hx => injection hx with hx; subst hx; cases ax
 ·obtain ⟨j, v, hv, hb⟩ := hb
  match j, hv with
  | 0, hv => injection hv with hv; subst hv; exact ⟨0, _, trivial, rfl, rfl, o0 b hb⟩
  | 1, hv => injection hv with hv; subst hv; exact ⟨1, _, trivial, rfl, rfl, o1 b hb⟩
 ·obtain ⟨i, x, hx, ax, _⟩ := hb
  match i, hx with
  | 0, hx => injection hx with hx; subst hx; cases ax
  | 1, hx => injection hx with hx; subst hx; cases ax
end
end Go.Proofs.YtlmmpfbdgiokmaaGreat
