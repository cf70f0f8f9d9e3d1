/- XJd, XJe, XJk, XJl, XJy, XFrp in one. -/
import Derived.Test.YtiienjjhlibopaaGreatDoorFacts
import Derived.Test.YtiienjjhlibopaaGreatDoorMad
import Derived.Test.YtiienjjhlibopaaGreatDoorMab
import Derived.Test.YtiienjjhlibopaaGreatDoorMae
namespace Go.Proofs.YtiienjjhlibopaaGreatDoor
open Go.RowKit
set_option maxRecDepth 100000
set_option linter.unusedVariables false
set_option linter.unusedSimpArgs false
theorem Zb2 : Za3 Tryz.prog 115 = some [(0, some 1, some false), (1, some 1, some false), (2, some 1, some false)] := by kernel_rfl
theorem Zca : Za3 Tryz.prog 117 = some [(0, some 3, some true)] := by kernel_rfl
theorem ZmS : Program.underlying Tryz.prog 50 = some (.pointer (Program.pointee Tryz.prog 50)) := by kernel_rfl
theorem Zop : Zba Tryz.prog 115 = some (.agg #[.bool false, .bool false, .slice none 0 0]) := by kernel_rfl
theorem Zoq : ZbE Tryz.prog 115 = some [(0, 1), (1, 1), (2, 1)] := by kernel_rfl
theorem Zor : Zba Tryz.prog 117 = some (.agg #[.bool false, .bool false, .slice none 0 0]) := by kernel_rfl
theorem Zos : ZbE Tryz.prog 117 = some [(0, 3)] := by kernel_rfl
structure QAt (σ : St) (rb : Nat) (st : Option (List UInt8)) : Prop where
 ex : ∃ v, σ.blk rb = some (.own 117 [vT true, vT st.isNone, v]) /\ TB v (st.getD [])
 used : σ.used rb
section
variable {σ τ : St} {rb : Nat} {st : Option (List UInt8)} {K : AV -> St -> Prop}
theorem QAt.ext (h : QAt σ rb st) (k : Ext σ τ) : QAt τ rb st := by
 obtain ⟨v, h1, h2⟩ := h.ex
 exact ⟨⟨v, k.keep _ _ h1, h2⟩, k.used _ h.used⟩
theorem QAt.but {U : Nat -> Prop} (h : QAt σ rb st) (k : But U σ τ) (hU : ¬ U rb) : QAt τ rb st := by
 obtain ⟨v, h1, h2⟩ := h.ex
 exact ⟨⟨v, k.keep _ _ hU h1, h2⟩, k.used _ h.used⟩
theorem Zdy {d : List UInt8} {v : AV} (hv : Za5 σ v d) (hl : d.length <= 1000000000) (hK : ∀ rb τ, QAt τ rb (some d) -> Za9 σ rb -> Ext σ τ -> K (ptr rb 0) τ) : Zan Tryz.prog 24 [v] σ K := by
 refine Zai Zam Tryz.func24 rfl rfl rfl (Nat.le_of_ble_eq_true rfl) ?_
 refine Zbf 0 (v0 := v) rfl ?_
 intro e he
 repeat refine Zab ?_
 first|refine Zaa ?_|refine Zad ?_
 refine Zag ?_
 refine Zaf (kp1 0 fun e he => ?_)
 repeat refine Zab ?_
 first|refine Zaa ?_|refine Zad ?_
 refine Zag ?_
 refine Zao [v] ?_
 refine ZdR hv hl fun a τ ha hX => ?_
 refine Zac ?_
 refine Zbj (vs := [vT true, a]) (cells := [vT true, vT false, a]) (by simp only [List.map_cons, List.map_nil, EV,Nat.reduceEqDiff,↓reduceIte,he];try rfl) Zop Zoq (by
  obtain ⟨A, c, rest, rfl, _⟩ := ha
  rfl) ?_
 refine Zac ?_
 refine Zbj (vs := [.agg [vT true, vT false, a]]) (cells := [vT true, vT false, a]) (by simp only [List.map_cons, List.map_nil, EV,Nat.reduceEqDiff,↓reduceIte,he];try rfl) Zor Zos (by
  obtain ⟨A, c, rest, rfl, _⟩ := ha
  rfl) ?_
 refine Zac (Zbn (cs := [vT true, vT false, a]) (v := .agg [vT true, vT false, a]) rfl rfl fun b υ hn hu hb hub hX2 => ?_)
 refine Zag ?_
 refine Zaf (kp1 2 fun e he => ?_)
 refine Zap ?_
 exact ZaD (hK b υ ⟨⟨a, hb, ha⟩, hub⟩ (Za9.of ⟨hn, hu⟩ hX) (hX.trans hX2))
theorem Zp8 (h : QAt σ rb st) (hK : K (vT st.isSome) σ) : Zan Tryz.prog 76 [ptr rb 0] σ K := by
 obtain ⟨v, h1, h2⟩ := h.ex
 refine Zai Zam Tryz.func76 rfl rfl rfl (Nat.le_of_ble_eq_true rfl) ?_
 refine Zbf 0 (v0 := ptr rb 0) rfl ?_
 intro e he
 repeat refine Zab ?_
 first|refine Zaa ?_|refine Zad ?_
 refine Zag ?_
 refine Zaf (kp1 0 fun e he => ?_)
 repeat refine Zab ?_
 first|refine Zaa ?_|refine Zad ?_
 refine Zag ?_
 refine Zac (Zfn (p := some ⟨rb, 0, none⟩) ZmS rfl rfl rfl ?_)
 refine Zag ?_
 refine Zau ?_
 refine Zcb rfl he ?_
 refine Zau ?_
 refine Zav (v := ptr rb 0) rfl rfl ?_
 refine Zau ?_
 refine Zae (b := rb) (o := 0) rfl Zca rfl ?_
 refine Zau ?_
 refine Zae (b := rb) (o := 0 + 0) rfl Zb2 rfl ?_
 refine Zau ?_
 refine Zah (b := rb) (o := 0 + 0 + 0) (r := vT true) rfl h1 ZiQ Zhu rfl ?_
 refine Zac (Zaj (v := vT true) rfl rfl ?_)
 refine Zag ?_
 refine Zau ?_
 refine Zcb rfl he ?_
 refine Zau ?_
 refine Zav (v := ptr rb 0) rfl rfl ?_
 refine Zau ?_
 refine Zae (b := rb) (o := 0) rfl Zca rfl ?_
 refine Zau ?_
 refine Zae (b := rb) (o := 0 + 0) rfl Zb2 rfl ?_
 refine Zau ?_
 refine Zah (b := rb) (o := 0 + 0 + 1) (r := vT st.isNone) rfl h1 ZiQ Zhu rfl ?_
 refine Zau ?_
 refine ZcR (b := st.isNone) rfl ?_
 refine Zac (Zaj (v := vT (!st.isNone)) rfl rfl ?_)
 refine Zag ?_
 refine Zaf (kp1 2 fun e he => ?_)
 refine Zap ?_
 have e1 : (!st.isNone) = st.isSome := by cases st <;> rfl
 rw [e1] at he
 exact ZaD (hK)
theorem ZjT (h : QAt σ rb st) (hK : ∀ τ, QAt τ rb none -> But (fun c => c = rb) σ τ -> K (.tup []) τ) : Zan Tryz.prog 114 [ptr rb 0] σ K := by
 obtain ⟨v, h1, h2⟩ := h.ex
 refine Zai Zam Tryz.func114 rfl rfl rfl (Nat.le_of_ble_eq_true rfl) ?_
 refine Zbf 0 (v0 := ptr rb 0) rfl ?_
 intro e he
 refine Zad (Zag ?_)
 refine Zag ?_
 refine ZdP (b := rb) rfl Zb2 rfl fun u1 => ?_
 refine Zac (ZaI (b := rb) (o := 0 + 1) (v := vT true) rfl rfl h1 Zhu ⟨rfl, rfl, rfl⟩ (by simp) fun τ hb k => ?_)
 refine ZdP (b := rb) rfl Zb2 rfl fun u1 => ?_
 refine Zac (ZaI (b := rb) (o := 0 + 2) (v := .lst none 0 0 []) rfl rfl hb Zb6 ⟨rfl, rfl, rfl⟩ (by simp) fun τ2 hb2 k2 => ?_)
 refine Zaf ?_
 exact ⟨_, Zcu rfl, hK τ2 ⟨⟨_, hb2, ZdQ⟩, k2.used _ (k.used _ h.used)⟩ (k.trans k2)⟩
theorem ZmT {l : List UInt8} {n : Nat} (h : QAt σ rb (some l)) (hK0 : l.length < n -> ∀ τ, QAt τ rb none -> But (fun c => c = rb) σ τ -> K (.lst none 0 0 []) τ)
 (hK1 : n <= l.length -> ∀ a τ, TB a (l.take n) -> QAt τ rb (some (l.drop n)) -> But (fun c => c = rb) σ τ -> K a τ) : Zan Tryz.prog 113 [ptr rb 0, vI n] σ K := by
 obtain ⟨v, h1, h2⟩ := h.ex
 have h2 : TB v l := h2
 refine Zai Zam Tryz.func113 rfl rfl rfl (Nat.le_of_ble_eq_true rfl) ?_
 refine ZbL 0 1 (v0 := ptr rb 0) (v1 := vI n) rfl rfl ?_
 intro e he
 repeat refine Zab ?_
 first|refine Zaa ?_|refine Zad ?_
 refine Zag ?_
 refine Zaf (kp2 0 1 fun e he => ?_)
 repeat refine Zab ?_
 first|refine Zaa ?_|refine Zad ?_
 refine Zag ?_
 refine Zem (b := rb) (r := v) he.1 Zb2 rfl h1 rfl fa5 Zb6 fun u1 u2 u3 => ?_
 refine Zac (ZaP (σ := σ) rfl h2.ls rfl Zbw ?_)
 refine Zac (Zb3 (k := .i64) (a := (n : Int)) (b := (l.length : Int)) rfl rfl ?_)
 refine Zaf (kp3 0 1 12 fun e he => ?_)
 refine ZaC (t := decide ((l.length : Int) < n)) he.2.2 (fun ht => ?_) (fun ht => ?_)
 ·have hlt := of_decide_eq_true ht
  repeat refine Zab ?_
  first|refine Zaa ?_|refine Zad ?_
  refine Zag ?_
  refine Zao [ptr rb 0] ?_
  refine ZjT h fun τ hR k => ?_
  refine Zaf ?_
  repeat refine Zab ?_
  first|refine Zaa ?_|refine Zad ?_
  refine Zag ?_
  refine Zaf (kp1 4 fun e he => ?_)
  refine ZbB ?_
  exact ZaD (hK0 (by omega) τ hR k)
 have hle := of_decide_eq_false ht
 have hn : n <= l.length := by omega
 refine ZaL ?_
 repeat refine Zab ?_
 first|refine Zaa ?_|refine Zad ?_
 refine Zem (b := rb) (r := v) he.1 Zb2 rfl h1 rfl fa5 Zb6 fun u1 u2 u3 => ?_
 refine Zag ?_
 refine Zag ?_
 refine Zac (Zoe h2 rfl rfl rfl Zbw Zcn hn fun a ha => ?_)
 refine Zag ?_
 refine Zaf (kp3 0 1 5 fun e he => ?_)
 repeat refine Zab ?_
 first|refine Zaa ?_|refine Zad ?_
 refine Zag ?_
 refine Zem (b := rb) (r := v) he.1 Zb2 rfl h1 rfl fa5 Zb6 fun u1 u2 u3 => ?_
 refine Zag ?_
 refine Zac (Zgw h2 rfl rfl Zbw Zcn hn fun r hr => ?_)
 refine ZdP (b := rb) rfl Zb2 rfl fun u1 => ?_
 refine Zac (ZaI (b := rb) (o := 0 + 2) (v := r) rfl rfl h1 Zb6 hr.one (by simp) fun τ hb k => ?_)
 refine Zaf (kp1 5 fun e he => ?_)
 repeat refine Zab ?_
 first|refine Zaa ?_|refine Zad ?_
 refine Zag ?_
 refine Zag ?_
 refine Zaf (kp1 4 fun e he => ?_)
 refine Zap ?_
 exact ZaD (hK1 hn a τ ha ⟨⟨r, hb, hr⟩, k.used _ h.used⟩ k)
theorem Ziq (h : QAt σ rb st) (hK : K (vI (st.getD []).length) σ) : Zan Tryz.prog 31 [ptr rb 0] σ K := by
 obtain ⟨v, h1, h2⟩ := h.ex
 refine Zai Zam Tryz.func31 rfl rfl rfl (Nat.le_of_ble_eq_true rfl) ?_
 refine Zbf 0 (v0 := ptr rb 0) rfl ?_
 intro e he
 repeat refine Zab ?_
 first|refine Zaa ?_|refine Zad ?_
 refine Zag ?_
 refine Zaf (kp1 0 fun e he => ?_)
 repeat refine Zab ?_
 first|refine Zaa ?_|refine Zad ?_
 refine Zag ?_
 refine Zao [ptr rb 0] ?_
 refine Zp8 h ?_
 refine ZcU ?_
 refine Zaf (kp2 0 5 fun e he => ?_)
 refine ZaC (t := !st.isSome) he.2 (fun ht => ?_) (fun ht => ?_)
 ·cases st with
  | some l => cases ht
  | none =>
   repeat refine Zab ?_
   first|refine Zaa ?_|refine Zad ?_
   refine Zag ?_
   refine Zaf (kp1 2 fun e he => ?_)
   refine ZbB ?_
   exact ZaD (hK)
 refine ZaL ?_
 repeat refine Zab ?_
 first|refine Zaa ?_|refine Zad ?_
 refine Zge (b := rb) (r := v) he.1 Zca rfl Zb2 rfl h1 rfl fa5 Zb6 fun u1 u2 u3 u4 => ?_
 refine Zac (ZaP (σ := σ) rfl h2.ls rfl Zbw ?_)
 refine Zag ?_
 refine Zaf (kp1 2 fun e he => ?_)
 refine Zap ?_
 exact ZaD (hK)
theorem ZmU (h : QAt σ rb st) (hK : K (vI (if st = some [] then 0 else 4)) σ) : Zan Tryz.prog 115 [ptr rb 0] σ K := by
 obtain ⟨v, h1, h2⟩ := h.ex
 refine Zai Zam Tryz.func115 rfl rfl rfl (Nat.le_of_ble_eq_true rfl) ?_
 refine Zbf 0 (v0 := ptr rb 0) rfl ?_
 intro e he
 repeat refine Zab ?_
 first|refine Zaa ?_|refine Zad ?_
 refine Zag ?_
 refine Zaf (kp1 0 fun e he => ?_)
 refine ZaF ?_
 repeat refine Zab ?_
 first|refine Zaa ?_|refine Zad ?_
 refine Zag ?_
 refine Zac (Zdw (p := some ⟨rb, 0, none⟩) ZmS rfl rfl rfl ?_)
 refine Zag ?_
 refine Zau ?_
 refine Zcb rfl he ?_
 refine Zau ?_
 refine Zav (v := ptr rb 0) rfl rfl ?_
 refine Zau ?_
 refine Zae (b := rb) (o := 0) rfl Zca rfl ?_
 refine Zau ?_
 refine Zae (b := rb) (o := 0 + 0) rfl Zb2 rfl ?_
 refine Zau ?_
 refine Zah (b := rb) (o := 0 + 0 + 0) (r := vT true) rfl h1 ZiQ Zhu rfl ?_
 refine Zau ?_
 refine ZcR (b := true) rfl ?_
 refine Zac (Zak (v := vT false) rfl rfl ?_)
 refine Zag ?_
 refine Zaf (kp2 0 3 fun e he => ?_)
 refine ZaQ (t := false) he.2 (fun ht => by cases ht) (fun ht => ?_)
 cases st with
 | none =>
  repeat refine Zab ?_
  first|refine Zaa ?_|refine Zad ?_
  refine Zge (b := rb) (r := vT true) he.1 Zca rfl Zb2 rfl h1 rfl ZiQ Zhu fun u1 u2 u3 u4 => ?_
  refine Zag ?_
  refine Zal ?_
  refine Zal ?_
  refine Zal ?_
  refine Zal ?_
  refine Zal ?_
  refine Zal ?_
  refine Zal ?_
  refine Zac (Zaj (v := vT true) rfl rfl ?_)
  refine Zag ?_
  refine Zaf (kp1 14 fun e he => ?_)
  refine ZaQ (t := true) he (fun ht => ?_) (fun ht => by cases ht)
  repeat refine Zab ?_
  first|refine Zaa ?_|refine Zad ?_
  refine Zag ?_
  refine Zaf (kp1 2 fun e he => ?_)
  refine Zap ?_
  exact ZaD (hK)
 | some l =>
  have h2 : TB v l := h2
  repeat refine Zab ?_
  first|refine Zaa ?_|refine Zad ?_
  refine Zge (b := rb) (r := vT false) he.1 Zca rfl Zb2 rfl h1 rfl ZiQ Zhu fun u1 u2 u3 u4 => ?_
  refine Zag ?_
  refine Zau ?_
  refine Zcb rfl he.1 ?_
  refine Zau ?_
  refine Zav (v := ptr rb 0) rfl rfl ?_
  refine Zau ?_
  refine Zae (b := rb) (o := 0) rfl Zca rfl ?_
  refine Zau ?_
  refine Zae (b := rb) (o := 0 + 0) rfl Zb2 rfl ?_
  refine Zau ?_
  refine Zah (b := rb) (o := 0 + 0 + 2) (r := v) rfl h1 fa5 Zb6 rfl ?_
  refine Zau ?_
  refine ZaP (σ := σ) rfl h2.ls rfl Zbw ?_
  refine Zau ?_
  refine Zb3 (k := .i64) (a := (l.length : Int)) (b := 0) rfl rfl ?_
  refine Zac (Zak (v := vT (decide ((0 : Int) < l.length))) rfl rfl ?_)
  refine Zag ?_
  refine Zaf (kp1 14 fun e he => ?_)
  refine ZaQ (t := decide ((0 : Int) < l.length)) he (fun ht => ?_) (fun ht => ?_)
  ·have hlt := of_decide_eq_true ht
   repeat refine Zab ?_
   first|refine Zaa ?_|refine Zad ?_
   refine Zag ?_
   refine Zaf (kp1 2 fun e he => ?_)
   refine Zap ?_
   rw [if_neg (by
    intro q
    injection q with q
    rw [q] at hlt
    simp at hlt)] at hK
   exact ZaD (hK)
  ·have hle := of_decide_eq_false ht
   refine Zbm ?_
   show ZaA _ _ _ _ _ _
   repeat refine Zab ?_
   first|refine Zaa ?_|refine Zad ?_
   refine Zag ?_
   refine Zaf (kp1 2 fun e he => ?_)
   refine Zap ?_
   rw [if_pos (by rw [List.eq_nil_of_length_eq_zero (by omega : l.length = 0)])] at hK
   exact ZaD (hK)
end
def Zbr (most : Nat) (st : Option (List UInt8)) : Nat × Option (List UInt8) := match st.bind (ZqP most) with
 | none => (0, none)
 | some p => (p.1, some p.2)
def Ze9 (most : Nat) (st : Option (List UInt8)) : List UInt8 × Option (List UInt8) := match Zbr most st with
 | (n, some l) => if l.length < n then ([], none) else (l.take n, some (l.drop n))
 | (_, none) => ([], none)
theorem ZmV (most : Nat) : Zbr most none = (0, none) := rfl
theorem ZcH {most : Nat} {st : Option (List UInt8)} : (Zbr most st).1 <= most /\ (Zbr most st).1 <= top := by
 unfold Zbr
 split
 ·exact ⟨Nat.zero_le _, Nat.zero_le _⟩
 ·rename_i p h
  cases st with
  | none => cases h
  | some l =>
   have h : (Zgv 9 0 0 l).bind (fun p => if most < p.1 then none else some p) = some p := h
   cases hg : Zgv 9 0 0 l with
   | none => rw [hg] at h; cases h
   | some q =>
    rw [hg] at h
    have h : (if most < q.1 then none else some q) = some p := h
    split at h
    ·cases h
    ·injection h with h
     subst h
     exact ⟨by omega, (ZeF 9 0 0 l hg).1⟩
section
variable {σ : St} {rb : Nat} {st : Option (List UInt8)} {K : AV -> St -> Prop}
set_option maxHeartbeats 1000000 in
theorem ZbS {most : Nat} (h : QAt σ rb st) (hK : ∀ τ, QAt τ rb (Zbr most st).2 -> But (fun c => c = rb) σ τ -> K (vI (Zbr most st).1) τ) : Zan Tryz.prog 67 [ptr rb 0, vI most] σ K := by
 refine Zai Zam Tryz.func67 rfl rfl rfl (Nat.le_of_ble_eq_true rfl) ?_
 refine ZbL 0 1 (v0 := ptr rb 0) (v1 := vI most) rfl rfl ?_
 intro e he
 repeat refine Zab ?_
 first|refine Zaa ?_|refine Zad ?_
 refine Zag ?_
 refine Zaf (kp2 0 1 fun e he => ?_)
 repeat refine Zab ?_
 first|refine Zaa ?_|refine Zad ?_
 refine Zag ?_
 refine Zao [ptr rb 0] ?_
 refine Zp8 h ?_
 refine ZcU ?_
 refine Zaf (kp3 0 1 10 fun e he => ?_)
 refine ZaC (t := !st.isSome) he.2.2 (fun ht => ?_) (fun ht => ?_)
 ·cases st with
  | some l => cases ht
  | none =>
   repeat refine Zab ?_
   first|refine Zaa ?_|refine Zad ?_
   refine Zag ?_
   refine Zaf (kp1 4 ?_)
   clear he e
   intro e he
   refine ZbB ?_
   exact ZaD (hK σ h (.refl _ _))
 obtain ⟨l0, rfl⟩ : ∃ l, st = some l := by
  cases st with
  | none => cases ht
  | some l => exact ⟨l, rfl⟩
 refine ZaL ?_
 repeat refine Zab ?_
 first|refine Zaa ?_|refine Zad ?_
 refine Zag ?_
 refine Zaf (kp3 0 1 5 fun e he => ?_)
 repeat refine Zab ?_
 first|refine Zaa ?_|refine Zad ?_
 refine Zag ?_
 refine Zaf (kp4 0 1 5 6 fun e he => ?_)
 refine ZaF (Za4 (fun μ env υ => ∃ (k : Nat) (acc : Nat) (l : List UInt8), μ = 9 - k /\ k <= 9 /\ (env 0 = ptr rb 0 /\ env 1 = vI most /\ env 5 = vI acc /\ env 6 = vI (7 * k : Nat)) /\ QAt υ rb (some l) /\ But (fun c => c = rb) σ υ /\ Zgv (9 - k) k acc l = Zgv 9 0 0 l0 /\ acc < 2 ^ (7 * k)) ⟨_, 0, 0, l0, rfl, Nat.zero_le _, he, h, .refl _ _, rfl, by decide⟩ ?_)
 clear he e
 rintro _ e υ ⟨k, acc, l, rfl, hk, he, hR, hB, hg, hacc⟩
 repeat refine Zab ?_
 first|refine Zaa ?_|refine Zad ?_
 refine Zag ?_
 refine Zcf (7 * k) 63 ?_
 refine Zaf (kp5 0 1 5 6 12 fun e he => ?_)
 refine ZaC (t := decide (7 * k < 63)) he.2.2.2.2 (fun ht => ?_) (fun ht => ?_)
 ·have hlt : k < 9 := by have := of_decide_eq_true ht; omega
  obtain ⟨m, hm⟩ : ∃ m, 9 - k = m + 1 := ⟨9 - k - 1, by omega⟩
  rw [hm] at hg
  refine ZaL (ZaF ?_)
  repeat refine Zab ?_
  first|refine Zaa ?_|refine Zad ?_
  refine Zag ?_
  refine ZdP (b := rb) rfl Zca rfl fun u1 => ?_
  refine Zao [ptr rb 0, vI (1 : Nat)] ?_
  refine ZmT hR (fun hl τ hR2 k2 => ?_) fun hl a τ ha hR2 k2 => ?_
  ·have hnil : l = [] := List.eq_nil_of_length_eq_zero (by omega)
   subst hnil
   have hnum : Zbr most (some l0) = (0, none) := by
    have : Zgv 9 0 0 l0 = none := hg.symm
    unfold Zbr
    rw [Option.bind_some, ZqP, this]
    rfl
   rw [hnum] at hK
   obtain ⟨v, h1, h2⟩ := hR2.ex
   refine Zag ?_
   refine Zaf (kp5 0 1 5 6 7 fun e he => ?_)
   repeat refine Zab ?_
   first|refine Zaa ?_|refine Zad ?_
   refine Zge (b := rb) (r := vT true) he.1 Zca rfl Zb2 rfl h1 rfl ZiQ Zhu fun u1 u2 u3 u4 => ?_
   refine Zaf (kp6 0 1 5 6 7 23 ?_)
   clear he e
   intro e he
   refine ZaC (t := true) he.2.2.2.2.2 (fun ht => ?_) (fun ht => by cases ht)
   repeat refine Zab ?_
   first|refine Zaa ?_|refine Zad ?_
   refine Zag ?_
   refine Zaf (kp1 4 ?_)
   clear he e
   intro e he
   refine ZbB ?_
   exact ZaD (hK τ hR2 (hB.trans k2))
  obtain ⟨b, r, rfl⟩ : ∃ b r, l = b :: r := by
   cases l with
   | nil => simp at hl
   | cons b r => exact ⟨b, r, rfl⟩
  have ha : TB a [b] := ha
  have hR2 : QAt τ rb (some r) := hR2
  obtain ⟨v, h1, h2⟩ := hR2.ex
  have hbl := b.toNat_lt
  refine Zag ?_
  refine Zaf (kp5 0 1 5 6 7 fun e he => ?_)
  repeat refine Zab ?_
  first|refine Zaa ?_|refine Zad ?_
  refine Zge (b := rb) (r := vT false) he.1 Zca rfl Zb2 rfl h1 rfl ZiQ Zhu fun u1 u2 u3 u4 => ?_
  refine Zaf (kp6 0 1 5 6 7 23 fun e he => ?_)
  refine ZaC (t := false) he.2.2.2.2.2 (fun ht => by cases ht) (fun ht => ?_)
  refine ZaL ?_
  repeat refine Zab ?_
  first|refine Zaa ?_|refine Zad ?_
  refine Zag ?_
  refine Zag ?_
  refine Zgi (i := 0) (r := .raw (.int .u8 (b.toNat : Int))) (ha.ls (σ := τ)) (by simp) rfl rfl rfl Zbw Zcn Znz fun u1 => ?_
  refine Zac (Zn9 (k := .u8) (a := (b.toNat : Int)) (b := 127) rfl rfl rfl ?_)
  refine Zac (ZbF (k := .u8) (a := IntKind.u8.wrap ((BitVec.ofInt (IntKind.u8.bits) (b.toNat : Int) &&& BitVec.ofInt (IntKind.u8.bits) 127).toNat)) (r := IntKind.i64.wrap (IntKind.u8.wrap ((BitVec.ofInt (IntKind.u8.bits) (b.toNat : Int) &&& BitVec.ofInt (IntKind.u8.bits) 127).toNat))) Zfw fa1 rfl rfl ?_)
  refine Zag ?_
  refine Zac (ZpZ (k := .i64) (k' := .i64) (a := IntKind.i64.wrap (IntKind.u8.wrap ((BitVec.ofInt (IntKind.u8.bits) (b.toNat : Int) &&& BitVec.ofInt (IntKind.u8.bits) 127).toNat))) (b := ((7 * k : Nat) : Int)) rfl rfl (by omega) rfl ?_)
  refine Zac (Zrw (k := .i64) (a := (acc : Int)) (b := IntKind.i64.wrap ((IntKind.i64.wrap (IntKind.u8.wrap ((BitVec.ofInt (IntKind.u8.bits) (b.toNat : Int) &&& BitVec.ofInt (IntKind.u8.bits) 127).toNat))) * 2 ^ min ((7 * k : Nat) : Int).toNat (IntKind.i64.bits))) rfl rfl (ZmE b acc k (by omega) hacc _ (Int.toNat_natCast _)) ?_)
  refine Zag ?_
  refine Zaf (kp5 0 1 5 6 7 fun e he => ?_)
  repeat refine Zab ?_
  first|refine Zaa ?_|refine Zad ?_
  refine Zag ?_
  refine Zgi (i := 0) (r := .raw (.int .u8 (b.toNat : Int))) (ha.ls (σ := τ)) (by simp) rfl rfl rfl Zbw Zcn Znz fun u1 => ?_
  refine Zac (Zgh (k := .u8) (a := (b.toNat : Int)) (b := 128) rfl rfl ?_)
  refine Zaf (kp6 0 1 5 6 7 36 fun e he => ?_)
  generalize hn2 : acc + b.toNat % 128 * 2 ^ (7 * k) = n2 at he
  have hn2b : n2 < 2 ^ (7 * (k + 1)) := by
   rw [<- hn2, show 7 * (k + 1) = 7 * k + 7 by omega, Nat.pow_add]
   have : b.toNat % 128 * 2 ^ (7 * k) <= 127 * 2 ^ (7 * k) := Nat.mul_le_mul_right _ (by omega)
   omega
  have hgs : Zgv (m + 1) k acc (b :: r) = if b.toNat < 128 then (if (0 < k /\ b.toNat = 0) \/ top < n2 then none else some (n2, r)) else Zgv m (k + 1) n2 r := by
   rw [<- hn2]
   rfl
  rw [hgs] at hg
  refine ZaQ (t := decide ((b.toNat : Int) < 128)) he.2.2.2.2.2 (fun ht => ?_) (fun ht => ?_)
  ·have hb : b.toNat < 128 := by have := of_decide_eq_true ht; omega
   rw [if_pos hb] at hg
   refine Zab (Zce (fun e' υ => (e' 0 = ptr rb 0 /\ e' 5 = vI n2 /\ e' 53 = vT (decide ((0 < k /\ b.toNat = 0) \/ top < n2 \/ most < n2))) /\ τ = υ) ?_ ?_)
   ·refine Zad ?_
    refine Zag ?_
    refine Zac (Zb3 (k := .i64) (a := ((7 * k : Nat) : Int)) (b := 0) rfl rfl ?_)
    refine Zag ?_
    by_cases hk0 : 0 < k
    ·rw [decide_eq_true (by omega : (0 : Int) < ((7 * k : Nat) : Int))]
     refine Zau ?_
     refine Zcb rfl he.2.2.2.2.1 ?_
     refine Zau ?_
     refine Zcp (i := 0) (r := .raw (.int .u8 (b.toNat : Int))) (ha.ls (σ := τ)) (by simp) rfl rfl rfl Zbw Zcn Znz fun q hq => ?_
     refine Zau ?_
     refine ZbV rfl hq ?_
     refine Zau ?_
     refine ZbQ (k := .u8) (a := (b.toNat : Int)) (b := 0) rfl rfl ?_
     refine Zac (Zaj (v := vT (decide ((b.toNat : Int) = 0))) rfl rfl ?_)
     refine Zag ?_
     by_cases hb0 : b.toNat = 0
     ·rw [decide_eq_true (by omega : (b.toNat : Int) = 0)]
      refine Zal ?_
      refine Zal ?_
      refine Zac (Zaj (v := vT true) rfl rfl ?_)
      refine Zag ?_
      refine Zal ?_
      refine Zal ?_
      refine Zal ?_
      refine Zac (Zaj (v := vT true) rfl rfl ?_)
      refine Zaf ?_
      rw [decide_eq_true (.inl ⟨hk0, hb0⟩ : (0 < k /\ b.toNat = 0) \/ top < n2 \/ most < n2)]
      exact ⟨rfl, ⟨by simp only [EV,Nat.reduceEqDiff,↓reduceIte,he];try rfl, by simp only [EV,Nat.reduceEqDiff,↓reduceIte,he];try rfl, by simp only [EV,Nat.reduceEqDiff,↓reduceIte,he];try rfl⟩, rfl⟩
     ·rw [decide_eq_false (by omega : ¬ (b.toNat : Int) = 0)]
      refine Zau ?_
      refine Zcb rfl he.2.2.1 ?_
      refine Zau ?_
      refine Zb3 (k := .i64) (a := (n2 : Int)) (b := 4611686018427387903) rfl rfl ?_
      refine Zac (Zak (v := vT (decide ((4611686018427387903 : Int) < n2))) rfl rfl ?_)
      refine Zag ?_
      by_cases ht2 : top < n2
      ·have ht2' : (4611686018427387903 : Int) < n2 := by unfold top at ht2; omega
       rw [decide_eq_true ht2']
       refine Zal ?_
       refine Zal ?_
       refine Zal ?_
       refine Zac (Zaj (v := vT true) rfl rfl ?_)
       refine Zaf ?_
       rw [decide_eq_true (.inr (.inl ht2) : (0 < k /\ b.toNat = 0) \/ top < n2 \/ most < n2)]
       exact ⟨rfl, ⟨by simp only [EV,Nat.reduceEqDiff,↓reduceIte,he];try rfl, by simp only [EV,Nat.reduceEqDiff,↓reduceIte,he];try rfl, by simp only [EV,Nat.reduceEqDiff,↓reduceIte,he];try rfl⟩, rfl⟩
      ·have ht2' : ¬ (4611686018427387903 : Int) < n2 := by unfold top at ht2; omega
       rw [decide_eq_false ht2']
       refine Zau ?_
       refine Zcb rfl he.2.2.1 ?_
       refine Zau ?_
       refine Zcb rfl he.2.1 ?_
       refine Zau ?_
       refine Zb3 (k := .i64) (a := (n2 : Int)) (b := (most : Int)) rfl rfl ?_
       refine Zac (Zak (v := vT (decide ((most : Int) < n2))) rfl rfl ?_)
       refine Zaf ?_
       have e1 : decide ((most : Int) < n2) = decide ((0 < k /\ b.toNat = 0) \/ top < n2 \/ most < n2) := decide_eq_decide.2 ⟨fun q => .inr (.inr (by omega)), fun q => by rcases q with q | q | q <;> omega⟩
       rw [<- e1]
       exact ⟨rfl, ⟨by simp only [EV,Nat.reduceEqDiff,↓reduceIte,he];try rfl, by simp only [EV,Nat.reduceEqDiff,↓reduceIte,he];try rfl, by simp only [EV,Nat.reduceEqDiff,↓reduceIte,he];try rfl⟩, rfl⟩
    ·rw [decide_eq_false (by omega : ¬ (0 : Int) < ((7 * k : Nat) : Int))]
     refine Zal ?_
     refine Zal ?_
     refine Zal ?_
     refine Zal ?_
     refine Zac (Zak (v := vT false) rfl rfl ?_)
     refine Zag ?_
     refine Zau ?_
     refine Zcb rfl he.2.2.1 ?_
     refine Zau ?_
     refine Zb3 (k := .i64) (a := (n2 : Int)) (b := 4611686018427387903) rfl rfl ?_
     refine Zac (Zak (v := vT (decide ((4611686018427387903 : Int) < n2))) rfl rfl ?_)
     refine Zag ?_
     by_cases ht2 : top < n2
     ·have ht2' : (4611686018427387903 : Int) < n2 := by unfold top at ht2; omega
      rw [decide_eq_true ht2']
      refine Zal ?_
      refine Zal ?_
      refine Zal ?_
      refine Zac (Zaj (v := vT true) rfl rfl ?_)
      refine Zaf ?_
      rw [decide_eq_true (.inr (.inl ht2) : (0 < k /\ b.toNat = 0) \/ top < n2 \/ most < n2)]
      exact ⟨rfl, ⟨by simp only [EV,Nat.reduceEqDiff,↓reduceIte,he];try rfl, by simp only [EV,Nat.reduceEqDiff,↓reduceIte,he];try rfl, by simp only [EV,Nat.reduceEqDiff,↓reduceIte,he];try rfl⟩, rfl⟩
     ·have ht2' : ¬ (4611686018427387903 : Int) < n2 := by unfold top at ht2; omega
      rw [decide_eq_false ht2']
      refine Zau ?_
      refine Zcb rfl he.2.2.1 ?_
      refine Zau ?_
      refine Zcb rfl he.2.1 ?_
      refine Zau ?_
      refine Zb3 (k := .i64) (a := (n2 : Int)) (b := (most : Int)) rfl rfl ?_
      refine Zac (Zak (v := vT (decide ((most : Int) < n2))) rfl rfl ?_)
      refine Zaf ?_
      have e1 : decide ((most : Int) < n2) = decide ((0 < k /\ b.toNat = 0) \/ top < n2 \/ most < n2) := decide_eq_decide.2 ⟨fun q => .inr (.inr (by omega)), fun q => by rcases q with q | q | q <;> omega⟩
      rw [<- e1]
      exact ⟨rfl, ⟨by simp only [EV,Nat.reduceEqDiff,↓reduceIte,he];try rfl, by simp only [EV,Nat.reduceEqDiff,↓reduceIte,he];try rfl, by simp only [EV,Nat.reduceEqDiff,↓reduceIte,he];try rfl⟩, rfl⟩
   clear he e
   rintro e _ ⟨he, rfl⟩
   have hnum : Zbr most (some l0) = if (0 < k /\ b.toNat = 0) \/ top < n2 \/ most < n2 then (0, none) else (n2, some r) := by
    unfold Zbr
    rw [Option.bind_some, ZqP, <- hg]
    by_cases h1 : (0 < k /\ b.toNat = 0) \/ top < n2
    ·rw [if_pos h1, if_pos (h1.elim .inl fun q => .inr (.inl q))]
     rfl
    ·rw [if_neg h1, Option.bind_some]
     by_cases h2 : most < n2
     ·rw [if_pos h2, if_pos (.inr (.inr h2))]
     ·rw [if_neg h2, if_neg (fun q => h1 (q.elim .inl fun q => .inr (q.elim id fun q => absurd q h2)))]
   refine ZaC (t := decide ((0 < k /\ b.toNat = 0) \/ top < n2 \/ most < n2)) he.2.2 (fun ht => ?_) (fun ht => ?_)
   ·rw [if_pos (of_decide_eq_true ht)] at hnum
    rw [hnum] at hK
    repeat refine Zab ?_
    first|refine Zaa ?_|refine Zad ?_
    refine Zag ?_
    refine ZdP (b := rb) rfl Zca rfl fun u1 => ?_
    refine Zao [ptr rb 0] ?_
    refine ZjT hR2 fun τ2 hR3 k3 => ?_
    refine Zaf ?_
    repeat refine Zab ?_
    first|refine Zaa ?_|refine Zad ?_
    refine Zag ?_
    refine Zaf (kp1 4 fun e he => ?_)
    refine ZbB ?_
    exact ZaD (hK τ2 hR3 ((hB.trans k2).trans k3))
   ·rw [if_neg (of_decide_eq_false ht)] at hnum
    rw [hnum] at hK
    refine ZaL ?_
    repeat refine Zab ?_
    first|refine Zaa ?_|refine Zad ?_
    refine Zag ?_
    refine Zag ?_
    refine Zaf (kp1 4 fun e he => ?_)
    refine ZbB ?_
    exact ZaD (hK τ hR2 (hB.trans k2))
  ·have hb : ¬ b.toNat < 128 := by have := of_decide_eq_false ht; omega
   rw [if_neg hb] at hg
   refine Zbm ?_
   show ZaA _ _ _ _ _ _
   refine Zad (Zag ?_)
   refine Zby (7 * k) 7 ?_
   refine Zag ?_
   refine Zaf ?_
   show ∃ n', n' < _ /\ _
   refine ⟨_, (by omega : 9 - (k + 1) < 9 - k), k + 1, n2, r, rfl, by omega, ⟨by simp only [EV,Nat.reduceEqDiff,↓reduceIte,he];try rfl, by simp only [EV,Nat.reduceEqDiff,↓reduceIte,he];try rfl, by simp only [EV,Nat.reduceEqDiff,↓reduceIte,he];try rfl, by simp only [EV,Nat.reduceEqDiff,↓reduceIte,he];try rfl⟩, hR2, hB.trans k2, ?_, hn2b⟩
   rw [show 9 - (k + 1) = m by omega]
   exact hg
 ·have hke : k = 9 := by have := of_decide_eq_false ht; omega
  subst hke
  refine Zbu ?_
  show ZaA _ _ _ _ _ _
  have hnum : Zbr most (some l0) = (0, none) := by
   have : Zgv 9 0 0 l0 = none := hg.symm
   unfold Zbr
   rw [Option.bind_some, ZqP, this]
   rfl
  rw [hnum] at hK
  repeat refine Zab ?_
  first|refine Zaa ?_|refine Zad ?_
  refine Zag ?_
  refine ZdP (b := rb) rfl Zca rfl fun u1 => ?_
  refine Zao [ptr rb 0] ?_
  refine ZjT hR fun τ2 hR3 k3 => ?_
  refine Zaf ?_
  repeat refine Zab ?_
  first|refine Zaa ?_|refine Zad ?_
  refine Zag ?_
  refine Zaf (kp1 4 fun e he => ?_)
  refine Zap ?_
  exact ZaD (hK τ2 hR3 (hB.trans k3))
theorem ZrB {most : Nat} (h : QAt σ rb st) (hlen : (st.getD []).length <= 1000000000) (hK : ∀ a τ, TB a (Ze9 most st).1 -> QAt τ rb (Ze9 most st).2 -> But (fun c => c = rb) σ τ -> K a τ) : Zan Tryz.prog 68 [ptr rb 0, vI most] σ K := by
 refine Zai Zam Tryz.func68 rfl rfl rfl (Nat.le_of_ble_eq_true rfl) ?_
 refine ZbL 0 1 (v0 := ptr rb 0) (v1 := vI most) rfl rfl ?_
 intro e he
 repeat refine Zab ?_
 first|refine Zaa ?_|refine Zad ?_
 refine Zag ?_
 refine Zaf (kp2 0 1 fun e he => ?_)
 repeat refine Zab ?_
 first|refine Zaa ?_|refine Zad ?_
 refine Zag ?_
 refine Zag ?_
 refine Zao [ptr rb 0, vI most] ?_
 refine ZbS h fun τ hR k => ?_
 generalize hq : Zbr most st = q at hR
 obtain ⟨n, st2⟩ := q
 have hR : QAt τ rb st2 := hR
 refine Zag ?_
 refine Zaf (kp2 0 5 fun e he => ?_)
 repeat refine Zab ?_
 first|refine Zaa ?_|refine Zad ?_
 refine Zag ?_
 refine Zao [ptr rb 0] ?_
 refine Zp8 hR ?_
 refine ZcU ?_
 refine Zaf (kp3 0 5 11 fun e he => ?_)
 refine ZaC (t := !st2.isSome) he.2.2 (fun ht => ?_) (fun ht => ?_)
 ·cases st2 with
  | some l => cases ht
  | none =>
   have hr : Ze9 most st = ([], none) := by unfold Ze9; rw [hq]
   rw [hr] at hK
   repeat refine Zab ?_
   first|refine Zaa ?_|refine Zad ?_
   refine Zag ?_
   refine Zaf (kp1 4 ?_)
   clear he e
   intro e he
   refine ZbB ?_
   exact ZaD (hK _ τ ZdQ hR k)
 obtain ⟨l, rfl⟩ : ∃ l, st2 = some l := by
  cases st2 with
  | none => cases ht
  | some l => exact ⟨l, rfl⟩
 have hr : Ze9 most st = if l.length < n then ([], none) else (l.take n, some (l.drop n)) := by unfold Ze9; rw [hq]
 have hll : l.length <= 1000000000 := by
  cases st with
  | none => rw [ZmV] at hq; cases hq
  | some l0 =>
   have hlen : l0.length <= 1000000000 := hlen
   unfold Zbr at hq
   rw [Option.bind_some, ZqP] at hq
   cases hg : Zgv 9 0 0 l0 with
   | none => rw [hg] at hq; cases hq
   | some p =>
    rw [hg, Option.bind_some] at hq
    have := (ZeF 9 0 0 l0 hg).2.1
    by_cases h2 : most < p.1
    ·rw [if_pos h2] at hq; cases hq
    ·rw [if_neg h2] at hq
     injection hq with _ hq
     injection hq with hq
     rw [<- hq]
     omega
 refine ZaL ?_
 repeat refine Zab ?_
 first|refine Zaa ?_|refine Zad ?_
 refine Zag ?_
 refine ZdP (b := rb) rfl Zca rfl fun u1 => ?_
 refine Zag ?_
 refine Zao [ptr rb 0, vI n] ?_
 refine ZmT hR (fun hl τ2 hR2 k2 => ?_) fun hl a τ2 ha hR2 k2 => ?_
 ·rw [if_pos hl] at hr
  rw [hr] at hK
  refine Zao [.lst none 0 0 []] ?_
  refine ZdR (d := []) ZdQ.at_ (by simp) fun a υ ha hX => ?_
  refine Zag ?_
  refine Zaf (kp1 4 fun e he => ?_)
  refine Zap ?_
  exact ZaD (hK a υ ha (hR2.ext hX) ((k.trans k2).trans hX.but))
 ·rw [if_neg (by omega)] at hr
  rw [hr] at hK
  refine Zao [a] ?_
  refine ZdR ha.at_ (by rw [List.length_take]; omega) fun a υ ha hX => ?_
  refine Zag ?_
  refine Zaf (kp1 4 fun e he => ?_)
  refine Zap ?_
  exact ZaD (hK a υ ha (hR2.ext hX) ((k.trans k2).trans hX.but))
end
theorem Zp9 : Program.underlying Tryz.prog 240 = some (.int .u64) := by kernel_rfl
def Zjv (l : List UInt8) : Nat × Nat := match Zgv 9 0 0 l with
 | none => (0, 0)
 | some p => (p.1, l.length - p.2.length)
section
variable {σ : St} {K : AV -> St -> Prop}
set_option maxHeartbeats 1000000 in
theorem Zqa {v : AV} {l : List UInt8} (hv : TB v l) (hK : K (.tup [vI (Zjv l).1, vI (Zjv l).2]) σ) : Zan Tryz.prog 116 [v] σ K := by
 have hsm := hv.small
 refine Zai Zam Tryz.func116 rfl rfl rfl (Nat.le_of_ble_eq_true rfl) ?_
 refine Zbf 0 (v0 := v) rfl ?_
 intro e he
 repeat refine Zab ?_
 first|refine Zaa ?_|refine Zad ?_
 refine Zag ?_
 refine Zag ?_
 refine Zaf (kp1 0 fun e he => ?_)
 repeat refine Zab ?_
 first|refine Zaa ?_|refine Zad ?_
 refine Zag ?_
 refine Zaf (kp2 0 4 fun e he => ?_)
 refine Zab ?_
 repeat refine Zab ?_
 first|refine Zaa ?_|refine Zad ?_
 refine Zag ?_
 refine Zaf (kp3 0 4 5 fun e he => ?_)
 refine ZaF (Za4 (fun μ env υ => σ = υ /\ ∃ (i acc : Nat), μ = 9 - i /\ i <= 9 /\ i <= l.length /\ (env 0 = v /\ env 4 = vI acc /\ env 5 = vI i) /\ Zgv (9 - i) i acc (l.drop i) = Zgv 9 0 0 l /\ acc < 2 ^ (7 * i)) ⟨_, rfl, 0, 0, rfl, Nat.zero_le _, Nat.zero_le _, he, rfl, by decide⟩ ?_)
 clear he e
 rintro _ e _ ⟨rfl, i, acc, rfl, hi9, hil, he, hg, hacc⟩
 refine Zab (Zce (fun e' υ => (e' 0 = v /\ e' 4 = vI acc /\ e' 5 = vI i /\ e' 13 = vT (decide (i < l.length /\ i < 9))) /\ σ = υ) ?_ ?_)
 ·refine Zad ?_
  refine Zag ?_
  refine Zag ?_
  refine Zac (ZaP (σ := σ) rfl hv.ls rfl Zbw ?_)
  refine Zcf i l.length ?_
  refine Zag ?_
  by_cases h1 : i < l.length
  ·rw [decide_eq_true h1]
   refine Zau ?_
   refine Zcb rfl he.2.2 ?_
   refine Zau ?_
   refine ZiX i 9 rfl rfl ?_
   refine Zac (Zaj (v := vT (decide (i < 9))) rfl rfl ?_)
   refine Zaf ?_
   rw [show decide (i < l.length /\ i < 9) = decide (i < 9) from decide_eq_decide.2 ⟨fun q => q.2, fun q => ⟨h1, q⟩⟩]
   exact ⟨rfl, ⟨by simp only [EV,Nat.reduceEqDiff,↓reduceIte,he];try rfl, by simp only [EV,Nat.reduceEqDiff,↓reduceIte,he];try rfl, by simp only [EV,Nat.reduceEqDiff,↓reduceIte,he];try rfl, by simp only [EV,Nat.reduceEqDiff,↓reduceIte,he];try rfl⟩, rfl⟩
  ·rw [decide_eq_false h1]
   refine Zal ?_
   refine Zal ?_
   refine Zac (Zak (v := vT false) rfl rfl ?_)
   refine Zaf ?_
   rw [show decide (i < l.length /\ i < 9) = false from decide_eq_false fun q => h1 q.1]
   exact ⟨rfl, ⟨by simp only [EV,Nat.reduceEqDiff,↓reduceIte,he];try rfl, by simp only [EV,Nat.reduceEqDiff,↓reduceIte,he];try rfl, by simp only [EV,Nat.reduceEqDiff,↓reduceIte,he];try rfl, by simp only [EV,Nat.reduceEqDiff,↓reduceIte,he];try rfl⟩, rfl⟩
 clear he e
 rintro e _ ⟨he, rfl⟩
 refine ZaC (t := decide (i < l.length /\ i < 9)) he.2.2.2 (fun ht => ?_) (fun ht => ?_)
 ·obtain ⟨hlt, hlt9⟩ := of_decide_eq_true ht
  have hd : l.drop i = l[i] :: l.drop (i + 1) := List.drop_eq_getElem_cons hlt
  obtain ⟨m, hm⟩ : ∃ m, 9 - i = m + 1 := ⟨9 - i - 1, by omega⟩
  rw [hm, hd] at hg
  have hbl := l[i].toNat_lt
  generalize hb : l[i] = b at *
  have hbg : (bys l)[i]? = some (.raw (.int .u8 (b.toNat : Int))) := by rw [<- hb]; exact Ze4 hlt
  refine ZaL (ZaF ?_)
  repeat refine Zab ?_
  first|refine Zaa ?_|refine Zad ?_
  refine Zag ?_
  refine Zag ?_
  refine Zag ?_
  refine Zgi (i := i) (r := .raw (.int .u8 (b.toNat : Int))) (hv.ls (σ := σ)) hlt hbg rfl rfl Zbw Zcn (by kernel_rfl) fun u1 => ?_
  refine Zac (Zn9 (k := .u8) (a := (b.toNat : Int)) (b := 127) rfl rfl rfl ?_)
  refine Zac (ZbF (k := .u8) (a := IntKind.u8.wrap ((BitVec.ofInt (IntKind.u8.bits) (b.toNat : Int) &&& BitVec.ofInt (IntKind.u8.bits) 127).toNat)) (r := IntKind.i64.wrap (IntKind.u8.wrap ((BitVec.ofInt (IntKind.u8.bits) (b.toNat : Int) &&& BitVec.ofInt (IntKind.u8.bits) 127).toNat))) Zfw fa1 rfl rfl ?_)
  refine Zag ?_
  refine Zac (ZnF (k := .i64) (a := 7) (b := (i : Int)) (r := ((7 * i : Nat) : Int)) rfl rfl (by rw [IntWalk.i64_in _ (by omega)]; omega) ?_)
  refine Zac (ZbF (k := .i64) (a := ((7 * i : Nat) : Int)) (r := ((7 * i : Nat) : Int)) fa1 Zp9 rfl (IntWalk.u64_in _ (by omega)) ?_)
  refine Zac (ZpZ (k := .i64) (k' := .u64) (a := IntKind.i64.wrap (IntKind.u8.wrap ((BitVec.ofInt (IntKind.u8.bits) (b.toNat : Int) &&& BitVec.ofInt (IntKind.u8.bits) 127).toNat))) (b := ((7 * i : Nat) : Int)) rfl rfl (by omega) rfl ?_)
  refine Zac (Zrw (k := .i64) (a := (acc : Int)) (b := IntKind.i64.wrap ((IntKind.i64.wrap (IntKind.u8.wrap ((BitVec.ofInt (IntKind.u8.bits) (b.toNat : Int) &&& BitVec.ofInt (IntKind.u8.bits) 127).toNat))) * 2 ^ min ((7 * i : Nat) : Int).toNat (IntKind.i64.bits))) rfl rfl (ZmE b acc i (by omega) hacc _ (Int.toNat_natCast _)) ?_)
  refine Zag ?_
  refine Zaf (kp3 0 4 5 fun e he => ?_)
  repeat refine Zab ?_
  first|refine Zaa ?_|refine Zad ?_
  refine Zag ?_
  refine Zag ?_
  refine Zgi (i := i) (r := .raw (.int .u8 (b.toNat : Int))) (hv.ls (σ := σ)) hlt hbg rfl rfl Zbw Zcn (by kernel_rfl) fun u1 => ?_
  refine Zac (Zgh (k := .u8) (a := (b.toNat : Int)) (b := 128) rfl rfl ?_)
  refine Zaf (kp4 0 4 5 32 fun e he => ?_)
  generalize hn2 : acc + b.toNat % 128 * 2 ^ (7 * i) = n2 at he
  have hn2b : n2 < 2 ^ (7 * (i + 1)) := by
   rw [<- hn2, show 7 * (i + 1) = 7 * i + 7 by omega, Nat.pow_add]
   have : b.toNat % 128 * 2 ^ (7 * i) <= 127 * 2 ^ (7 * i) := Nat.mul_le_mul_right _ (by omega)
   omega
  have hgs : Zgv (m + 1) i acc (b :: l.drop (i + 1)) = if b.toNat < 128 then (if (0 < i /\ b.toNat = 0) \/ top < n2 then none else some (n2, l.drop (i + 1))) else Zgv m (i + 1) n2 (l.drop (i + 1)) := by
   rw [<- hn2]
   rfl
  rw [hgs] at hg
  refine ZaQ (t := decide ((b.toNat : Int) < 128)) he.2.2.2 (fun ht => ?_) (fun ht => ?_)
  ·have hb8 : b.toNat < 128 := by have := of_decide_eq_true ht; omega
   rw [if_pos hb8] at hg
   refine Zab (Zce (fun e' υ => (e' 4 = vI n2 /\ e' 5 = vI i /\ e' 49 = vT (decide ((0 < i /\ b.toNat = 0) \/ top < n2))) /\ σ = υ) ?_ ?_)
   ·refine Zad ?_
    refine Zag ?_
    refine Zac (Zb3 (k := .i64) (a := (i : Int)) (b := 0) rfl rfl ?_)
    refine Zag ?_
    by_cases hk0 : 0 < i /\ b.toNat = 0
    ·rw [decide_eq_true (by omega : (0 : Int) < (i : Int))]
     refine Zau ?_
     refine Zcb rfl he.1 ?_
     refine Zau ?_
     refine Zcb rfl he.2.2.1 ?_
     refine Zau ?_
     refine Zcp (i := i) (r := .raw (.int .u8 (b.toNat : Int))) (hv.ls (σ := σ)) hlt hbg rfl rfl Zbw Zcn (by kernel_rfl) fun q hq => ?_
     refine Zau ?_
     refine ZbV rfl hq ?_
     refine Zau ?_
     refine ZbQ (k := .u8) (a := (b.toNat : Int)) (b := 0) rfl rfl ?_
     refine Zac (Zaj (v := vT (decide ((b.toNat : Int) = 0))) rfl rfl ?_)
     refine Zag ?_
     rw [decide_eq_true (by omega : (b.toNat : Int) = 0)]
     refine Zal ?_
     refine Zal ?_
     refine Zac (Zaj (v := vT true) rfl rfl ?_)
     refine Zag ?_
     refine Zal ?_
     refine Zal ?_
     refine Zac (Zaj (v := vT true) rfl rfl ?_)
     refine Zaf ?_
     rw [show decide ((0 < i /\ b.toNat = 0) \/ top < n2) = true from decide_eq_true (.inl hk0)]
     exact ⟨rfl, ⟨by simp only [EV,Nat.reduceEqDiff,↓reduceIte,he];try rfl, by simp only [EV,Nat.reduceEqDiff,↓reduceIte,he];try rfl, by simp only [EV,Nat.reduceEqDiff,↓reduceIte,he];try rfl⟩, rfl⟩
    ·by_cases hi0 : 0 < i
     ·rw [decide_eq_true (by omega : (0 : Int) < (i : Int))]
      refine Zau ?_
      refine Zcb rfl he.1 ?_
      refine Zau ?_
      refine Zcb rfl he.2.2.1 ?_
      refine Zau ?_
      refine Zcp (i := i) (r := .raw (.int .u8 (b.toNat : Int))) (hv.ls (σ := σ)) hlt hbg rfl rfl Zbw Zcn (by kernel_rfl) fun q hq => ?_
      refine Zau ?_
      refine ZbV rfl hq ?_
      refine Zau ?_
      refine ZbQ (k := .u8) (a := (b.toNat : Int)) (b := 0) rfl rfl ?_
      refine Zac (Zaj (v := vT (decide ((b.toNat : Int) = 0))) rfl rfl ?_)
      rw [decide_eq_false (fun q => hk0 ⟨hi0, by omega⟩ : ¬ (b.toNat : Int) = 0)]
      refine Zag ?_
      refine Zau ?_
      refine Zcb rfl he.2.1 ?_
      refine Zau ?_
      refine Zb3 (k := .i64) (a := (n2 : Int)) (b := 4611686018427387903) rfl rfl ?_
      refine Zac (Zak (v := vT (decide ((4611686018427387903 : Int) < n2))) rfl rfl ?_)
      refine Zag ?_
      by_cases ht2 : top < n2
      ·have ht2' : (4611686018427387903 : Int) < n2 := by unfold top at ht2; omega
       rw [decide_eq_true ht2']
       refine Zal ?_
       refine Zal ?_
       refine Zac (Zaj (v := vT true) rfl rfl ?_)
       refine Zaf ?_
       rw [show decide ((0 < i /\ b.toNat = 0) \/ top < n2) = true from decide_eq_true (.inr ht2)]
       exact ⟨rfl, ⟨by simp only [EV,Nat.reduceEqDiff,↓reduceIte,he];try rfl, by simp only [EV,Nat.reduceEqDiff,↓reduceIte,he];try rfl, by simp only [EV,Nat.reduceEqDiff,↓reduceIte,he];try rfl⟩, rfl⟩
      ·have ht2' : ¬ (4611686018427387903 : Int) < n2 := by unfold top at ht2; omega
       rw [decide_eq_false ht2']
       refine Zau ?_
       refine Zcb rfl he.2.1 ?_
       refine Zau ?_
       refine Zgh (k := .i64) (a := (n2 : Int)) (b := 0) rfl rfl ?_
       refine Zac (Zak (v := vT (decide ((n2 : Int) < 0))) rfl rfl ?_)
       refine Zaf ?_
       rw [show decide ((0 < i /\ b.toNat = 0) \/ top < n2) = decide ((n2 : Int) < 0) from decide_eq_decide.2 ⟨fun q => (q.elim hk0 ht2).elim, fun q => by omega⟩]
       exact ⟨rfl, ⟨by simp only [EV,Nat.reduceEqDiff,↓reduceIte,he];try rfl, by simp only [EV,Nat.reduceEqDiff,↓reduceIte,he];try rfl, by simp only [EV,Nat.reduceEqDiff,↓reduceIte,he];try rfl⟩, rfl⟩
     ·rw [decide_eq_false (by omega : ¬ (0 : Int) < (i : Int))]
      refine Zal ?_
      refine Zal ?_
      refine Zal ?_
      refine Zal ?_
      refine Zal ?_
      refine Zac (Zak (v := vT false) rfl rfl ?_)
      refine Zag ?_
      refine Zau ?_
      refine Zcb rfl he.2.1 ?_
      refine Zau ?_
      refine Zb3 (k := .i64) (a := (n2 : Int)) (b := 4611686018427387903) rfl rfl ?_
      refine Zac (Zak (v := vT (decide ((4611686018427387903 : Int) < n2))) rfl rfl ?_)
      refine Zag ?_
      by_cases ht2 : top < n2
      ·have ht2' : (4611686018427387903 : Int) < n2 := by unfold top at ht2; omega
       rw [decide_eq_true ht2']
       refine Zal ?_
       refine Zal ?_
       refine Zac (Zaj (v := vT true) rfl rfl ?_)
       refine Zaf ?_
       rw [show decide ((0 < i /\ b.toNat = 0) \/ top < n2) = true from decide_eq_true (.inr ht2)]
       exact ⟨rfl, ⟨by simp only [EV,Nat.reduceEqDiff,↓reduceIte,he];try rfl, by simp only [EV,Nat.reduceEqDiff,↓reduceIte,he];try rfl, by simp only [EV,Nat.reduceEqDiff,↓reduceIte,he];try rfl⟩, rfl⟩
      ·have ht2' : ¬ (4611686018427387903 : Int) < n2 := by unfold top at ht2; omega
       rw [decide_eq_false ht2']
       refine Zau ?_
       refine Zcb rfl he.2.1 ?_
       refine Zau ?_
       refine Zgh (k := .i64) (a := (n2 : Int)) (b := 0) rfl rfl ?_
       refine Zac (Zak (v := vT (decide ((n2 : Int) < 0))) rfl rfl ?_)
       refine Zaf ?_
       rw [show decide ((0 < i /\ b.toNat = 0) \/ top < n2) = decide ((n2 : Int) < 0) from decide_eq_decide.2 ⟨fun q => (q.elim hk0 ht2).elim, fun q => by omega⟩]
       exact ⟨rfl, ⟨by simp only [EV,Nat.reduceEqDiff,↓reduceIte,he];try rfl, by simp only [EV,Nat.reduceEqDiff,↓reduceIte,he];try rfl, by simp only [EV,Nat.reduceEqDiff,↓reduceIte,he];try rfl⟩, rfl⟩
   clear he e
   rintro e _ ⟨he, rfl⟩
   refine ZaC (t := decide ((0 < i /\ b.toNat = 0) \/ top < n2)) he.2.2 (fun ht => ?_) (fun ht => ?_)
   ·rw [if_pos (of_decide_eq_true ht)] at hg
    have hgn : Zjv l = (0, 0) := by unfold Zjv; rw [<- hg]
    rw [hgn] at hK
    repeat refine Zab ?_
    first|refine Zaa ?_|refine Zad ?_
    refine Zag ?_
    refine Zag ?_
    refine Zaf (kp2 2 3 fun e he => ?_)
    refine ZbB ?_
    exact ⟨_, Zbd rfl (ZaO he.1) (ZaO he.2), hK⟩
   ·rw [if_neg (of_decide_eq_false ht)] at hg
    have hgn : Zjv l = (n2, i + 1) := by
     unfold Zjv
     rw [<- hg]
     dsimp only
     rw [List.length_drop]
     congr 1
     omega
    rw [hgn] at hK
    refine ZaL ?_
    repeat refine Zab ?_
    first|refine Zaa ?_|refine Zad ?_
    refine Zag ?_
    refine Zag ?_
    refine Zby i 1 ?_
    refine Zag ?_
    refine Zag ?_
    refine Zaf (kp2 2 3 fun e he => ?_)
    refine ZbB ?_
    exact ⟨_, Zbd rfl (ZaO he.1) (ZaO he.2), hK⟩
  ·have hb8 : ¬ b.toNat < 128 := by have := of_decide_eq_false ht; omega
   rw [if_neg hb8] at hg
   refine Zbm ?_
   show ZaA _ _ _ _ _ _
   refine Zad (Zag ?_)
   refine Zby i 1 ?_
   refine Zag ?_
   refine Zaf ?_
   show ∃ n', n' < _ /\ _
   refine ⟨_, (by omega : 9 - (i + 1) < 9 - i), rfl, i + 1, n2, rfl, by omega, by omega, ⟨by simp only [EV,Nat.reduceEqDiff,↓reduceIte,he];try rfl, by simp only [EV,Nat.reduceEqDiff,↓reduceIte,he];try rfl, by simp only [EV,Nat.reduceEqDiff,↓reduceIte,he];try rfl⟩, ?_, hn2b⟩
   rw [show 9 - (i + 1) = m by omega]
   exact hg
 ·have hend := of_decide_eq_false ht
  have hgn : Zjv l = (0, 0) := by
   have hn : Zgv 9 0 0 l = none := by
    rw [<- hg]
    by_cases h9 : i = 9
    ·subst h9
     rfl
    ·rw [List.drop_eq_nil_of_le (by omega)]
     obtain ⟨m, hm⟩ : ∃ m, 9 - i = m + 1 := ⟨9 - i - 1, by omega⟩
     rw [hm]
     rfl
   unfold Zjv
   rw [hn]
  rw [hgn] at hK
  refine Zbu ?_
  show ZaA _ _ _ _ _ _
  repeat refine Zab ?_
  first|refine Zaa ?_|refine Zad ?_
  refine Zag ?_
  refine Zag ?_
  refine Zaf (kp2 2 3 fun e he => ?_)
  refine Zap ?_
  exact ⟨_, Zbd rfl (ZaO he.1) (ZaO he.2), hK⟩
end
structure ZfJ (σ : St) (rb : Nat) (st : Option (List UInt8)) : Prop where
 ex : ∃ v, σ.blk rb = some (.own 54 [v, vT st.isNone]) /\ TB v (st.getD [])
 used : σ.used rb
theorem Zpf {P : Program} {ops : Array Oper} {env : Env} {σ : St} {K : Env -> St -> Prop} {dd : Option Nat} {ty t e : TypeId} {pos : String} {af : Array Edge} {x y : Operand} {v : AV} {d : List UInt8} {n : Nat} (hv : TB v d) (hx : ev env x = v) (hy : ev env y = vI n) (ht : ZaW P t = some e) (hs : ZaU P e = some 1) (hn : n <= d.length) (h : ∀ u, TB u (d.take n) -> K (env.put dd u) σ) : aOp P ops ⟨dd, .slice t x none (some y) none, ty, pos, af, none⟩ env σ K := by
 obtain ⟨A, c, rest, rfl, hL⟩ := hv
 have h1 := hL.le
 have h2 := hL.most
 have h3 := hL.small
 rw [ZaT rfl]
 have : (Op.slice t x none (some y) none).operands.toList.map (ev env) = [.lst A d.length c (bys d ++ rest), vI n] := by
  rw [<- hx, <- hy]
  simp [Op.operands]
 rw [this]
 refine ⟨e, 1, ht, hs, 0, n, c, ⟨rfl, ⟨.i64, rfl⟩, rfl⟩, Nat.zero_le _, by omega, Nat.le_refl _, h _ ?_⟩
 have hl : (d.take n).length = n := by rw [List.length_take]; omega
 by_cases h0 : c = 0
 ·have hd : d.take n = [] := List.eq_nil_of_length_eq_zero (by omega)
  rw [if_pos h0, if_pos h0, hd, show n - 0 = 0 by omega, show c - 0 = 0 by omega]
  exact ⟨A, 0, [], rfl, ⟨Nat.zero_le _, by unfold maxLen; omega, Nat.zero_le _, fun _ => ⟨rfl, rfl⟩⟩⟩
 ·rw [if_neg h0, if_neg h0, Nat.sub_zero, Nat.sub_zero, Nat.zero_mul, List.drop_zero]
  refine ⟨A.map (·.add 0), c, (bys d).drop n ++ rest, ?_, ⟨by omega, by omega, by omega, fun q => ?_⟩⟩
  ·rw [hl, Zim, <- List.append_assoc, List.take_append_drop]
  ·cases A with
   | none => have := (hL.none rfl).2; omega
   | some a => cases q
section
variable {σ τ : St} {rb : Nat} {st : Option (List UInt8)} {K : AV -> St -> Prop}
theorem ZfJ.ext (h : ZfJ σ rb st) (k : Ext σ τ) : ZfJ τ rb st := by
 obtain ⟨v, h1, h2⟩ := h.ex
 exact ⟨⟨v, k.keep _ _ h1, h2⟩, k.used _ h.used⟩
theorem ZfJ.but {U : Nat -> Prop} (h : ZfJ σ rb st) (k : But U σ τ) (hU : ¬ U rb) : ZfJ τ rb st := by
 obtain ⟨v, h1, h2⟩ := h.ex
 exact ⟨⟨v, k.keep _ _ hU h1, h2⟩, k.used _ h.used⟩
theorem ZkF (h : ZfJ σ rb st) (hK : ∀ τ, ZfJ τ rb none -> But (fun c => c = rb) σ τ -> K (.tup []) τ) : Zan Tryz.prog 117 [ptr rb 0] σ K := by
 obtain ⟨v, h1, h2⟩ := h.ex
 refine Zai Zam Tryz.func117 rfl rfl rfl (Nat.le_of_ble_eq_true rfl) ?_
 refine Zbf 0 (v0 := ptr rb 0) rfl ?_
 intro e he
 repeat refine Zab ?_
 first|refine Zaa ?_|refine Zad ?_
 refine Zag ?_
 refine ZdP (b := rb) rfl Zju rfl fun u1 => ?_
 refine Zac (ZaI (b := rb) (o := 0 + 1) (v := vT true) rfl rfl h1 Zhu ⟨rfl, rfl, rfl⟩ (by simp) fun τ hb k => ?_)
 refine Zaf (kp1 0 fun e he => ?_)
 refine Zad (Zag ?_)
 refine ZdP (b := rb) rfl Zju rfl fun u1 => ?_
 refine Zac (ZaI (b := rb) (o := 0 + 0) (v := .lst none 0 0 []) rfl rfl hb Zb6 ⟨rfl, rfl, rfl⟩ (by simp) fun τ2 hb2 k2 => ?_)
 refine Zaf ?_
 exact ⟨_, Zcu rfl, hK τ2 ⟨⟨_, hb2, ZdQ⟩, k2.used _ (k.used _ h.used)⟩ (k.trans k2)⟩
theorem ZmW {most : Nat} {l : List UInt8} : Zbr most (some l) = if (Zjv l).2 = 0 \/ most < (Zjv l).1 then (0, none) else ((Zjv l).1, some (l.drop (Zjv l).2)) := by
 unfold Zbr Zjv
 rw [Option.bind_some, ZqP]
 cases hg : Zgv 9 0 0 l with
 | none => rfl
 | some p =>
  obtain ⟨n, r⟩ := p
  obtain ⟨g1, g2, m, g3, g4⟩ := ZeF 9 0 0 l hg
  dsimp only
  rw [Option.bind_some]
  have hrl : r.length = l.length - m := by rw [g3, List.length_drop]
  by_cases h : most < n
  ·rw [if_pos h, if_pos (.inr h)]
  ·rw [if_neg h, if_neg (by omega), show l.length - r.length = m by omega, <- g3]
theorem Zqb {l : List UInt8} : (Zjv l).2 <= l.length := by
 unfold Zjv
 split
 ·exact Nat.zero_le _
 ·exact Nat.sub_le _ _
theorem ZcI {most : Nat} (h : ZfJ σ rb st) (hK : ∀ τ, ZfJ τ rb (Zbr most st).2 -> But (fun c => c = rb) σ τ -> K (vI (Zbr most st).1) τ) : Zan Tryz.prog 71 [ptr rb 0, vI most] σ K := by
 obtain ⟨v, h1, h2⟩ := h.ex
 refine Zai Zam Tryz.func71 rfl rfl rfl (Nat.le_of_ble_eq_true rfl) ?_
 refine ZbL 0 1 (v0 := ptr rb 0) (v1 := vI most) rfl rfl ?_
 intro e he
 repeat refine Zab ?_
 first|refine Zaa ?_|refine Zad ?_
 refine Zag ?_
 refine Zaf (kp2 0 1 fun e he => ?_)
 repeat refine Zab ?_
 first|refine Zaa ?_|refine Zad ?_
 refine Zem (b := rb) (r := vT st.isNone) he.1 Zju rfl h1 rfl ZiQ Zhu fun u1 u2 u3 => ?_
 refine Zaf (kp3 0 1 10 fun e he => ?_)
 refine ZaC (t := st.isNone) he.2.2 (fun ht => ?_) (fun ht => ?_)
 ·cases st with
  | some l => cases ht
  | none =>
   repeat refine Zab ?_
   first|refine Zaa ?_|refine Zad ?_
   refine Zag ?_
   refine Zaf (kp1 4 ?_)
   clear he e
   intro e he
   refine ZbB ?_
   exact ZaD (hK σ h (.refl _ _))
 obtain ⟨l, rfl⟩ : ∃ l, st = some l := by
  cases st with
  | none => cases ht
  | some l => exact ⟨l, rfl⟩
 have h2 : TB v l := h2
 refine ZaL ?_
 repeat refine Zab ?_
 first|refine Zaa ?_|refine Zad ?_
 refine Zem (b := rb) (r := v) he.1 Zju rfl h1 rfl fa5 Zb6 fun u1 u2 u3 => ?_
 refine Zao [v] ?_
 refine Zqa h2 ?_
 have hS := ZmW (most := most) (l := l)
 have hle := Zqb (l := l)
 generalize Zjv l = g at *
 refine Zag ?_
 refine Zac (Zaw (l := [vI g.1, vI g.2]) rfl rfl ?_)
 refine Zac (Zaw (l := [vI g.1, vI g.2]) rfl rfl ?_)
 refine Zag ?_
 refine Zag ?_
 refine Zaf (kp4 0 1 5 6 fun e he => ?_)
 refine Zab (Zce (fun e' υ => (e' 0 = ptr rb 0 /\ e' 5 = vI g.1 /\ e' 6 = vI g.2 /\ e' 25 = vT (decide (g.2 = 0 \/ most < g.1))) /\ σ = υ) ?_ ?_)
 ·refine Zad ?_
  refine Zag ?_
  refine Zac (ZbQ (k := .i64) (a := (g.2 : Int)) (b := 0) rfl rfl ?_)
  refine Zag ?_
  by_cases h0 : g.2 = 0
  ·rw [decide_eq_true (by omega : (g.2 : Int) = 0)]
   refine Zal ?_
   refine Zal ?_
   refine Zal ?_
   refine Zac (Zaj (v := vT true) rfl rfl ?_)
   refine Zaf ?_
   rw [show decide (g.2 = 0 \/ most < g.1) = true from decide_eq_true (.inl h0)]
   exact ⟨rfl, ⟨by simp only [EV,Nat.reduceEqDiff,↓reduceIte,he];try rfl, by simp only [EV,Nat.reduceEqDiff,↓reduceIte,he];try rfl, by simp only [EV,Nat.reduceEqDiff,↓reduceIte,he];try rfl, by simp only [EV,Nat.reduceEqDiff,↓reduceIte,he];try rfl⟩, rfl⟩
  ·rw [decide_eq_false (by omega : ¬ (g.2 : Int) = 0)]
   refine Zau ?_
   refine Zcb rfl he.2.2.1 ?_
   refine Zau ?_
   refine Zcb rfl he.2.1 ?_
   refine Zau ?_
   refine Zb3 (k := .i64) (a := (g.1 : Int)) (b := (most : Int)) rfl rfl ?_
   refine Zac (Zak (v := vT (decide ((most : Int) < g.1))) rfl rfl ?_)
   refine Zaf ?_
   rw [show decide (g.2 = 0 \/ most < g.1) = decide ((most : Int) < g.1) from decide_eq_decide.2 ⟨fun q => by omega, fun q => by omega⟩]
   exact ⟨rfl, ⟨by simp only [EV,Nat.reduceEqDiff,↓reduceIte,he];try rfl, by simp only [EV,Nat.reduceEqDiff,↓reduceIte,he];try rfl, by simp only [EV,Nat.reduceEqDiff,↓reduceIte,he];try rfl, by simp only [EV,Nat.reduceEqDiff,↓reduceIte,he];try rfl⟩, rfl⟩
 clear he e
 rintro e _ ⟨he, rfl⟩
 refine ZaC (t := decide (g.2 = 0 \/ most < g.1)) he.2.2.2 (fun ht => ?_) (fun ht => ?_)
 ·rw [if_pos (of_decide_eq_true ht)] at hS
  rw [hS] at hK
  repeat refine Zab ?_
  first|refine Zaa ?_|refine Zad ?_
  refine Zag ?_
  refine Zao [ptr rb 0] ?_
  refine ZkF h fun τ hR k => ?_
  refine Zaf ?_
  repeat refine Zab ?_
  first|refine Zaa ?_|refine Zad ?_
  refine Zag ?_
  refine Zaf (kp1 4 fun e he => ?_)
  refine ZbB ?_
  exact ZaD (hK τ hR k)
 ·rw [if_neg (of_decide_eq_false ht)] at hS
  rw [hS] at hK
  refine ZaL ?_
  repeat refine Zab ?_
  first|refine Zaa ?_|refine Zad ?_
  refine Zag ?_
  refine Zem (b := rb) (r := v) he.1 Zju rfl h1 rfl fa5 Zb6 fun u1 u2 u3 => ?_
  refine Zag ?_
  refine Zac (Zgw h2 rfl rfl Zbw Zcn hle fun r hr => ?_)
  refine ZdP (b := rb) rfl Zju rfl fun u1 => ?_
  refine Zac (ZaI (b := rb) (o := 0 + 0) (v := r) rfl rfl h1 Zb6 hr.one (by simp) fun τ hb k => ?_)
  refine Zaf (kp1 5 fun e he => ?_)
  repeat refine Zab ?_
  first|refine Zaa ?_|refine Zad ?_
  refine Zag ?_
  refine Zag ?_
  refine Zaf (kp1 4 fun e he => ?_)
  refine Zap ?_
  exact ZaD (hK τ ⟨⟨r, hb, hr⟩, k.used _ h.used⟩ k)
theorem Zqc {most : Nat} (h : ZfJ σ rb st) (hlen : (st.getD []).length <= 1000000000) (hK : ∀ a τ, TB a (Ze9 most st).1 -> ZfJ τ rb (Ze9 most st).2 -> But (fun c => c = rb) σ τ -> K a τ) : Zan Tryz.prog 72 [ptr rb 0, vI most] σ K := by
 refine Zan.tell ?_
 refine Zai Zam Tryz.func72 rfl rfl rfl (Nat.le_of_ble_eq_true rfl) ?_
 refine ZbL 0 1 (v0 := ptr rb 0) (v1 := vI most) rfl rfl ?_
 intro e he
 have out : ∀ a τ, TB a (Ze9 most st).1 -> ZfJ τ rb (Ze9 most st).2 -> But (fun c => c = rb) σ τ -> ∃ G r', Zc0 G τ a r' /\ K r' (Zdq G τ) := fun a τ q1 q2 q3 => ⟨fun _ => False, a, .refl _, hK a _ q1 (by
  obtain ⟨v, p1, p2⟩ := q2.ex
  exact ⟨⟨v, by rw [Zbb (fun q => q)]; exact p1, p2⟩, q2.used⟩) ⟨fun c x hc hx => by rw [Zbb (fun q => q)]; exact q3.keep _ _ hc hx, fun c hc => q3.used _ hc⟩⟩
 repeat refine Zab ?_
 first|refine Zaa ?_|refine Zad ?_
 refine Zag ?_
 refine Zaf (kp2 0 1 fun e he => ?_)
 repeat refine Zab ?_
 first|refine Zaa ?_|refine Zad ?_
 refine Zag ?_
 refine Zag ?_
 refine Zao [ptr rb 0, vI most] ?_
 refine ZcI h fun τ hR k => ?_
 generalize hq : Zbr most st = q at hR
 obtain ⟨n, st2⟩ := q
 have hR : ZfJ τ rb st2 := hR
 refine Zag ?_
 refine Zaf (kp2 0 5 fun e he => ?_)
 obtain ⟨v, h1, h2⟩ := hR.ex
 repeat refine Zab ?_
 first|refine Zaa ?_|refine Zad ?_
 refine Zem (b := rb) (r := vT st2.isNone) he.1 Zju rfl h1 rfl ZiQ Zhu fun u1 u2 u3 => ?_
 refine Zaf (kp3 0 5 13 fun e he => ?_)
 refine ZaC (t := st2.isNone) he.2.2 (fun ht => ?_) (fun ht => ?_)
 ·cases st2 with
  | some l => cases ht
  | none =>
   have hr : Ze9 most st = ([], none) := by unfold Ze9; rw [hq]
   rw [hr] at out
   repeat refine Zab ?_
   first|refine Zaa ?_|refine Zad ?_
   refine Zag ?_
   refine Zaf (kp1 4 ?_)
   clear he e
   intro e he
   refine ZbB ?_
   exact ZaD (out _ τ ZdQ hR k)
 obtain ⟨l, rfl⟩ : ∃ l, st2 = some l := by
  cases st2 with
  | none => cases ht
  | some l => exact ⟨l, rfl⟩
 have h2 : TB v l := h2
 have hr : Ze9 most st = if l.length < n then ([], none) else (l.take n, some (l.drop n)) := by unfold Ze9; rw [hq]
 have hsm := h2.small
 refine ZaL (Zab ?_)
 repeat refine Zab ?_
 first|refine Zaa ?_|refine Zad ?_
 refine Zag ?_
 refine Zem (b := rb) (r := v) he.1 Zju rfl h1 rfl fa5 Zb6 fun u1 u2 u3 => ?_
 refine Zac (ZaP (σ := τ) rfl h2.ls rfl Zbw ?_)
 refine Zac (Zb3 (k := .i64) (a := (n : Int)) (b := (l.length : Int)) rfl rfl ?_)
 refine Zaf (kp3 0 5 20 fun e he => ?_)
 refine ZaC (t := decide ((l.length : Int) < n)) he.2.2 (fun ht => ?_) (fun ht => ?_)
 ·have hlt := of_decide_eq_true ht
  rw [if_pos (by omega)] at hr
  rw [hr] at out
  repeat refine Zab ?_
  first|refine Zaa ?_|refine Zad ?_
  refine Zag ?_
  refine Zao [ptr rb 0] ?_
  refine ZkF hR fun τ2 hR2 k2 => ?_
  refine Zaf ?_
  repeat refine Zab ?_
  first|refine Zaa ?_|refine Zad ?_
  refine Zag ?_
  refine Zaf (kp1 4 fun e he => ?_)
  refine ZbB ?_
  exact ZaD (out _ τ2 ZdQ hR2 (k.trans k2))
 have hle := of_decide_eq_false ht
 have hn : n <= l.length := by omega
 rw [if_neg (by omega)] at hr
 rw [hr] at hK
 have htl : (l.take n).length = n := by rw [List.length_take]; omega
 refine ZaL ?_
 repeat refine Zab ?_
 first|refine Zaa ?_|refine Zad ?_
 refine Zn0 Zbw Zcn ZeO rfl fun ad υ1 hX1 => ?_
 have hb1 := hX1.keep _ _ h1
 refine Zem (b := rb) (r := v) (by simp only [EV,Nat.reduceEqDiff,↓reduceIte,he];try rfl) Zju rfl hb1 rfl fa5 Zb6 fun u1 u2 u3 => ?_
 refine Zag ?_
 refine Zac (Zpf h2 (by simp only [EV,Nat.reduceEqDiff,↓reduceIte,he];try rfl) (by simp only [EV,Nat.reduceEqDiff,↓reduceIte,he];try rfl) Zbw Zcn hn fun u hu => ?_)
 refine Zac (ZaZ (m := (l.take n).length) (news := bys (l.take n)) (by simp only [EV,Nat.reduceEqDiff,↓reduceIte,he];try rfl) (by simp only [EV,Nat.reduceEqDiff,↓reduceIte,he];try rfl) Zbw Zcn ZeO ZgQ rfl (by omega) (Zrk ad) (hu.ls (σ := υ1)).src (by unfold maxLen; omega) (by omega) fun v2 υ2 hv2 hB2 hn2 => ?_)
 rw [Nat.zero_add, List.nil_append] at hv2
 have hE2 : Ext τ υ2 := But.ext hX1 (fun c hc => by cases hc) hB2
 have hnw : ∀ b, hbk v2 = some b -> Za9 τ b := fun b hb => (hn2 b hb).elim (fun q => by cases q) fun q => Za9.of q hX1
 refine Zag ?_
 refine Zaf (kp3 0 5 6 fun e he => ?_)
 have hb2 := hE2.keep _ _ h1
 repeat refine Zab ?_
 first|refine Zaa ?_|refine Zad ?_
 refine Zag ?_
 refine Zem (b := rb) (r := v) he.1 Zju rfl hb2 rfl fa5 Zb6 fun u1 u2 u3 => ?_
 refine Zag ?_
 refine Zac (Zgw h2 rfl rfl Zbw Zcn hn fun r hr2 => ?_)
 refine ZdP (b := rb) rfl Zju rfl fun u1 => ?_
 refine Zac (ZaI (b := rb) (o := 0 + 0) (v := r) rfl rfl hb2 Zb6 hr2.one (by simp) fun υ3 hb3 k3 => ?_)
 refine Zaf (kp1 6 fun e he => ?_)
 repeat refine Zab ?_
 first|refine Zaa ?_|refine Zad ?_
 refine Zag ?_
 refine Zag ?_
 refine Zaf (kp1 4 fun e he => ?_)
 refine Zap ?_
 have hrbn : ∀ b, hbk v2 = some b -> b ≠ rb := fun b hb q => (hnw b hb).2 (q ▸ hR.used)
 obtain ⟨A, c, q1, q2, q3, q4⟩ := (hv2.but k3 fun b hb q => hrbn b hb q).lends (G := fun b => hbk v2 = some b) (fun b hb => hb) (.refl (bys (l.take n)))
 have hB3 : But (fun c => c = rb) σ υ3 := (k.trans hE2.but).trans k3
 refine ⟨_, Ze1 rfl he, fun b => hbk v2 = some b, _, q1, hK _ _ ⟨A, c, [], by rw [List.append_nil], ⟨q2, q3, by show (l.take n).length <= _; omega, q4⟩⟩ ⟨⟨r, by rw [Zbb fun q => hrbn rb q rfl]; exact hb3, hr2⟩, k3.used _ (hE2.used _ hR.used)⟩ ⟨fun c x hc hx => ?_, fun c hc => hB3.used _ hc⟩⟩
 rw [Zbb fun q => ?_]
 ·exact hB3.keep _ _ hc hx
 ·have h7 := k.keep _ _ hc hx
  rw [(hnw c q).1] at h7
  cases h7
end
theorem Zdz : Za3 Tryz.prog 189 = some [(0, some 1, some false)] := by kernel_rfl
section
variable {σ : St} {K : AV -> St -> Prop}
theorem Zqd {P : Program} {ops : Array Oper} {env : Env} {σ : St} {K : Env -> St -> Prop} {dd : Option Nat} {ty t e : TypeId} {pos : String} {af : Array Edge} {x y z : Operand} {v : AV} {d : List UInt8} {l r : Nat} (hv : TB v d) (hx : ev env x = v) (hy : ev env y = vI l) (hz : ev env z = vI r) (ht : ZaW P t = some e) (hs : ZaU P e = some 1) (hlr : l <= r) (hr : r <= d.length) (h : ∀ u, TB u ((d.drop l).take (r - l)) -> K (env.put dd u) σ) : aOp P ops ⟨dd, .slice t x (some y) (some z) none, ty, pos, af, none⟩ env σ K := by
 obtain ⟨A, c, rest, rfl, hL⟩ := hv
 have h1 := hL.le
 have h2 := hL.most
 have h3 := hL.small
 rw [ZaT rfl]
 have : (Op.slice t x (some y) (some z) none).operands.toList.map (ev env) = [.lst A d.length c (bys d ++ rest), vI l, vI r] := by
  rw [<- hx, <- hy, <- hz]
  simp [Op.operands]
 rw [this]
 refine ⟨e, 1, ht, hs, l, r, c, ⟨⟨.i64, rfl⟩, ⟨.i64, rfl⟩, rfl⟩, hlr, by omega, Nat.le_refl _, h _ ?_⟩
 have hl : ((d.drop l).take (r - l)).length = r - l := by rw [List.length_take, List.length_drop]; omega
 by_cases h0 : c = l
 ·have hd : (d.drop l).take (r - l) = [] := List.eq_nil_of_length_eq_zero (by omega)
  rw [if_pos h0, if_pos h0, hd, show r - l = 0 by omega, show c - l = 0 by omega]
  exact ⟨A, 0, [], rfl, ⟨Nat.zero_le _, by unfold maxLen; omega, Nat.zero_le _, fun _ => ⟨rfl, rfl⟩⟩⟩
 ·rw [if_neg h0, if_neg h0, Nat.mul_one]
  refine ⟨A.map (·.add l), c - l, (bys (d.drop l)).drop (r - l) ++ rest, ?_, ⟨by omega, by omega, by omega, fun q => ?_⟩⟩
  ·rw [hl, Zim, <- List.append_assoc, List.take_append_drop, ZkB, List.drop_append_of_le_length (by rw [Zb1]; omega)]
  ·cases A with
   | none => have := (hL.none rfl).2; omega
   | some a => cases q
theorem Zsw (b : UInt8) (k : Nat) (hk : k < 4) (s : Int) (hs : s.toNat = 8 * k) : IntKind.u32.wrap ((b.toNat : Int) * 2 ^ min s.toNat IntKind.u32.bits) = ((b.toNat * 256 ^ k : Nat) : Int) := by
 have hb := b.toNat_lt
 have hp : (256 : Nat) ^ k = 2 ^ (8 * k) := by rw [show (256 : Nat) = 2 ^ 8 from rfl, <- Nat.pow_mul]
 have hk3 : (256 : Nat) ^ k <= 256 ^ 3 := Nat.pow_le_pow_right (by omega) (by omega)
 have hm : b.toNat * 256 ^ k <= 255 * 256 ^ 3 := Nat.mul_le_mul (by omega) hk3
 rw [show IntKind.u32.bits = 32 from rfl, hs, Nat.min_eq_left (by omega), show ((2 : Int) ^ (8 * k)) = ((256 ^ k : Nat) : Int) from by rw [hp]; simp, <- Int.natCast_mul]
 exact Zol (by omega)
theorem Zte (x : Nat) (b : UInt8) (k : Nat) (hk : k < 4) (hx : x < 256 ^ k) : IntKind.u32.wrap (BitVec.ofInt IntKind.u32.bits (x : Int) ||| BitVec.ofInt IntKind.u32.bits ((b.toNat * 256 ^ k : Nat) : Int)).toNat = ((x + b.toNat * 256 ^ k : Nat) : Int) := by
 have hb := b.toNat_lt
 have hp : (256 : Nat) ^ k = 2 ^ (8 * k) := by rw [show (256 : Nat) = 2 ^ 8 from rfl, <- Nat.pow_mul]
 have hk3 : (256 : Nat) ^ k <= 256 ^ 3 := Nat.pow_le_pow_right (by omega) (by omega)
 have hm : b.toNat * 256 ^ k <= 255 * 256 ^ 3 := Nat.mul_le_mul (by omega) hk3
 generalize hq : b.toNat * 256 ^ k = q at hm
 rw [show IntKind.u32.bits = 32 from rfl, ZcM, ZcM, BitVec.toNat_or, BitVec.toNat_ofNat, BitVec.toNat_ofNat, Nat.mod_eq_of_lt (show x < 2 ^ 32 by omega), Nat.mod_eq_of_lt (show q < 2 ^ 32 by omega)]
 have hor : x ||| q = x + q := by
  rw [<- hq, Nat.mul_comm, Nat.or_comm, Nat.add_comm, hp]
  exact (Nat.two_pow_add_eq_or_of_lt (by rw [<- hp]; exact hx) _).symm
 rw [hor]
 exact Zol (by omega)
theorem ZhR {bb : Nat} {v : AV} {b : List UInt8} {at_ : Int} {k0 : Nat} (hv : TB v b) (hb : σ.blk bb = some (.own 191 [v, vI at_])) (hu : σ.used bb) (hk0 : k0 + 4 <= b.length) (hK : K (.raw (.int .u32 (num b k0 : Int))) σ) : Zan Tryz.prog 162 [ptr bb 0, vI ((k0 : Nat) : Int)] σ K := by
 have hsm := hv.small
 refine Zai Zam Tryz.func162 rfl rfl rfl (Nat.le_of_ble_eq_true rfl) ?_
 refine ZbL 0 1 (v0 := ptr bb 0) (v1 := vI ((k0 : Nat) : Int)) rfl rfl ?_
 intro e he
 refine Zaa (Zag ?_)
 refine Zaf (kp2 0 1 fun e he => ?_)
 refine Zaa (Zag ?_)
 refine Zaf (kp3 0 1 5 fun e he => ?_)
 refine Zab (Zaa (Zag ?_))
 refine Zaf (kp4 0 1 5 7 fun e he => ?_)
 refine ZaF (Za4 (fun μ env υ => ∃ (k : Nat), μ = 4 - k /\ (env 0 = ptr bb 0 /\ env 1 = vI ((k0 : Nat) : Int) /\ env 5 = .raw (.int .u32 ((Zls (b.drop k0) k : Nat) : Int)) /\ env 7 = vI ((k : Nat) : Int)) /\ k <= 4 /\ σ = υ) ⟨_, 0, rfl, ⟨by simp only [EV,Nat.reduceEqDiff,↓reduceIte,he];try rfl, by simp only [EV,Nat.reduceEqDiff,↓reduceIte,he];try rfl, by simp only [EV,Nat.reduceEqDiff,↓reduceIte,he];try rfl, by simp only [EV,Nat.reduceEqDiff,↓reduceIte,he];try rfl⟩, Nat.zero_le _, rfl⟩ ?_)
 clear he e
 rintro _ e _ ⟨k, rfl, he, hk, rfl⟩
 refine Zaa (Zcf k 4 ?_)
 refine Zaf (kp5 0 1 5 7 8 fun e he => ?_)
 refine ZaC (t := decide (k < 4)) he.2.2.2.2 (fun ht8 => ?_) (fun ht8 => ?_)
 ·have ht8 := of_decide_eq_true ht8
  refine ZaL (ZaF (Zaa (Zag ?_)))
  refine Zag ?_
  refine Zaf (kp5 0 1 5 6 7 fun e he => ?_)
  refine Zad (Zag ?_)
  refine Zem (b := bb) (r := v) he.1 Zdz rfl hb rfl fa5 Zb6 fun u1 u2 u3 => ?_
  refine Zag ?_
  refine Zag ?_
  refine Zby k0 k ?_
  have hi18 : k0 + k < b.length := by omega
  refine Zgi (i := k0 + k) (r := .raw (.int .u8 ((b[k0 + k]'hi18).toNat : Int))) hv.ls hi18 (Ze4 hi18) rfl rfl Zbw Zcn Znz fun u1 => ?_
  refine Zac ?_
  have hbyte := (b[k0 + k]'hi18).toNat_lt
  refine ZbF (k := .u8) (a := ((b[k0 + k]'hi18).toNat : Int)) (r := ((b[k0 + k]'hi18).toNat : Int)) Zfw Zha rfl (Zol (by omega)) ?_
  refine Zag ?_
  refine Zac (ZnF (k := .i64) (a := 8) (b := ((k : Nat) : Int)) (r := ((8 * k : Nat) : Int)) rfl rfl (by rw [IntWalk.i64_in _ (by omega)]; omega) ?_)
  refine Zac (ZpZ (k := .u32) (k' := .i64) (a := ((b[k0 + k]'hi18).toNat : Int)) (b := ((8 * k : Nat) : Int)) rfl rfl (by omega) (Zsw _ k ht8 _ (Int.toNat_natCast _)) ?_)
  refine Zac (Zrw (k := .u32) (a := ((Zls (b.drop k0) k : Nat) : Int)) (b := (((b[k0 + k]'hi18).toNat * 256 ^ k : Nat) : Int)) rfl rfl (Zte _ _ k ht8 (ZmL _ _)) ?_)
  rw [show Zls (b.drop k0) k + (b[k0 + k]'hi18).toNat * 256 ^ k = Zls (b.drop k0) (k + 1) by
   rw [Zls, List.getD_eq_getElem?_getD, List.getElem?_drop, List.getElem?_eq_getElem hi18]
   rfl]
  refine Zag ?_
  refine Zaf ?_
  show ZaA _ _ _ _ _ _
  refine kp4 0 1 5 7 ?_
  clear he e
  intro e he
  refine Zad (Zby k 1 ?_)
  refine Zag ?_
  refine Zaf ?_
  show ∃ n', n' < _ /\ _
  refine ⟨_, (by omega : _ < _), k + 1, rfl, ⟨by simp only [EV,Nat.reduceEqDiff,↓reduceIte,he];try rfl, by simp only [EV,Nat.reduceEqDiff,↓reduceIte,he];try rfl, by simp only [EV,Nat.reduceEqDiff,↓reduceIte,he];try rfl, by simp only [EV,Nat.reduceEqDiff,↓reduceIte,he];try rfl⟩, (by omega), rfl⟩
 have ht8 := of_decide_eq_false ht8
 obtain rfl : k = 4 := by omega
 refine Zbu ?_
 show ZaA _ _ _ _ _ _
 refine Zaa (Zag ?_)
 refine Zag ?_
 refine Zaf (kp1 4 fun e he => ?_)
 refine Zap ?_
 exact ZaD (hK)
set_option maxHeartbeats 1000000 in
theorem Zqe {bb at0 : Nat} {v : AV} {b : List UInt8} (hv : TB v b) (hbl : b.length <= 1000000000) (hat : at0 <= 1000000000) (hb : σ.blk bb = some (.own 191 [v, vI (at0 : Int)])) (hu : σ.used bb) (h0 : Zb8 b = none -> ∀ τ, Ext σ τ -> K (.tup [.agg [vI 0, .lst none 0 0 []], vT false]) τ) (h1 : ∀ f, Zb8 b = some f -> ∀ τ u w, TB u f.2 -> TB w (b.drop (9 + f.2.length)) -> But (fun x => x = bb) σ τ -> τ.blk bb = some (.own 191 [w, vI ((at0 + 9 + f.2.length : Nat) : Int)]) -> K (.tup [.agg [vI f.1, u], vT true]) τ) : Zan Tryz.prog 122 [ptr bb 0] σ K := by
 refine Zai Zam Tryz.func122 rfl rfl rfl (Nat.le_of_ble_eq_true rfl) ?_
 refine Zbf 0 (v0 := ptr bb 0) rfl ?_
 intro e he
 refine Zaa (Zac (ZaH ZiC rfl fun b2 υ3 hn4 hu5 hb6 hv7 hX8 => ?_))
 have ne9 := Zat hb hn4
 have hb := hX8.keep _ _ hb
 have hu := hX8.used _ hu
 refine Zag ?_
 refine Zaf (kp2 0 2 fun e he => ?_)
 refine Zab (Zaa (Zge (b := bb) (r := v) he.1 ZlJ rfl Zdz rfl hb rfl fa5 Zb6 fun u1 u2 u3 u4 => ?_))
 refine Zac (ZaP (σ := υ3) rfl hv.ls rfl Zbw ?_)
 refine Zcf b.length 9 ?_
 refine Zaf (kp3 0 2 12 fun e he => ?_)
 refine ZaC (t := decide (b.length < 9)) he.2.2 (fun ht12 => ?_) (fun ht12 => ?_)
 ·have ht12 := of_decide_eq_true ht12
  refine Zab (Zaa (Zac (Zbj (vs := []) (cells := [vI 0, .lst none 0 0 []]) (by simp only [List.map_cons, List.map_nil, EV,Nat.reduceEqDiff,↓reduceIte,he];try rfl) ZiC ZpA rfl ?_)))
  refine Zac (ZaB (b := b2) (o := 0) (u := .agg [vI 0, .lst none 0 0 []]) he.2.1 rfl hb6 Ze2 rfl rfl fun υ10 hb6 k11 => ?_)
  have hb := k11.keep _ _ (Ne.symm ne9) hb
  have hu := k11.used _ hu
  refine Zag ?_
  refine Zaf (kp2 2 3 fun e he => ?_)
  refine ZbB ?_
  show ∃ r, ZaM _ _ _ _ r /\ _
  exact ⟨_, Zbd rfl (ZaJ he.1 hb6 fa3 Ze2 rfl) (ZaO he.2), h0 (by unfold Zb8; rw [if_pos (by omega)]) _ (But.ext hX8 (fun g hg => by rw [hg]; exact hn4) k11)⟩
 have ht12 := of_decide_eq_false ht12
 refine ZaL (Zaa (Zag ?_))
 refine ZdP (b := bb) rfl ZlJ rfl fun u1 => ?_
 refine Zao [ptr bb (0 + 0), vI 0] ?_
 refine ZhR (k0 := 0) hv hb hu (by omega) ?_
 refine Zac ?_
 have hn0 := Zrz b 0
 refine ZbF (k := .u32) (a := ((num b 0 : Nat) : Int)) (r := ((num b 0 : Nat) : Int)) Zha fa1 rfl (IntWalk.i64_in _ (by omega)) ?_
 refine Zag ?_
 refine Zaf (kp3 0 2 4 fun e he => ?_)
 refine Zab (Zaa (Zag ?_))
 refine Zac (Zb3 (k := .i64) (a := ((num b 0 : Nat) : Int)) (b := 262144) rfl rfl ?_)
 refine Zag ?_
 cases hg12 : decide ((262144 : Int) < ((num b 0 : Nat) : Int)) with
 | false =>
  have hg12 := of_decide_eq_false hg12
  refine Zau ?_
  refine Zcb rfl he.2.2 ?_
  refine Zau ?_
  refine Zcb rfl he.1 ?_
  refine Zau ?_
  refine Zav (v := ptr bb 0) rfl rfl ?_
  refine Zau ?_
  refine Zae (b := bb) (o := 0) rfl ZlJ rfl ?_
  refine Zau ?_
  refine Zae (b := bb) (o := 0 + 0) rfl Zdz rfl ?_
  refine Zau ?_
  refine Zah (b := bb) (o := 0 + 0 + 0) (r := v) rfl hb fa5 Zb6 rfl ?_
  refine Zau ?_
  refine ZaP (σ := υ3) rfl hv.ls rfl Zbw ?_
  refine Zau ?_
  refine ZcW ((b.length : Nat) : Int) 9 rfl rfl (by omega) (by omega) ?_
  refine Zau ?_
  refine Zb3 (k := .i64) (a := ((num b 0 : Nat) : Int)) (b := ((b.length : Nat) : Int) - 9) rfl rfl ?_
  refine Zac (Zak (v := vT (decide ((((b.length : Nat) : Int) - 9 : Int) < ((num b 0 : Nat) : Int)))) rfl rfl ?_)
  refine Zaf (kp4 0 2 4 31 fun e he => ?_)
  refine ZaC (t := decide ((((b.length : Nat) : Int) - 9 : Int) < ((num b 0 : Nat) : Int))) he.2.2.2 (fun ht31 => ?_) (fun ht31 => ?_)
  ·have ht31 := of_decide_eq_true ht31
   refine Zab (Zaa (Zac (Zbj (vs := []) (cells := [vI 0, .lst none 0 0 []]) (by simp only [List.map_cons, List.map_nil, EV,Nat.reduceEqDiff,↓reduceIte,he];try rfl) ZiC ZpA rfl ?_)))
   refine Zac (ZaB (b := b2) (o := 0) (u := .agg [vI 0, .lst none 0 0 []]) he.2.1 rfl hb6 Ze2 rfl rfl fun υ13 hb6 k14 => ?_)
   have hb := k14.keep _ _ (Ne.symm ne9) hb
   have hu := k14.used _ hu
   refine Zag ?_
   refine Zaf (kp2 2 3 fun e he => ?_)
   refine ZbB ?_
   show ∃ r, ZaM _ _ _ _ r /\ _
   exact ⟨_, Zbd rfl (ZaJ he.1 hb6 fa3 Ze2 rfl) (ZaO he.2), h0 (by unfold Zb8; rw [if_neg (by omega), if_pos (by omega)]) _ (But.ext hX8 (fun g hg => by rw [hg]; exact hn4) k14)⟩
  have ht31 := of_decide_eq_false ht31
  refine ZaL (Zbt ?_)
  refine ⟨[0, 1, 2, 3, 8, 9, 10, 11, 13, 14, 4, 5, 6, 7, 12, 15, 16, 17, 18, 19], [[], [0], [0, 1], [0, 1, 2], [0, 1, 2, 3], [0, 1, 2, 3, 4], [0, 1, 2, 3, 4, 5], [0, 1, 2, 3, 4, 5, 6], [], [8], [8, 9], [8, 9, 10], [8, 9, 10, 11], [], [13], [8, 9, 10, 11, 12, 13, 14], [8, 9, 10, 11, 12, 13, 14, 15], [0, 1, 2, 3, 4, 5, 6, 7, 8, 9, 10, 11, 12, 13, 14, 15, 16], [], [0, 1, 2, 3, 4, 5, 6, 7, 8, 9, 10, 11, 12, 13, 14, 15, 16, 17, 18]], fun _ => True, [4, 6], [16], [], by kernel_rfl, ?_⟩
  refine Zax ?_
  refine Zas ?_
  refine Zav (v := ptr bb 0) rfl rfl ?_
  refine Zaz ?_
  refine Zas ?_
  refine Zae (b := bb) (o := 0) rfl ZlJ rfl ?_
  refine Zaz ?_
  refine Zas ?_
  refine Zae (b := bb) (o := 0 + 0) rfl Zdz rfl ?_
  refine Zaz ?_
  refine Zax ?_
  refine Zas ?_
  refine Zav (v := ptr bb 0) rfl rfl ?_
  refine Zaz ?_
  refine Zas ?_
  refine Zae (b := bb) (o := 0) rfl ZlJ rfl ?_
  refine Zaz ?_
  refine Zas ?_
  refine Zae (b := bb) (o := 0 + 0) rfl Zdz rfl ?_
  refine Zaz ?_
  refine Zax ?_
  refine Zas ?_
  refine Zgc 9 (num b 0) rfl rfl (by omega) ?_
  refine Zaz ?_
  refine Zas ?_
  refine Zah (b := bb) (o := 0 + 0 + 0) (r := v) rfl hb fa5 Zb6 rfl ?_
  refine Zaz ?_
  have hi38 : 4 < b.length := by omega
  refine Zas ?_
  refine Zcp (i := 4) (r := .raw (.int .u8 ((b[4]'hi38).toNat : Int))) hv.ls hi38 (Ze4 hi38) rfl rfl Zbw Zcn Znz fun q15 hq16 => ?_
  refine Zaz ?_
  refine Zas ?_
  refine ZbV rfl hq16 ?_
  refine Zaz ?_
  refine Zas ?_
  refine ZbF (k := .u8) (a := ((b[4]'hi38).toNat : Int)) (r := ((b[4]'hi38).toNat : Int)) Zfw fa1 rfl (IntWalk.i64_in _ (by have := (b[4]'hi38).toNat_lt; omega)) ?_
  refine Zaz ?_
  refine Zas ?_
  refine Zah (b := bb) (o := 0 + 0 + 0) (r := v) rfl hb fa5 Zb6 rfl ?_
  refine Zaz ?_
  refine Zas ?_
  refine Zqd (l := 9) (r := 9 + num b 0) hv rfl rfl rfl Zbw Zcn (by omega) (by omega) fun u17 hu18 => ?_
  refine Zaz ?_
  have hu18 : TB u17 ((b.drop 9).take (num b 0)) := by rw [Nat.add_sub_cancel_left] at hu18; exact hu18
  refine Zas ?_
  refine Zay (vs := [u17]) (by simp only [List.map_cons, List.map_nil, EV,Nat.reduceEqDiff,↓reduceIte,he];try rfl) ?_
  refine ZdR hu18.at_ (by simp only [List.length_take, List.length_drop]; omega) fun a19 τ20 h21 hX22 => ?_
  refine ⟨fun _ => hX22, ?_⟩
  have hb := hX22.keep _ _ hb
  have hu := hX22.used _ hu
  have hb6 := hX22.keep _ _ hb6
  refine Zas ?_
  refine Zbj (vs := [vI ((b[4]'hi38).toNat : Int), a19]) (cells := [vI ((b[4]'hi38).toNat : Int), a19]) (by simp only [List.map_cons, List.map_nil, EV,Nat.reduceEqDiff,↓reduceIte,he];try rfl) ZiC ZpA (by obtain ⟨A, c, rest, rfl, _⟩ := h21 <;> rfl) ?_
  refine Zaz ?_
  refine Zas ?_
  refine ZaH ZiC rfl fun b23 υ24 hn25 hu26 hb27 hv28 hX29 => ?_
  refine ⟨fun q => (by cases q), ?_⟩
  have ne30 := Zat hb hn25
  have ne31 := Zat hb6 hn25
  have hb := hX29.keep _ _ hb
  have hu := hX29.used _ hu
  have hb6 := hX29.keep _ _ hb6
  refine Zas ?_
  refine ZaB (b := b23) (o := 0) (u := .agg [vI ((b[4]'hi38).toNat : Int), a19]) rfl rfl hb27 Ze2 (by obtain ⟨A, c, rest, rfl, _⟩ := h21 <;> rfl) rfl fun υ32 hb27 k33 => ?_
  refine ⟨fun q => (by cases q), ?_⟩
  have hb := k33.keep _ _ (Ne.symm ne30) hb
  have hu := k33.used _ hu
  have hb6 := k33.keep _ _ (Ne.symm ne31) hb6
  refine ZbI (kp4 0 2 4 5 ?_)
  clear he e
  intro e he
  refine Zab (Zbt ?_)
  refine ⟨[0, 1, 2, 4, 5, 6, 7, 10, 8, 9, 11, 3, 12, 13, 14], [[], [0], [0, 1], [0, 1, 2], [], [4], [4, 5], [4, 5, 6], [4, 5, 6, 7], [4, 5, 6, 7, 8], [], [10], [4, 5, 6, 7, 8, 9, 10, 11], [0, 1, 2, 3, 4, 5, 6, 7, 8, 9, 10, 11, 12], [0, 1, 2, 3, 4, 5, 6, 7, 8, 9, 10, 11, 12, 13]], fun _ => True, [8, 11], [3], [12], by kernel_rfl, ?_⟩
  refine Zax ?_
  refine Zas ?_
  refine Zav (v := ptr bb 0) rfl rfl ?_
  refine Zaz ?_
  refine Zas ?_
  refine Zae (b := bb) (o := 0) rfl ZlJ rfl ?_
  refine Zaz ?_
  refine Zax ?_
  refine Zas ?_
  refine Zav (v := ptr bb 0) rfl rfl ?_
  refine Zaz ?_
  refine Zas ?_
  refine Zae (b := bb) (o := 0) rfl ZlJ rfl ?_
  refine Zaz ?_
  refine Zas ?_
  refine Zae (b := bb) (o := 0 + 0) rfl Zdz rfl ?_
  refine Zaz ?_
  refine Zas ?_
  refine Zae (b := b23) (o := 0) he.2.2.2 Zlg rfl ?_
  refine Zaz ?_
  refine Zas ?_
  refine Zah (b := bb) (o := 0 + 0 + 0) (r := v) rfl hb fa5 Zb6 rfl ?_
  refine Zaz ?_
  refine Zas ?_
  refine Zpf (n := 5) hv rfl rfl Zbw Zcn (by omega) fun u34 hu35 => ?_
  refine Zaz ?_
  refine Zas ?_
  refine Zah (b := b23) (o := 0 + 1) (r := a19) rfl hb27 fa5 Zb6 rfl ?_
  refine Zaz ?_
  refine Zas ?_
  refine Zay (vs := [ptr bb (0 + 0), vI 5]) (by simp only [List.map_cons, List.map_nil, EV,Nat.reduceEqDiff,↓reduceIte,he];try rfl) ?_
  refine ZhR (k0 := 5) hv hb hu (by omega) ?_
  refine ⟨fun _ => .refl _, ?_⟩
  refine ZsZ (vs := [u34, a19]) (cells := [u34, a19]) (by simp only [HIX]; try rfl) rfl (by simp only [List.map_cons, List.map_nil, EV,Nat.reduceEqDiff,↓reduceIte,he];try rfl) Zl1 Zb6 Zrb rfl (by omega) (by obtain ⟨A, c, rest, rfl, _⟩ := hu35 <;> obtain ⟨A, c, rest, rfl, _⟩ := h21 <;> rfl) fun b36 hu37 hb38 => ?_
  have hX39 := Ext.put (.own 23 [u34, a19]) hb38
  have hb := hX39.keep _ _ hb
  have hb6 := hX39.keep _ _ hb6
  have hb27 := hX39.keep _ _ hb27
  refine Zas ?_
  refine Zay (vs := [hdr b36 2 2]) (by simp only [List.map_cons, List.map_nil, EV,Nat.reduceEqDiff,↓reduceIte,he];try rfl) ?_
  refine Zpe (ps := [b.take 5, (b.drop 9).take (num b 0)]) (cells := [u34, a19]) (.inr (ZhI (n := 2) (cells := [u34, a19]) (by omega) (by omega) rfl (fun a ha => by simp only [List.mem_cons, List.not_mem_nil, or_false] at ha; rcases ha with rfl | rfl; exact hu35.one.1; exact h21.one.1))) rfl (by simp) (fun i h => match i, h with | 0, _ => ⟨_, rfl, hu35.at_, by show (b.take 5).length <= _; rw [List.length_take]; omega⟩ | 1, _ => ⟨_, rfl, h21.at_, by show ((b.drop 9).take (num b 0)).length <= _; simp only [List.length_take, List.length_drop]; omega⟩ | n + 2, h => absurd h (by simp)) fun τ43 hX44 => ?_
  refine ⟨fun q => (by cases q), ?_⟩
  have hb := hX44.keep _ _ hb
  have hb6 := hX44.keep _ _ hb6
  have hb27 := hX44.keep _ _ hb27
  refine Zas ?_
  refine Zdo (k := .u32) (a := ((num b 5 : Nat) : Int)) (b := ((Crc.more 0#32 ([b.take 5, (b.drop 9).take (num b 0)] : List (List UInt8)).flatten).toNat : Int)) rfl rfl ?_
  refine Zaz ?_
  refine ZbI (kp5 0 2 4 5 65 ?_)
  clear he e
  intro e he
  refine ZaC (t := decide ((((num b 5 : Nat) : Int) : Int) ≠ ((Crc.more 0#32 ([b.take 5, (b.drop 9).take (num b 0)] : List (List UInt8)).flatten).toNat : Int))) he.2.2.2.2 (fun ht65 => ?_) (fun ht65 => ?_)
  ·have ht65 := of_decide_eq_true ht65
   refine Zab (Zaa (Zac (Zbj (vs := []) (cells := [vI 0, .lst none 0 0 []]) (by simp only [List.map_cons, List.map_nil, EV,Nat.reduceEqDiff,↓reduceIte,he];try rfl) ZiC ZpA rfl ?_)))
   refine Zac (ZaB (b := b2) (o := 0) (u := .agg [vI 0, .lst none 0 0 []]) he.2.1 rfl hb6 Ze2 rfl rfl fun υ45 hb6 k46 => ?_)
   have hb := k46.keep _ _ (Ne.symm ne9) hb
   have hb27 := k46.keep _ _ ne31 hb27
   refine Zag ?_
   refine Zaf (kp2 2 3 fun e he => ?_)
   refine ZbB ?_
   show ∃ r, ZaM _ _ _ _ r /\ _
   exact ⟨_, Zbd rfl (ZaJ he.1 hb6 fa3 Ze2 rfl) (ZaO he.2), h0 (by unfold Zb8; rw [if_neg (by omega), if_neg (by omega), if_neg (by have e5 : ([b.take 5, (b.drop 9).take (num b 0)] : List (List UInt8)).flatten = b.take 5 ++ (b.drop 9).take (num b 0) := (by simp); rw [e5] at ht65; omega)]) _ (But.ext (((But.ext ((hX8.trans hX22).trans hX29) (fun g hg => by rw [hg]; exact (hX8.trans hX22).noneOf hn25) k33).trans hX39).trans hX44) (fun g hg => by rw [hg]; exact hn4) k46)⟩
  have ht65 := of_decide_eq_false ht65
  refine ZaL (Zbt ?_)
  refine ⟨[0, 1, 2, 3, 4, 5, 7, 8, 10, 11, 12, 15, 6, 9, 13, 14, 16, 17, 18, 19, 20, 21, 22, 23], [[], [], [], [2], [2, 3], [2, 3, 4], [2, 3, 4, 5], [], [7], [2, 3, 4, 5, 6, 7, 8], [], [10], [10, 11], [10, 11, 12], [10, 11, 12, 13], [], [10, 11, 12, 13, 14, 15], [0, 2, 3, 4, 5, 6, 7, 8, 9, 10, 11, 12, 13], [0, 2, 3, 4, 5, 6, 7, 8, 9, 10, 11, 12, 13, 17], [0, 2, 3, 4, 5, 6, 7, 8, 9, 10, 11, 12, 13, 17, 18], [0, 2, 3, 4, 5, 6, 7, 8, 9, 10, 11, 12, 13, 17, 18, 19], [0, 1, 2, 3, 4, 5, 6, 7, 8, 9, 10, 11, 12, 13, 14, 15, 16, 17, 18, 19, 20], [0, 1, 2, 3, 4, 5, 6, 7, 8, 9, 10, 11, 12, 13, 14, 15, 16, 17, 18, 19, 20, 21], [0, 1, 2, 3, 4, 5, 6, 7, 8, 9, 10, 11, 12, 13, 14, 15, 16, 17, 18, 19, 20, 21, 22]], fun _ => True, [], [], [], by kernel_rfl, ?_⟩
  refine Zax ?_
  refine Zax ?_
  refine Zax ?_
  refine Zas ?_
  refine Zav (v := ptr bb 0) rfl rfl ?_
  refine Zaz ?_
  refine Zas ?_
  refine Zae (b := bb) (o := 0) rfl ZlJ rfl ?_
  refine Zaz ?_
  refine Zas ?_
  refine Zae (b := bb) (o := 0 + 0) rfl Zdz rfl ?_
  refine Zaz ?_
  refine Zax ?_
  refine Zas ?_
  refine Zgc 9 (num b 0) rfl rfl (by omega) ?_
  refine Zaz ?_
  refine Zax ?_
  refine Zas ?_
  refine Zav (v := ptr bb 0) rfl rfl ?_
  refine Zaz ?_
  refine Zas ?_
  refine Zae (b := bb) (o := 0) rfl ZlJ rfl ?_
  refine Zaz ?_
  refine Zax ?_
  refine Zas ?_
  refine Zah (b := bb) (o := 0 + 0 + 0) (r := v) rfl hb fa5 Zb6 rfl ?_
  refine Zaz ?_
  refine Zas ?_
  refine Zgw (n := 9 + num b 0) hv rfl rfl Zbw Zcn (by omega) fun u47 hu48 => ?_
  refine Zaz ?_
  refine Zas ?_
  refine Zah (b := bb) (o := 0 + 1) (r := vI ((at0 : Nat) : Int)) rfl hb fa9 ZbG rfl ?_
  refine Zaz ?_
  refine Zas ?_
  refine Zgc at0 9 rfl rfl (by omega) ?_
  refine Zaz ?_
  refine Zas ?_
  refine Zgc (at0 + 9) (num b 0) rfl rfl (by omega) ?_
  refine Zaz ?_
  refine Zas ?_
  refine Zav (v := ptr bb 0) rfl rfl ?_
  refine Zaz ?_
  refine Zas ?_
  refine Zae (b := bb) (o := 0) rfl ZlJ rfl ?_
  refine Zaz ?_
  refine Zas ?_
  refine Zae (b := bb) (o := 0 + 0) rfl Zdz rfl ?_
  refine Zaz ?_
  refine Zas ?_
  refine ZaI (b := bb) (o := 0 + 0 + 0) (v := u47) rfl rfl hb Zb6 hu48.one (by simp) fun υ49 hb k50 => ?_
  refine ⟨fun q => (by cases q), ?_⟩
  have hb6 := k50.keep _ _ ne9 hb6
  have hb27 := k50.keep _ _ ne30 hb27
  refine Zas ?_
  refine Zav (v := ptr bb 0) rfl rfl ?_
  refine Zaz ?_
  refine Zas ?_
  refine Zae (b := bb) (o := 0) rfl ZlJ rfl ?_
  refine Zaz ?_
  refine Zas ?_
  refine ZaI (b := bb) (o := 0 + 1) (v := vI ((at0 + 9 + num b 0 : Nat) : Int)) rfl rfl hb ZbG ⟨rfl, rfl, rfl⟩ (by simp) fun υ51 hb k52 => ?_
  refine ⟨fun q => (by cases q), ?_⟩
  have hb6 := k52.keep _ _ ne9 hb6
  have hb27 := k52.keep _ _ ne30 hb27
  refine ZbI (kp2 2 5 ?_)
  clear he e
  intro e he
  refine Zaa (Zac (Zah (b := b23) (o := 0) (r := .agg [vI ((b[4]'hi38).toNat : Int), a19]) he.2 hb27 fa3 Ze2 rfl ?_))
  refine Zac (ZaB (b := b2) (o := 0) (u := .agg [vI ((b[4]'hi38).toNat : Int), a19]) he.1 rfl hb6 Ze2 (by obtain ⟨A, c, rest, rfl, _⟩ := h21 <;> rfl) rfl fun υ53 hb6 k54 => ?_)
  have hb := k54.keep _ _ (Ne.symm ne9) hb
  refine Zag ?_
  refine Zaf (kp2 2 3 fun e he => ?_)
  refine Zap ?_
  have hf : Zb8 b = some (((b[4]'hi38).toNat : Int), (b.drop 9).take (num b 0)) := by
   have e4 : (b.getD 4 0) = b[4]'hi38 := by rw [List.getD_eq_getElem?_getD, List.getElem?_eq_getElem hi38]; rfl
   have e5 : ([b.take 5, (b.drop 9).take (num b 0)] : List (List UInt8)).flatten = b.take 5 ++ (b.drop 9).take (num b 0) := by simp
   rw [e5] at ht65
   unfold Zb8
   rw [if_neg (by omega), if_neg (by omega), if_pos (by omega), e4]
  have hlen : ((b.drop 9).take (num b 0)).length = num b 0 := by rw [List.length_take, List.length_drop]; omega
  have h1 := h1 _ hf
  simp only [hlen] at h1
  show ∃ r, ZaM _ _ _ _ r /\ _
  exact ⟨_, Zbd rfl (ZaJ he.1 hb6 fa3 Ze2 rfl) (ZaO he.2), h1 _ _ _ h21 hu48 (But.ext2 (((((But.ext2 ((((But.refl _ _).trans hX8.but).trans hX22.but).trans hX29.but) (fun g hg => .inr (by rw [hg]; exact (hX8.trans hX22).noneOf hn25)) k33).trans hX39.but).trans hX44.but).trans k50).trans k52) (fun g hg => .inr (by rw [hg]; exact hn4)) k54) hb⟩
 | true =>
  have hg12 := of_decide_eq_true hg12
  refine Zal ?_
  refine Zal ?_
  refine Zal ?_
  refine Zal ?_
  refine Zal ?_
  refine Zal ?_
  refine Zal ?_
  refine Zal ?_
  refine Zal ?_
  refine Zac (Zaj (v := vT true) rfl rfl ?_)
  refine Zaf (kp4 0 2 4 31 fun e he => ?_)
  refine ZaC (t := true) he.2.2.2 (fun ht => ?_) (fun ht => by cases ht)
  refine Zab (Zaa (Zac (Zbj (vs := []) (cells := [vI 0, .lst none 0 0 []]) (by simp only [List.map_cons, List.map_nil, EV,Nat.reduceEqDiff,↓reduceIte,he];try rfl) ZiC ZpA rfl ?_)))
  refine Zac (ZaB (b := b2) (o := 0) (u := .agg [vI 0, .lst none 0 0 []]) he.2.1 rfl hb6 Ze2 rfl rfl fun υ55 hb6 k56 => ?_)
  refine Zag ?_
  refine Zaf (kp2 2 3 fun e he => ?_)
  refine ZbB ?_
  show ∃ r, ZaM _ _ _ _ r /\ _
  exact ⟨_, Zbd rfl (ZaJ he.1 hb6 fa3 Ze2 rfl) (ZaO he.2), h0 (by unfold Zb8; rw [if_neg (by omega), if_pos (by omega)]) _ (But.ext hX8 (fun g hg => by rw [hg]; exact hn4) k56)⟩
end
end Go.Proofs.YtiienjjhlibopaaGreatDoor
namespace Go.Proofs.YtiienjjhlibopaaGreatDoor
set_option linter.unusedSimpArgs false
set_option linter.unusedVariables false
def Zs1 (f : Fr) : Prop := 0 <= f.1 /\ f.1 <= 255 /\ f.2.length <= 262144
theorem Zsx (l : List UInt8) : Zls l 4 = (l.getD 0 0).toNat + (l.getD 1 0).toNat * 256 + (l.getD 2 0).toNat * 65536 + (l.getD 3 0).toNat * 16777216 := by
 simp [Zls]
theorem ZmX {l : List UInt8} (h : 4 <= l.length) : ∃ a b c d r, l = a :: b :: c :: d :: r := by
 match l, h with
 | a :: b :: c :: d :: r, _ => exact ⟨a, b, c, d, r, rfl⟩
theorem ZmY {l : List UInt8} (h : 4 <= l.length) : le4 (Zls l 4) = l.take 4 := by
 obtain ⟨a, b, c, d, r, rfl⟩ := ZmX h
 rw [Zsx]
 simp only [List.getD_cons_zero, List.getD_cons_succ, List.take_succ_cons, List.take_zero]
 have ha := a.toNat_lt
 have hb := b.toNat_lt
 have hc := c.toNat_lt
 have hd := d.toNat_lt
 unfold le4
 congr 1
 ·apply UInt8.toNat_inj.1; rw [UInt8.toNat_ofNat']; omega
 congr 1
 ·apply UInt8.toNat_inj.1; rw [UInt8.toNat_ofNat']; omega
 congr 1
 ·apply UInt8.toNat_inj.1; rw [UInt8.toNat_ofNat']; omega
 congr 1
 ·apply UInt8.toNat_inj.1; rw [UInt8.toNat_ofNat']; omega
theorem ZmZ {b : List UInt8} {f : Fr} (h : Zb8 b = some f) : Zs1 f /\ b.take (9 + f.2.length) = code f /\ 9 + f.2.length <= b.length := by
 have hlen := ZeJ h
 unfold Zb8 at h
 split at h
 ·cases h
 rename_i h9
 split at h
 ·cases h
 rename_i hn
 split at h
 ·rename_i hcrc
  injection h with h
  subst h
  have hfl : ((b.drop 9).take (num b 0)).length = num b 0 := by rw [List.length_take, List.length_drop]; omega
  refine ⟨⟨by simp, ?_, ?_⟩, ?_, hlen⟩
  ·have := (b.getD 4 0).toNat_lt; dsimp only; omega
  ·dsimp only; rw [hfl]; omega
  ·dsimp only at hlen ⊢
   rw [hfl]
   have h4 : le4 (num b 0) = b.take 4 := by unfold num; rw [List.drop_zero]; exact ZmY (by omega)
   have h5 : le4 (num b 5) = (b.drop 5).take 4 := by unfold num; exact ZmY (by rw [List.length_drop]; omega)
   have hk : UInt8.ofNat (((b.getD 4 0).toNat : Int)).toNat = b[4]'(by omega) := by
    have : b.getD 4 0 = b[4]'(by omega) := by simp [List.getD_eq_getElem?_getD, List.getElem?_eq_getElem (show 4 < b.length by omega)]
    rw [this]
    apply UInt8.toNat_inj.1
    rw [UInt8.toNat_ofNat']
    have := (b[4]'(by omega)).toNat_lt
    omega
   have hhd : hd ((((b.getD 4 0).toNat : Int)), (b.drop 9).take (num b 0)) = b.take 5 := by
    unfold hd
    dsimp only
    rw [hfl, h4, hk]
    exact (List.take_succ_eq_append_getElem (by omega)).symm
   have hcc : Zoj ((((b.getD 4 0).toNat : Int)), (b.drop 9).take (num b 0)) = num b 5 := by
    unfold Zoj
    rw [hhd]
    exact hcrc.symm
   unfold code
   rw [hhd, hcc, h5]
   dsimp only
   rw [show 9 + num b 0 = 5 + (4 + num b 0) from by omega, List.take_add, List.take_add, List.drop_drop]
 ·cases h
theorem Zlv : ∀ (n : Nat) (b : List UInt8) (k m : Nat), b.length <= n -> b.length < k -> b.length < m -> Zip k b = Zip m b := by
 intro n
 induction n with
 | zero =>
  intro b k m hn hk hm
  obtain ⟨k, rfl⟩ : ∃ k', k = k' + 1 := ⟨k - 1, by omega⟩
  obtain ⟨m, rfl⟩ : ∃ m', m = m' + 1 := ⟨m - 1, by omega⟩
  have : Zb8 b = none := by unfold Zb8; rw [if_pos (by omega)]
  simp [Zip, this]
 | succ n ih =>
  intro b k m hn hk hm
  obtain ⟨k, rfl⟩ : ∃ k', k = k' + 1 := ⟨k - 1, by omega⟩
  obtain ⟨m, rfl⟩ : ∃ m', m = m' + 1 := ⟨m - 1, by omega⟩
  cases hf : Zb8 b with
  | none => simp [Zip, hf]
  | some f =>
   have hl := ZeJ hf
   have hd : (b.drop (9 + f.2.length)).length < b.length := by rw [List.length_drop]; omega
   have := ih (b.drop (9 + f.2.length)) k m (by omega) (by omega) (by omega)
   simp only [Zip, hf, this]
theorem Zje (b : List UInt8) : ZaV b = match Zb8 b with
 | none => ([], 0)
 | some f => (f :: (ZaV (b.drop (9 + f.2.length))).1, 9 + f.2.length + (ZaV (b.drop (9 + f.2.length))).2) := by
 unfold ZaV
 conv => lhs; unfold Zip
 cases hf : Zb8 b with
 | none => rfl
 | some f =>
  have hl := ZeJ hf
  have hd : (b.drop (9 + f.2.length)).length < b.length := by rw [List.length_drop]; omega
  dsimp only
  rw [Zlv b.length (b.drop (9 + f.2.length)) b.length ((b.drop (9 + f.2.length)).length + 1) (by omega) (by omega) (by omega)]
theorem Zfa {b : List UInt8} (h : Zb8 b = none) : ZaV b = ([], 0) := by rw [Zje, h]
theorem Zhd {b : List UInt8} {f : Fr} (h : Zb8 b = some f) : ZaV b = (f :: (ZaV (b.drop (9 + f.2.length))).1, 9 + f.2.length + (ZaV (b.drop (9 + f.2.length))).2) := by
 rw [Zje b, h]
theorem Zjf : ∀ (n : Nat) (b : List UInt8), b.length <= n -> (∀ f ∈ (ZaV b).1, Zs1 f) /\ codes (ZaV b).1 = b.take (ZaV b).2 /\ (ZaV b).2 <= b.length := by
 intro n
 induction n with
 | zero =>
  intro b hb
  have : Zb8 b = none := by unfold Zb8; rw [if_pos (by omega)]
  rw [Zfa this]
  exact ⟨by simp, by simp [codes], Nat.zero_le _⟩
 | succ n ih =>
  intro b hb
  cases hf : Zb8 b with
  | none => rw [Zfa hf]; exact ⟨by simp, by simp [codes], Nat.zero_le _⟩
  | some f =>
   obtain ⟨h1, h2, h3⟩ := ZmZ hf
   have hd : (b.drop (9 + f.2.length)).length = b.length - (9 + f.2.length) := List.length_drop
   obtain ⟨g1, g2, g3⟩ := ih (b.drop (9 + f.2.length)) (by omega)
   rw [Zhd hf]
   refine ⟨?_, ?_, ?_⟩
   ·intro g hg
    rcases List.mem_cons.1 hg with rfl | hg
    ·exact h1
    ·exact g1 g hg
   ·dsimp only
    rw [Zlr, g2, <- h2]
    exact List.take_add.symm
   ·dsimp only; omega
end Go.Proofs.YtiienjjhlibopaaGreatDoor
