/- RowsRuns, plainly. -/
import Derived.Test.YtlmmpfbdgiokmaaGreatRr1
namespace Go.Proofs.YtlmmpfbdgiokmaaGreat
open Go.RowKit
set_option maxRecDepth 100000
set_option linter.unusedVariables false
set_option linter.unusedSimpArgs false
theorem ZBs : ZsJ ⟨[], []⟩ := ⟨Nat.zero_le _, Nat.zero_le _⟩
theorem ZCH (k : Int) {n : Nat} (hn : 1 <= n) (hm : n <= 1000000) : ∃ v : Nat, ZdH k (n : Int) = some ((v : Int), ()) /\ v < n := by
 unfold ZdH
 by_cases h : (k.tmod n) < 0
 ·have h1 := Int.lt_tmod_of_pos k (by omega : (0 : Int) < (n : Int))
  refine ⟨(k.tmod n + n).toNat, Zaj (dF (by omega)) (Zwb (by omega) (Zak (dT h) ?_)), by omega⟩
  rw [w64 (by omega), Int.toNat_of_nonneg (by omega)]
 ·have h1 := Int.tmod_lt_of_pos k (by omega : (0 : Int) < (n : Int))
  refine ⟨(k.tmod n).toNat, Zaj (dF (by omega)) (Zwb (by omega) (Zaj (dF h) ?_)), by omega⟩
  rw [Int.toNat_of_nonneg (by omega)]
theorem Zjn.keys {L : List Zae} (h : Zjn L) : ∀ r ∈ L, OkT r.key := fun r hr => by
 have := (ZxJ (h.2.2 r hr)).1
 unfold OkT
 omega
theorem ZpU {L : List Zae} (h : Zjn L) : ZaO (L.length, true, ()) ⟨L⟩ L = some (true, ((L.length, true, ()), ⟨L⟩, L, ())) := by
 unfold ZaO
 refine Zab Zx2 (Zak (dT rfl) (Zab (ZCy h.1 h.2.1 h.2.2 ZBs) ?_))
 have hl := h.2.1
 rw [Zx1 h.2.2]
 refine Zab (Zeq (by dsimp only; omega)) ?_
 dsimp only
 rw [decide_eq_true rfl]
theorem ZBt {d : Zcg} {L : List Zae} (h : Zjn L) (ho : ZsJ d.span) (hw : d.rows.length <= 1200) (hk : ∀ r ∈ d.rows, OkT r.key) : ∃ M, Zjn M /\ Zba d (L.length, true, ()) ⟨L⟩ L = some (true, ((M.length, true, ()), ⟨M⟩, (), M, ())) := by
 obtain ⟨v, hv, _⟩ := ZCH d.kind (n := 5) (by omega) (by omega)
 have hl := h.2.1
 unfold Zba
 by_cases h3 : v = 3
 ·refine ⟨L, h, Zab hv (Zak (dT (by dsimp only; omega)) (Zab (ZCy h.1 h.2.1 h.2.2 ho) (Zab (Zx4 (by omega) ho h.keys) ?_)))⟩
  have := Zua d.span L
  refine Zab (Zeq (by dsimp only; omega)) ?_
  dsimp only
  rw [decide_eq_true rfl]
 by_cases h4 : v = 4
 ·refine ⟨Zq3 d.span L, ZBn h.1 h.2.1 h.2.2, Zab hv (Zaj (dF (by dsimp only; omega)) (Zak (dT (by dsimp only; omega)) (Zab (ZAk h.1 h.2.1 h.2.2 ho) (Zab (Zx5 (by omega) ho h.keys) ?_))))⟩
  have := Zua d.span L
  refine Zab (Zeq (by dsimp only; omega)) ?_
  dsimp only
  rw [decide_eq_true rfl]
 ·refine ⟨(ZnA d.rows L).2, ZxK h.1 h.2.1 h.2.2, Zab hv (Zaj (dF (by dsimp only; omega)) (Zaj (dF (by dsimp only; omega)) (Zab (ZAm hw) (Zab (Zv1 (xs := d.rows) h.1 h.2.1 hk (by omega)) (Zab (ZzV (xs := d.rows) h.1 h.2.1 hk (by omega)) (Zak (dT rfl) (Zab (ZAn hw) rfl)))))))⟩
theorem ZAq {L : List Zae} (hl : L.length <= 400) : Zj6 (L.length, true, ()) L = some ((), ((L.length, true, ()), L, (L.length, true, ()), L, ())) := by
 unfold Zj6
 refine Zab (v := (true, ((L.length, true, ()), L, ()))) rfl (Zaj rfl (Zab (v := (L.length, (L, L, ()))) ?_ rfl))
 unfold Zg2
 dsimp only
 rw [List.take_length]
 exact ZeK (by omega) rfl
theorem Zx7 {L : List Zae} (hl : L.length <= 400) : Zb8 L = some (L, ((), ())) := by
 unfold Zb8
 exact ZeK (by omega) rfl
theorem ZDQ {s : Za5} {l : List Zae} (hs : srt l) (hl : l.length <= 400) (hr : ∀ r ∈ l, Zbh r = true) (ho : ZsJ s) : Zkb s (l.length, true, ()) l = some ((inF s l).length, ((l.length, true, ()), l, inF s l, ())) := by
 obtain ⟨b1, b2⟩ := Zl4 (s := s) (l := l)
 have hc := ZxL (s := s) hs hr
 unfold Zkb
 refine Zab (v := (true, ((l.length, true, ()), l, ()))) rfl (Zaj rfl (Zab (ZqZ hs hl ho) (ZeK (by dsimp only; omega) (Zab (v := ((inF s l).length, (l, inF s l, ()))) ?_ rfl))))
 unfold ZlP
 dsimp only
 rw [Nat.zero_add, Int.toNat_natCast, Int.toNat_natCast, hc]
 have hlen : (inF s l).length <= 400 := Nat.le_trans (List.length_filter_le _ _) hl
 exact ZeK (by omega) rfl
def OkD (l : List Zcg) : Prop := l.length <= 60 /\ ∀ d ∈ l, ZsJ d.span /\ d.rows.length <= 1200 /\ ∀ r ∈ d.rows, OkT r.key
theorem ZBu {l : List Zcg} (hl : OkD l) (x2 : List Zcg) (x3 : List Tx) {k : Nat} (hk : k <= l.length) : ∃ L M, Zjn L /\ Zjn M /\ ZaP ZaW (.inl ((l, x2, x3, (), (), (k : Int), (), (), 0, ()), ((0, true, ()), (⟨[]⟩ : ZaI), ([], ()), [], (), ()))) = some (.inr ((x2, x3, (), (), (), (), ()), ((L.length, true, ()), (⟨L⟩ : ZaI), (M, ()), (), (), (M.length, true, ()), L, (), M, ()))) := by
 have hl60 := hl.1
 have key : ∃ z, ZaP ZaW (.inl ((l, x2, x3, (), (), (k : Int), (), (), 0, ()), ((0, true, ()), (⟨[]⟩ : ZaI), ([], ()), [], (), ()))) = some z /\ ∃ L M, Zjn L /\ Zjn M /\ z = .inr ((x2, x3, (), (), (), (), ()), ((L.length, true, ()), (⟨L⟩ : ZaI), (M, ()), (), (), (M.length, true, ()), L, (), M, ())) := by
  refine ZbL (fun m a => (∃ (i : Nat) (L : List Zae), Zjn L /\ i <= k /\ m = l.length + 2 - i /\ a = .inl ((l, x2, x3, (), (), (k : Int), (), (), (i : Int), ()), ((L.length, true, ()), (⟨L⟩ : ZaI), ([], ()), L, (), ()))) \/
   (∃ (i : Nat) (L M : List Zae), Zjn L /\ Zjn M /\ k < i /\ i <= l.length + 1 /\ m = l.length + 2 - i /\ a = .inr ((l, x2, x3, (), (), (k : Int), (), (), (i : Int), ()), ((L.length, true, ()), (⟨L⟩ : ZaI), (M, ()), (M.length, true, ()), L, (), M, ())))) _ ?_ (n := l.length + 2) (.inl ⟨0, [], ⟨.nil, Nat.zero_le _, fun r hr => by cases hr⟩, Nat.zero_le _, rfl, rfl⟩)
  rintro m a (⟨i, L, hL, hik, rfl, rfl⟩ | ⟨i, L, M, hL, hM, hik, hil, rfl, rfl⟩)
  ·left
   have hL4 := hL.2.1
   unfold ZaW
   dsimp only
   unfold ZeF
   by_cases hi : i < l.length
   ·obtain ⟨o1, o2, o3⟩ := hl.2 _ (List.getElem_mem hi)
    obtain ⟨L', hL', ha⟩ := ZBt hL o1 o2 o3
    have hs := ZpU hL'
    by_cases he : i = k
    ·refine ⟨l.length + 2 - (i + 1), _, by omega, Zak (dT (by dsimp only; omega)) (Zak (dT (by dsimp only; omega)) (Zab (ZAq hL4) (Zab (Zx7 hL4) (Zak (dT (by dsimp only; omega)) (Zab (Zay hi) (Zab ha (Zaj rfl (Zab hs (Zaj rfl rfl))))))))), .inr ⟨i + 1, L', L, hL', hL, by omega, by omega, rfl, ?_⟩⟩
     dsimp only
     rw [w64 (by omega)]
     rfl
    ·refine ⟨l.length + 2 - (i + 1), _, by omega, Zak (dT (by dsimp only; omega)) (Zaj (dF (by dsimp only; omega)) (Zak (dT (by dsimp only; omega)) (Zab (Zay hi) (Zab ha (Zaj rfl (Zab hs (Zaj rfl rfl))))))), .inl ⟨i + 1, L', hL', by omega, rfl, ?_⟩⟩
     dsimp only
     rw [w64 (by omega)]
     rfl
   ·have he : i = k := by omega
    refine ⟨l.length + 2 - (i + 1), _, by omega, Zak (dT (by dsimp only; omega)) (Zak (dT (by dsimp only; omega)) (Zab (ZAq hL4) (Zab (Zx7 hL4) (Zaj (dF (by dsimp only; omega)) rfl)))), .inr ⟨i + 1, L, L, hL, hL, by omega, by omega, rfl, ?_⟩⟩
    dsimp only
    rw [w64 (by omega)]
    rfl
  ·unfold ZaW
   dsimp only
   unfold Zek
   by_cases hi : i < l.length
   ·left
    obtain ⟨o1, o2, o3⟩ := hl.2 _ (List.getElem_mem hi)
    obtain ⟨L', hL', ha⟩ := ZBt hL o1 o2 o3
    have hs := ZpU hL'
    refine ⟨l.length + 2 - (i + 1), _, by omega, Zak (dT (by dsimp only; omega)) (Zaj (dF (by dsimp only; omega)) (Zak (dT (by dsimp only; omega)) (Zab (Zay hi) (Zab ha (Zaj rfl (Zab hs (Zaj rfl rfl))))))), .inr ⟨i + 1, L', M, hL', hM, by omega, by omega, rfl, ?_⟩⟩
    dsimp only
    rw [w64 (by omega)]
    rfl
   ·by_cases he : i = l.length
    ·left
     refine ⟨l.length + 2 - (i + 1), _, by omega, Zak (dT (by dsimp only; omega)) (Zaj (dF (by dsimp only; omega)) (Zaj (dF (by dsimp only; omega)) rfl)), .inr ⟨i + 1, L, M, hL, hM, by omega, by omega, rfl, ?_⟩⟩
     dsimp only
     rw [w64 (by omega)]
     rfl
    ·right
     exact ⟨_, Zaj (dF (by dsimp only; omega)) rfl, L, M, hL, hM, rfl⟩
 obtain ⟨z, hz, L, M, hL, hM, rfl⟩ := key
 exact ⟨L, M, hL, hM, hz⟩
theorem ZBv {l : List Zcg} (hl : OkD l) (x3 : List Tx) {L M0 : List Zae} (hM0 : Zjn M0) : ∃ M, Zjn M /\ ZaP Zbl ((l, x3, (), (), (), (), 0, ()), ((L.length, true, ()), (⟨L⟩ : ZaI), (M0.length, true, ()), (⟨M0⟩ : ZaI), L, M0, ())) = some (.inr ((x3, (), (), (), (), ()), ((L.length, true, ()), (⟨L⟩ : ZaI), (M.length, true, ()), (⟨M⟩ : ZaI), (), (), L, M, ()))) := by
 have hl60 := hl.1
 have key : ∃ z, ZaP Zbl ((l, x3, (), (), (), (), 0, ()), ((L.length, true, ()), (⟨L⟩ : ZaI), (M0.length, true, ()), (⟨M0⟩ : ZaI), L, M0, ())) = some z /\ ∃ M, Zjn M /\ z = .inr ((x3, (), (), (), (), ()), ((L.length, true, ()), (⟨L⟩ : ZaI), (M.length, true, ()), (⟨M⟩ : ZaI), (), (), L, M, ())) := by
  refine ZbL (fun m a => ∃ (i : Nat) (M : List Zae), Zjn M /\ i <= l.length /\ m = l.length - i /\ a = ((l, x3, (), (), (), (), (i : Int), ()), ((L.length, true, ()), (⟨L⟩ : ZaI), (M.length, true, ()), (⟨M⟩ : ZaI), L, M, ()))) _ ?_ (n := l.length) ⟨0, M0, hM0, Nat.zero_le _, rfl, rfl⟩
  rintro m a ⟨i, M, hM, hil, rfl, rfl⟩
  unfold Zbl
  by_cases hi : i < l.length
  ·left
   obtain ⟨o1, o2, o3⟩ := hl.2 _ (List.getElem_mem hi)
   obtain ⟨M', hM', ha⟩ := ZBt hM o1 o2 o3
   have hs := ZpU hM'
   refine ⟨l.length - (i + 1), _, by omega, Zak (dT (by dsimp only; omega)) (Zab (Zay hi) (Zab ha (Zaj rfl (Zab hs (Zaj rfl rfl))))), i + 1, M', hM', by omega, rfl, ?_⟩
   dsimp only
   rw [w64 (by omega)]
   rfl
  ·right
   exact ⟨_, Zaj (dF (by dsimp only; omega)) rfl, M, hM, rfl⟩
 obtain ⟨z, hz, M, hM, rfl⟩ := key
 exact ⟨M, hM, hz⟩
theorem ZBw {x3 : List Tx} (h3 : x3.length <= 200) {L M : List Zae} (hL : Zjn L) : ZaP ZbY ((x3, (), (), (), (), 0, ()), ((L.length, true, ()), (⟨L⟩ : ZaI), (M.length, true, ()), (⟨M⟩ : ZaI), L, M, ())) = some (.inr (((), (), (), (), ()), ((L.length, true, ()), (⟨L⟩ : ZaI), (M.length, true, ()), (⟨M⟩ : ZaI), (), (), L, M, ()))) := by
 refine ZfP (fun m a => ∃ (i : Nat), i <= x3.length /\ m = x3.length - i /\ a = ((x3, (), (), (), (), (i : Int), ()), ((L.length, true, ()), (⟨L⟩ : ZaI), (M.length, true, ()), (⟨M⟩ : ZaI), L, M, ()))) _ ?_ (n := x3.length) ⟨0, Nat.zero_le _, rfl, rfl⟩
 rintro m a ⟨i, hil, rfl, rfl⟩
 unfold ZbY
 by_cases hi : i < x3.length
 ·left
  obtain ⟨v, b, g1, g2⟩ := ZzU (k := x3[i]) hL.1 hL.2.1
  refine ⟨x3.length - (i + 1), _, by omega, Zak (dT (by dsimp only; omega)) (Zab (Zay hi) (Zab g1 (Zab (Zay hi) (Zab g2 (Zaj (dF (by simp)) (Zaj (dF (by simp)) rfl)))))), i + 1, by omega, rfl, ?_⟩
  dsimp only
  rw [w64 (by omega)]
  rfl
 ·right
  exact Zaj (dF (by dsimp only; omega)) rfl
theorem Zv5 (x0 : List Zcg) (x1 : Int) (x2 : List Zcg) (x3 : List Tx) (k0 : Zlz x0) (k1 : Zqf x1) (k2 : Zlz x2) (k3 : Zqh x3) : ZcK x0 x1 x2 x3 = some (true, ()) := by
 have hd : ∀ {l : List Zcg}, Zlz l -> ∀ d ∈ l, ZsJ d.span /\ d.rows.length <= 140737488355328 /\ ∀ r ∈ d.rows, OkT r.key /\ OkT r.value := fun k d h => by
  obtain ⟨_, q1, q2, _⟩ := k.all d h
  exact ⟨ZsJ.of q2, q1.len, fun r hr => ⟨(q1.all r hr).1, (q1.all r hr).2.1⟩⟩
 have ok : ∀ {l : List Zcg}, Zlz l -> l.length <= 60 /\ (∀ d ∈ l, wgt d.rows <= 1200) -> OkD l := fun k h => ⟨h.1, fun d h2 => ⟨(hd k d h2).1, Nat.le_trans (ZoP _) (h.2 d h2), fun r hr => ((hd k d h2).2.2 r hr).1⟩⟩
 obtain ⟨b0, e0, f0⟩ := Zx0 k0.len (hd k0)
 obtain ⟨b2, e2, f2⟩ := Zx0 k2.len (hd k2)
 unfold ZcK
 refine Zab e0 ?_
 cases b0 with
 | false => exact Zak rfl (Zab Zkn rfl)
 | true =>
 refine Zaj rfl (Zab e2 ?_)
 cases b2 with
 | false => exact Zak rfl (Zab Zkn rfl)
 | true =>
 by_cases h3 : (200 : Int) < (x3.length : Int)
 ·exact Zaj rfl (Zak (dT h3) (Zab Zkn rfl))
 have h0 := ok k0 (f0 rfl)
 have h2 := ok k2 (f2 rfl)
 have hl60 := h0.1
 obtain ⟨k, hk, hkl⟩ := ZCH x1 (n := x0.length + 1) (by omega) (by omega)
 have hw : IntKind.i64.wrap ((x0.length : Int) + 1) = ((x0.length + 1 : Nat) : Int) := by rw [w64 (by omega)]; omega
 obtain ⟨L, M, hL, hM, hl1⟩ := ZBu h0 x2 x3 (k := k) (by omega)
 obtain ⟨M', hM', hl2⟩ := ZBv h2 x3 (L := L) hM
 have hl3 := ZBw (x3 := x3) (by omega) (M := M') hL
 have hin := ZDQ hL.1 hL.2.1 hL.2.2 ZBs
 have hL4 := hL.2.1
 rw [Zx1 hL.2.2] at hin
 have hap : Zif (L.length, L.length, ()) L L = some (true, ((), (), ())) := by
  unfold Zif
  exact if_pos ⟨Nat.le_refl _, Nat.le_refl _, by dsimp only; omega, by dsimp only; omega⟩
 refine Zaj rfl (Zaj (dF h3) (Zab rfl (Zab (by rw [hw]; exact hk) ?_)))
 refine Zab hl1 ?_
 refine Zab hl2 ?_
 refine Zab hl3 ?_
 exact Zab (ZpU hL) (Zak rfl (Zab (ZpU hM') (Zak rfl (Zab hin (Zab hin (Zab hap (Zak rfl (Zab (ZpU hL) (Zak rfl (Zab Zkn rfl))))))))))
end Go.Proofs.YtlmmpfbdgiokmaaGreat
