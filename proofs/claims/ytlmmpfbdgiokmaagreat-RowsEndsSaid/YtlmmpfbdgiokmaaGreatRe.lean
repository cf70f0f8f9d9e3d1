/- RowsEnds, plainly. -/
import Derived.Test.YtlmmpfbdgiokmaaGreatRr
namespace Go.Proofs.YtlmmpfbdgiokmaaGreat
open Go.RowKit
set_option maxRecDepth 100000
set_option linter.unusedVariables false
set_option linter.unusedSimpArgs false
theorem ZCI {x : Zae} {L : List Zae} (hs : srt L) (hl : L.length <= 100000) : ZbP L x = some (Znh x L, ((), ())) := by
 have h := ZsY (x := x) hs hl
 have hn : 0 < (Znh x L).length := List.length_pos_of_mem ((Zu0 hs).2 (.inl rfl))
 unfold ZbN at h
 obtain ⟨⟨n, xs, u⟩, h1, h2⟩ := Zam h
 dsimp only at h2
 split at h2
 ·rename_i hc
  injection h2 with h2
  injection h2 with h2 _
  unfold ZbP
  rw [h1]
  refine Zab rfl ?_
  dsimp only
  rw [if_pos ⟨fun e => by rw [<- h2, e] at hn; simp at hn, hc⟩, h2]
 ·cases h2
theorem Zl7 {xs L : List Zae} (hs : srt L) (hl : L.length <= 400) (hx : ∀ x ∈ xs, OkT x.key) (h0 : 0 < xs.length) (hn : xs.length <= 50000) : Zbn xs (L, ()) = some ((ZnA xs L).1, (((ZnA xs L).2, ()), (), (), ())) := by
 have key : ∃ z, ZaP ZcT (((), xs, L, 0, ()), ((L, ()), (), ())) = some z /\ ((z = .inl ((2, ()), ((L, ()), (), (), ())) /\ xs.all Zbh = false) \/ (z = .inr (((), xs, L, ()), ((L, ()), (), (), ())) /\ xs.all Zbh = true)) := by
  refine ZbL (fun m a => ∃ i : Nat, a = (((), xs, L, (i : Int), ()), ((L, ()), (), ())) /\ i <= xs.length /\ (xs.take i).all Zbh = true /\ m = xs.length - i) _ ?_ (n := xs.length) ⟨0, rfl, Nat.zero_le _, rfl, rfl⟩
  rintro m a ⟨i, rfl, g1, g2, rfl⟩
  unfold ZcT
  by_cases hi : i < xs.length
  ·have hr := ZmG (hx _ (List.getElem_mem hi))
   cases hb : Zbh xs[i]
   ·right
    rw [hb] at hr
    refine ⟨_, Zak (dT (by dsimp only; omega)) (Zab (Zay hi) (Zab hr (Zak rfl rfl))), .inl ⟨rfl, ?_⟩⟩
    cases ha : xs.all Zbh
    ·rfl
    ·have := List.all_eq_true.1 ha _ (List.getElem_mem hi)
     rw [hb] at this; cases this
   ·left
    rw [hb] at hr
    refine ⟨xs.length - (i + 1), _, by omega, Zak (dT (by dsimp only; omega)) (Zab (Zay hi) (Zab hr (Zaj rfl rfl))), i + 1, ?_, by omega, ?_, rfl⟩
    ·dsimp only
     rw [w64 (by omega)]
     rfl
    ·rw [List.take_succ_eq_append_getElem hi, List.all_append, g2]
     simp [hb]
  ·right
   obtain rfl : i = xs.length := by omega
   rw [List.take_length] at g2
   exact ⟨_, Zaj (dF (by dsimp only; omega)) rfl, .inr ⟨rfl, g2⟩⟩
 unfold Zbn ZnA
 obtain ⟨z, hz, ⟨rfl, ha⟩ | ⟨rfl, ha⟩⟩ := key
 ·rw [ha, if_neg Bool.false_ne_true]
  exact Zab hz rfl
 ·rw [ha, if_pos rfl]
  refine Zab hz ?_
  refine Zab (v := (((), ZcX xs L, ()), ((L, ()), (), (), (), ()))) ?_ ?_
  ·have hrun := Zc4 (step := Zbg) (fun i : Nat => if i = 0 then .inl (((), xs, L, 0, ()), ((L, ()), (), ())) else .inr (((), xs, ZcX (xs.take i) L, (i : Int), ()), ((L, ()), (), (), ()))) (N := xs.length) (b := (((), ZcX xs L, ()), ((L, ()), (), (), (), ()))) (fun i hi => ?_) ?_
   ·exact hrun
   ·have h1 := ZkE (xs.take i) L
    rw [List.length_take] at h1
    have hp := ZCI (x := xs[i]) (L := ZcX (xs.take i) L) (Ziz (xs.take i) hs) (by omega)
    rw [if_neg (by omega : ¬ i + 1 = 0), List.take_succ_eq_append_getElem hi, Zli]
    by_cases hi0 : i = 0
    ·subst hi0
     rw [if_pos rfl]
     unfold Zbg
     dsimp only
     unfold ZfB
     exact Zak (dT (by dsimp only; omega)) (Zab (Zay (i := 0) hi) (Zab hp rfl))
    ·rw [if_neg hi0]
     unfold Zbg
     dsimp only
     unfold ZdI
     refine Zak (dT (by dsimp only; omega)) (Zab (Zay hi) (Zab hp ?_))
     dsimp only
     rw [w64 (by omega)]
     rfl
   ·rw [if_neg (by omega), List.take_length]
    unfold Zbg
    dsimp only
    unfold ZdI
    exact Zaj (dF (by dsimp only; omega)) rfl
  ·by_cases hc : 400 < (ZcX xs L).length
   ·rw [if_pos hc]
    exact Zak (dT (by dsimp only; omega)) rfl
   ·rw [if_neg hc]
    exact Zaj (dF (by dsimp only; omega)) rfl
theorem ZBx {L : List Zae} (h : Zjn L) : Zds (L.length, true, ()) (L, ()) L = some (true, ((L.length, true, ()), (L, ()), L, (), (), ())) := by
 unfold Zds
 refine Zab Zx2 (Zak (dT rfl) (Zab (ZCy h.1 h.2.1 h.2.2 ZBs) ?_))
 have hl := h.2.1
 rw [Zx1 h.2.2]
 refine Zab (Zeq (by dsimp only; omega)) ?_
 dsimp only
 rw [decide_eq_true rfl]
theorem Zx8 {x : Zae} {l : List Zae} (hs : srt l) (h : ∀ r ∈ l, r.key < x.key) : Znh x l = l ++ [x] := by
 rw [ZoM hs, List.filter_eq_self.2 (fun r hr => by simpa using h r hr), List.filter_eq_nil_iff.2 (fun r hr => by simpa using ZzM (h r hr)), List.append_nil]
theorem Zv6 {x : Zae} {l : List Zae} (hs : srt l) (h : ∀ r ∈ l, x.key < r.key) : Znh x l = x :: l := by
 rw [ZoM hs, List.filter_eq_nil_iff.2 (fun r hr => by simpa using ZzM (h r hr)), List.filter_eq_self.2 (fun r hr => by simpa using h r hr)]
 rfl
theorem ZBy {x : Zae} {l : List Zae} (hs : srt l) (h : x ∈ l) : Znh x l = l := by
 obtain ⟨l1, l2, rfl⟩ := List.append_of_mem h
 have h1 := List.pairwise_append.1 hs
 have h2 := List.pairwise_cons.1 h1.2.1
 have a1 : ∀ r ∈ l1, r.key < x.key := fun r hr => h1.2.2 r hr x List.mem_cons_self
 rw [ZoM hs, List.filter_append, List.filter_append, List.filter_cons_of_neg (by simp), List.filter_cons_of_neg (by simp), List.filter_eq_self.2 (fun r hr => by simpa using a1 r hr), List.filter_eq_nil_iff.2 (fun r hr => by simpa using ZzM (h2.1 r hr)), List.filter_eq_nil_iff.2 (fun r hr => by simpa using ZzM (a1 r hr)), List.filter_eq_self.2 (fun r hr => by simpa using h2.1 r hr)]
 simp
theorem Zlj : ∀ (xs l : List Zae), srt (l ++ xs) -> ZcX xs l = l ++ xs
 | [], l, _ => by simp [ZcX]
 | x :: xs, l, h => by
  have h' : srt (l ++ [x] ++ xs) := by simpa using h
  have hl := List.pairwise_append.1 h
  show ZcX xs (Znh x l) = _
  rw [Zx8 hl.1 (fun r hr => hl.2.2 r hr x List.mem_cons_self), Zlj xs _ h']
  simp
theorem ZsZ : ∀ (xs l : List Zae), srt l -> (∀ x ∈ xs, x ∈ l) -> ZcX xs l = l
 | [], l, _, _ => rfl
 | x :: xs, l, hs, h => by
  show ZcX xs (Znh x l) = _
  rw [ZBy hs (h x List.mem_cons_self)]
  exact ZsZ xs l hs fun y hy => h y (List.mem_cons_of_mem _ hy)
def Zx9 (i : Nat) : Zae := ⟨[UInt8.ofNat (97 + i / 26 % 26), UInt8.ofNat (97 + i % 26), UInt8.ofNat (48 + i / 676)], []⟩
def ZfW (n : Nat) : List Zae := (List.range n).map Zx9
theorem Zu8 (n : Nat) : (ZfW n).length = n := by simp [ZfW]
theorem Zya (n : Nat) : ZfW (n + 1) = ZfW n ++ [Zx9 n] := by simp [ZfW, List.range_succ]
theorem ZBz {i j : Nat} (hij : i < j) (hj : j < 401) : (Zx9 i).key < (Zx9 j).key := by
 have u : ∀ {a b : Nat}, a < b -> b < 256 -> UInt8.ofNat a < UInt8.ofNat b := fun {a b} h1 h2 => by
  rw [UInt8.lt_iff_toNat_lt, UInt8.toNat_ofNat', UInt8.toNat_ofNat']
  simp only [Nat.reducePow]
  omega
 unfold Zx9
 dsimp only
 by_cases h : i / 26 = j / 26
 ·rw [h, List.cons_lt_cons_iff]
  refine .inr ⟨rfl, ?_⟩
  rw [List.cons_lt_cons_iff]
  exact .inl (u (by omega) (by omega))
 ·rw [List.cons_lt_cons_iff]
  exact .inl (u (by omega) (by omega))
theorem ZzW : srt (ZfW 401) := by
 unfold srt ZfW
 rw [List.pairwise_map]
 refine List.Pairwise.imp_of_mem (R := fun a b => a < b) (fun {a b} ha hb h => ?_) List.pairwise_lt_range
 exact ZBz h (List.mem_range.1 hb)
theorem ZpV {r : Zae} (h : r ∈ ZfW 401) : Zbh r = true := by
 have : (ZfW 401).all Zbh = true := by decide +kernel
 exact List.all_eq_true.1 this r h
theorem Zub {r : Zae} (h : r ∈ ZfW 401) : OkT r.key /\ r.key.length = 3 /\ r.value = [] := by
 obtain ⟨i, _, rfl⟩ := List.mem_map.1 h
 exact ⟨by unfold OkT Zx9; simp, rfl, rfl⟩
theorem ZCJ : ∀ i : Fin 401, b8 (IntKind.u8.wrap (IntKind.i64.wrap (97 + (((IntKind.i64.wrap (((i.val : Nat) : Int).tdiv 26)) : Int).tmod 26)))) = some (UInt8.ofNat (97 + i.val / 26 % 26)) /\ b8 (IntKind.u8.wrap (IntKind.i64.wrap (97 + (((i.val : Nat) : Int).tmod 26)))) = some (UInt8.ofNat (97 + i.val % 26)) /\ b8 (IntKind.u8.wrap (IntKind.i64.wrap (48 + (IntKind.i64.wrap (((i.val : Nat) : Int).tdiv 676))))) = some (UInt8.ofNat (48 + i.val / 676)) := by
 decide +kernel
theorem Zyb : ZaP Za4 (([], 0, ()), ((), ())) = some ((ZfW 401, ()), ((), (), ())) := by
 have hrun := Zc4 (step := Za4) (fun i : Nat => ((ZfW i, (i : Int), ()), ((), ()))) (N := 401) (b := ((ZfW 401, ()), ((), (), ()))) (fun i hi => ?_) ?_
 ·exact hrun
 ·obtain ⟨h1, h2, h3⟩ := ZCJ ⟨i, hi⟩
  have hl := Zu8 i
  unfold Za4
  refine Zak (dT (by dsimp only; omega)) (Zab h1 (Zab h2 (Zab h3 (ZeK (by dsimp only; rw [hl]; simp only [List.length_singleton]; omega) ?_))))
  dsimp only
  rw [w64 (by omega), Zya]
  rfl
 ·unfold Za4
  exact Zaj (dF (by dsimp only; omega)) rfl
theorem Zlk {α : Type} {m : Nat} {ok : α -> Prop} {xs : List α} (h : xs.length <= 1000) (hm : m <= 1000) (ha : ∀ x ∈ xs, ok x) : OkL m ok xs := by
 refine ⟨by omega, ha, ?_⟩
 have := Nat.mul_le_mul h hm
 omega
theorem ZEa {n : Int} (h : -9223372036854775808 <= n /\ n <= 9223372036854775807) : Zqf n := by
 simpa [Zqf, InK, Lit.wf, IntKind.bits, IntKind.signed, IntKind.min, IntKind.max] using h
def few (t : Tx) : Prop := t.length <= 21
theorem few.ok {t : Tx} (h : few t) : Zdh t := by unfold few at h; unfold Zdh; omega
theorem okR {k v : Tx} (h1 : few k) (h2 : few v) : Ztx ⟨k, v⟩ := ⟨h1.ok, h2.ok, trivial⟩
theorem okD {n : Int} {l : List Zae} {s : Za5} (h : -9223372036854775808 <= n /\ n <= 9223372036854775807) (hl : l.length <= 1000) (ha : ∀ r ∈ l, Ztx r) (h1 : few s.lo) (h2 : few s.hi) : Zqg ⟨n, l, s⟩ := ⟨ZEa h, Zlk hl (by omega) ha, ⟨h1.ok, h2.ok, trivial⟩, trivial⟩
theorem Zyc {odd : List Tx} {spans : List Za5} (ho : ∀ t ∈ odd, few t) (hs : ∀ s ∈ spans, few s.lo /\ few s.hi) (hol : odd.length <= 100) (hsl : 0 < spans.length) (hsm : spans.length <= 100) {i : Nat} (hi : i < odd.length) :
 ZaP Za2 ((odd, spans, (i : Int), 0, ()), ((), (), ())) = some (.inr ((odd, spans, (i : Int), ()), ((), (), (), (), ()))) := by
 have hrun := Zc4 (step := Za2) (fun k : Nat => ((odd, spans, (i : Int), (k : Int), ()), ((), (), ()))) (N := odd.length) (b := .inr ((odd, spans, (i : Int), ()), ((), (), (), (), ()))) (fun k hk => ?_) ?_
 ·exact hrun
 ·have fi : few odd[i] := ho _ (List.getElem_mem hi)
  have fk : few odd[k] := ho _ (List.getElem_mem hk)
  have hm : (i + k) % spans.length < spans.length := Nat.mod_lt _ hsl
  have fs := hs _ (List.getElem_mem hm)
  have hidx : ((IntKind.i64.wrap ((i : Int) + (k : Int)) : Int).tmod (spans.length : Int)) = (((i + k) % spans.length : Nat) : Int) := by
   rw [w64 (by omega), Int.tmod_eq_emod_of_nonneg (by omega)]
   push_cast
   rfl
  have f0 : ∀ t : Tx, t.length <= 2 -> few t := fun t h => by unfold few; omega
  have e0 : ∀ (n : Int) (s : Za5), (-9223372036854775808 <= n /\ n <= 9223372036854775807) -> few s.lo -> few s.hi -> Zqg ⟨n, [], s⟩ := fun n s h h1 h2 => okD h (by simp) (by simp) h1 h2
  unfold Za2
  refine Zak (dT (by dsimp only; omega)) (Zab (Zay hi) (Zab (Zay hk) (Zwb (by dsimp only; omega) (Zab (v := spans[(i + k) % spans.length]) ?_ (Zab (Zay hi) (Zab (Zay hk) (Zab (Zay hk) (Zab (Zay hi) (Zab (Zv5 _ _ _ _ ?_ ?_ ?_ ?_) (Zaj rfl (Zab (Zay hi) (Zab (Zay hk) (Zab (ZoQ _ _ ?_ ?_) (Zaj rfl ?_))))))))))))))
  ·dsimp only
   rw [hidx]
   exact Zay hm
  ·refine Zlk (by simp) (by omega) fun x hx => ?_
   simp only [List.mem_cons, List.not_mem_nil, or_false] at hx
   rcases hx with rfl | rfl | rfl | rfl
   ·refine okD (by omega) (by simp) (fun r hr => ?_) (f0 _ (by simp)) (f0 _ (by simp))
    simp only [List.mem_cons, List.not_mem_nil, or_false] at hr
    rcases hr with rfl | rfl | rfl | rfl <;> exact okR (f0 _ (by simp)) (f0 _ (by simp))
   ·refine okD (by omega) (by simp) (fun r hr => ?_) (f0 _ (by simp)) (f0 _ (by simp))
    simp only [List.mem_cons, List.not_mem_nil, or_false] at hr
    rcases hr with rfl | rfl
    ·exact okR (f0 _ (by simp)) (f0 _ (by simp))
    ·exact okR fi fk
   ·exact e0 _ _ (by omega) fs.1 fs.2
   ·exact e0 _ _ (by omega) fi fk
  ·exact ZEa (by dsimp only; omega)
  ·refine Zlk (by simp) (by omega) fun x hx => ?_
   rw [List.mem_singleton.1 hx]
   exact e0 _ _ (by omega) fk fi
  ·exact Zlk (by dsimp only; omega) (by omega) fun t ht => (ho t ht).ok
  ·refine Zlk (by simp) (by omega) fun x hx => ?_
   rw [List.mem_singleton.1 hx]
   exact okR fi fk
  ·exact Zlk (by simp) (by omega) (by simp)
  ·dsimp only
   rw [w64 (by omega)]
   rfl
 ·unfold Za2
  exact Zaj (dF (by dsimp only; omega)) rfl
theorem Zv7 {odd : List Tx} {spans : List Za5} (ho : ∀ t ∈ odd, few t) (hs : ∀ s ∈ spans, few s.lo /\ few s.hi) (hol : odd.length <= 100) (hsl : 0 < spans.length) (hsm : spans.length <= 100) :
 ZaP Za3 ((odd, spans, 0, ()), ((), (), ())) = some (.inr ((), ((), (), ()))) := by
 have hrun := Zc4 (step := Za3) (fun i : Nat => ((odd, spans, (i : Int), ()), ((), (), ()))) (N := odd.length) (b := .inr ((), ((), (), ()))) (fun i hi => ?_) ?_
 ·exact hrun
 ·unfold Za3
  refine Zak (dT (by dsimp only; omega)) (Zab (Zyc ho hs hol hsl hsm hi) ?_)
  dsimp only
  rw [w64 (by omega)]
  rfl
 ·unfold Za3
  exact Zaj (dF (by dsimp only; omega)) rfl
theorem ZCK : ∀ l : List Zae, (∀ r ∈ l, r.key.length < 8 /\ r.value.length < 8) -> wgt l = l.length
 | [], _ => rfl
 | r :: l, h => by
  have h1 := h r List.mem_cons_self
  simp only [wgt, List.length_cons, ZCK l fun x hx => h x (List.mem_cons_of_mem _ hx)]
  omega
theorem Zv8 : Zd4 = some (true, ()) := by
 have hlen : (ZfW 401).length = 401 := Zu8 401
 have hdrop : ((ZfW 401).drop 1).length = 400 := by rw [List.length_drop, hlen]
 have hcons : ZfW 401 = Zx9 0 :: (ZfW 401).drop 1 := rfl
 have hS : srt (ZfW 401) := ZzW
 have hS1 : srt ((ZfW 401).drop 1) := hS.sublist (List.drop_sublist _ _)
 have hk : ∀ x ∈ ZfW 401, OkT x.key := fun x hx => (Zub hx).1
 have hsub : ∀ {x}, x ∈ (ZfW 401).drop 1 -> x ∈ ZfW 401 := fun h => List.mem_of_mem_drop h
 have hT : Zjn ((ZfW 401).drop 1) := ⟨hS1, by omega, fun r hr => ZpV (hsub hr)⟩
 have all_ : ∀ {xs : List Zae}, (∀ x ∈ xs, x ∈ ZfW 401) -> xs.all Zbh = true := fun h => List.all_eq_true.2 fun x hx => ZpV (h x hx)
 have p1 : ZnA (ZfW 401) [] = (8, []) := by
  unfold ZnA
  rw [if_pos (all_ fun x hx => hx), Zlj (ZfW 401) [] hS, if_pos (by rw [List.nil_append, hlen]; omega)]
 have p2 : ZnA ((ZfW 401).drop 1) [] = (0, (ZfW 401).drop 1) := by
  unfold ZnA
  rw [if_pos (all_ fun x hx => hsub hx), Zlj ((ZfW 401).drop 1) [] hS1, if_neg (by rw [List.nil_append, hdrop]; omega), List.nil_append]
 have p3 : ZnA ((ZfW 401).take 1) ((ZfW 401).drop 1) = (8, (ZfW 401).drop 1) := by
  have h1 : (ZfW 401).take 1 = [Zx9 0] := rfl
  have hfirst : ∀ r ∈ (ZfW 401).drop 1, (Zx9 0).key < r.key := by
   rw [hcons] at hS
   exact (List.pairwise_cons.1 hS).1
  unfold ZnA
  rw [if_pos (all_ fun x hx => List.mem_of_mem_take hx), h1]
  have : ZcX [Zx9 0] ((ZfW 401).drop 1) = Zx9 0 :: (ZfW 401).drop 1 := Zv6 hS1 hfirst
  rw [this, if_pos (by rw [List.length_cons, hdrop]; omega)]
 have p4 : ZnA (((ZfW 401).drop 5).take 4) ((ZfW 401).drop 1) = (0, (ZfW 401).drop 1) := by
  have hin : ∀ x ∈ ((ZfW 401).drop 5).take 4, x ∈ (ZfW 401).drop 1 := fun x hx => by
   have h5 : (ZfW 401).drop 5 = ((ZfW 401).drop 1).drop 4 := by rw [List.drop_drop]
   have := List.mem_of_mem_take hx
   rw [h5] at this
   exact List.mem_of_mem_drop this
  unfold ZnA
  rw [if_pos (all_ fun x hx => hsub (hin x hx)), ZsZ _ _ hS1 hin, if_neg (by rw [hdrop]; omega)]
 have q1 := Zv1 (xs := ZfW 401) (l := []) List.Pairwise.nil (by simp) hk (by omega)
 have q2 := Zv1 (xs := (ZfW 401).drop 1) (l := []) List.Pairwise.nil (by simp) (fun x hx => hk x (hsub hx)) (by omega)
 have q3 := Zv1 (xs := (ZfW 401).take 1) hS1 (by omega) (fun x hx => hk x (List.mem_of_mem_take hx)) (by rw [List.length_take]; omega)
 have q4 := Zv1 (xs := ((ZfW 401).drop 5).take 4) hS1 (by omega) (fun x hx => hk x (List.mem_of_mem_drop (List.mem_of_mem_take hx))) (by rw [List.length_take, List.length_drop]; omega)
 have r1 := Zl7 (xs := ZfW 401) (L := []) List.Pairwise.nil (by simp) hk (by omega) (by omega)
 have r2 := Zl7 (xs := (ZfW 401).drop 1) (L := []) List.Pairwise.nil (by simp) (fun x hx => hk x (hsub hx)) (by omega) (by omega)
 have r3 := Zl7 (xs := (ZfW 401).take 1) hS1 (by omega) (fun x hx => hk x (List.mem_of_mem_take hx)) (by rw [List.length_take]; omega) (by rw [List.length_take]; omega)
 have r4 := Zl7 (xs := ((ZfW 401).drop 5).take 4) hS1 (by omega) (fun x hx => hk x (List.mem_of_mem_drop (List.mem_of_mem_take hx))) (by rw [List.length_take, List.length_drop]; omega) (by rw [List.length_take, List.length_drop]; omega)
 rw [p1] at q1 r1
 rw [p2] at q2 r2
 rw [p3] at q3 r3
 rw [p4] at q4 r4
 have hdl : ((ZfW 401).drop 1).take 400 = (ZfW 401).drop 1 := List.take_of_length_le (by omega)
 generalize hG : (ZfW 401).drop 1 = G at *
 unfold Zd4
 refine ZeK (by simp) (ZeK (by simp) (Zab (Zv7 ?_ ?_ (by simp) (by simp) (by simp)) (Zab Zyb (Zab rfl (Zab q1 (Zab r1 (Zaj rfl ?_)))))))
 ·intro t ht
  simp only [List.mem_cons, List.not_mem_nil, or_false] at ht
  unfold few
  rcases ht with rfl | rfl | rfl | rfl | rfl | rfl | rfl | rfl | rfl | rfl | rfl | rfl <;> simp
 ·intro s hs
  simp only [List.mem_cons, List.not_mem_nil, or_false] at hs
  unfold few
  rcases hs with rfl | rfl | rfl | rfl | rfl | rfl | rfl | rfl | rfl | rfl <;> simp
 dsimp only
 rw [hlen]
 refine ZeK (by omega) (ZeK (by omega) ?_)
 have e1 : ((401 : Nat) : Int).toNat - (1 : Int).toNat = 400 := rfl
 have e2 : (9 : Int).toNat - (5 : Int).toNat = 4 := rfl
 have e3 : (1 : Int).toNat - (0 : Int).toNat = 1 := rfl
 have e4 : (5 : Int).toNat = 5 := rfl
 have e5 : (0 : Int).toNat = 0 := rfl
 have e6 : (1 : Int).toNat = 1 := rfl
 rw [e1, e2, e3, e4, e5, e6, List.drop_zero, hG, hdl]
 refine Zab q2 (Zab r2 (Zaj rfl (ZeK (by omega) (ZeK (by omega) ?_))))
 refine Zab q3 (Zab r3 (Zaj rfl (ZeK (by omega) (ZeK (by omega) ?_))))
 refine Zab q4 (Zab r4 (Zaj rfl ?_))
 refine Zab (ZBx hT) (Zaj rfl (Zab Zx2 (Zaj (dF ?_) ?_)))
 ·dsimp only
  rw [hdrop]
  simp
 refine Zab (v := (([], false, ()), ())) rfl (Zak rfl ?_)
 refine Zab (v := ((), ())) rfl (Zab (v := ((), ((0, false, ()), (), [], ()))) rfl (Zab (v := (0, ())) rfl (Zab (v := (0, ((0, false, ()), [], ()))) rfl (Zab (v := ((), ())) rfl (Zab (v := ([], ((0, false, ()), (), (), [], ()))) rfl (Zak rfl ?_))))))
 refine Zab (v := (1, ())) rfl (Zak rfl (Zab (v := (1, ((0, false, ()), (), [], ()))) rfl (Zak rfl (ZeK ?_ ?_))))
 ·dsimp only
  rw [hdrop]
  simp
 have hw : wgt (G ++ [⟨[122, 122, 122, 122], []⟩]) = 401 := by
  rw [ZCK, List.length_append, hdrop]
  ·rfl
  ·intro r hr
   rcases List.mem_append.1 hr with hr | hr
   ·have := Zub (hsub hr)
    rw [this.2.1, this.2.2]; simp
   ·rw [List.mem_singleton.1 hr]; simp
 refine Zab (ZpS (by rw [hw]; omega)) (Zab (ZoQ _ _ ?_ ?_) (Zak rfl (Zab Zkn rfl)))
 ·exact Zlk (by dsimp only; omega) (by omega) fun r hr => by
   have := Zub (hsub hr)
   exact ⟨by unfold Zdh; omega, by rw [this.2.2]; unfold Zdh; simp, trivial⟩
 ·have h1 := Zl5 (G ++ [⟨[122, 122, 122, 122], []⟩]) (by rw [hw]; omega)
  have h2 := Zc7 (n := (G ++ [(⟨[122, 122, 122, 122], []⟩ : Zae)]).length) (by rw [List.length_append, hdrop]; simp)
  rw [hw] at h1
  refine ⟨?_, fun _ _ => trivial, ?_⟩ <;> (dsimp only; unfold Zk2; rw [List.length_append]; omega)
end Go.Proofs.YtlmmpfbdgiokmaaGreat
