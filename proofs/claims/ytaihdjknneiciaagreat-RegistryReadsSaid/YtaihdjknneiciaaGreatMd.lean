/- XSc1, XSc2, XBkt, XPnr, XSdw, XWdr, XVwr, XAwr, XRdr, XWxr, XRxr, XBxr in one. -/
import Derived.Test.YtaihdjknneiciaaGreatMc
import Derived.Test.YtaihdjknneiciaaGreatG2
import Derived.Test.YtaihdjknneiciaaGreatPl
import Derived.Test.YtaihdjknneiciaaGreatTb
import Derived.Laws.BitsAllLaws
import Derived.Test.YtaihdjknneiciaaGreatG1
namespace Go.Proofs.YtaihdjknneiciaaGreat
open Go.RowKit
set_option maxRecDepth 100000
set_option linter.unusedVariables false
set_option linter.unusedSimpArgs false
theorem Zsf (x : List UInt8) (v : Int) (hx : x.length <= 1000) : Zc1 x v = some (x.any (fun e => decide (v = (e.toNat : Int))), ()) := by
 have key : ∃ b, Zas Zeq ((x, v, (x.length : Int), 0, ()), ()) = some b /\ ((∃ i : Nat, b = .inl (((i : Int), ()), ()) /\ x.any (fun e => decide (v = (e.toNat : Int))) = true) \/ (b = .inr ((), ()) /\ x.any (fun e => decide (v = (e.toNat : Int))) = false)) := by
  refine Zbx (fun n a => ∃ i : Nat, a = ((x, v, (x.length : Int), (i : Int), ()), ()) /\ i <= x.length /\ (x.drop i).any (fun e => decide (v = (e.toNat : Int))) = x.any (fun e => decide (v = (e.toNat : Int))) /\ n = x.length - i) _ ?_ (n := x.length) ⟨0, rfl, Nat.zero_le _, rfl, rfl⟩
  rintro n a ⟨i, rfl, h1, he, rfl⟩
  unfold Zeq
  by_cases hi : i < x.length
  ·rw [List.drop_eq_getElem_cons hi, List.any_cons] at he
   by_cases hr : v = (x[i].toNat : Int)
   ·right
    exact ⟨_, Zag (dT (by (try dsimp only); omega)) (Zaa (ZaE hi) (Zag (dT hr) rfl)), .inl ⟨i, rfl, by rw [<- he, decide_eq_true hr]; rfl⟩⟩
   ·left
    refine ⟨x.length - (i + 1), _, by omega, Zag (dT (by (try dsimp only); omega)) (Zaa (ZaE hi) (Zab (dF hr) rfl)), i + 1, ?_, by omega, by rw [decide_eq_false hr, Bool.false_or] at he; exact he, rfl⟩
    dsimp only
    rw [w64 (by omega)]; rfl
  ·right
   obtain rfl : i = x.length := by omega
   exact ⟨_, Zab (dF (by (try dsimp only); omega)) rfl, .inr ⟨rfl, by rw [<- he, List.drop_length]; rfl⟩⟩
 obtain ⟨b, h1, h2⟩ := key
 unfold Zc1 ZjT
 rcases h2 with ⟨i, rfl, h2⟩ | ⟨rfl, h2⟩
 ·rw [h2]
  refine Zaa (Zaa h1 rfl) ?_
  dsimp only
  rw [dT (by omega)]
 ·rw [h2]
  exact Zaa (Zaa h1 rfl) rfl
def ZD8 (a b : Int) : Bool := ((lkp Ze0 a).getD []).any fun e => decide (b = (e.toNat : Int))
theorem ZD9 (a : Int) : ((lkp Ze0 a).getD []).length <= 2 := by
 have : ∀ (tb : List (Int × List UInt8)), (∀ p ∈ tb, p.2.length <= 2) -> ((lkp tb a).getD []).length <= 2 := fun tb => by
  induction tb with
  | nil => intro _; simp [lkp]
  | cons p l ih =>
   intro h
   unfold lkp
   by_cases hp : a = p.1
   ·rw [decide_eq_true hp]; exact h p List.mem_cons_self
   ·rw [decide_eq_false hp]; exact ih fun q hq => h q (List.mem_cons_of_mem _ hq)
 exact this _ (by decide)
theorem ZBn (a b : Int) : ZiQ a b = some (ZD8 a b, ()) := by
 unfold ZiQ Zmz
 have := ZD9 a
 exact Zaa rfl (Zaa (Zsf _ _ (by (try dsimp only); omega)) rfl)
theorem ZwO (n lo hi : Int) : ZaL n lo hi = some (decide (lo <= n) && decide (n <= hi), ()) := by
 unfold ZaL
 by_cases h : lo <= n
 ·rw [dT h]; rfl
 ·rw [dF h]; rfl
def Zsg (st : Int) : Bool := decide (4 <= st) && decide (st <= 6)
theorem ZCA (w : Zlu) : Zgd w = some (Zsg w.scheme.stage, ()) := by
 unfold Zgd
 refine Zaa (v := 4) (by decide) (Zaa (v := 5) (by decide) (Zaa (v := 6) (by decide) (Zaa (Zsf _ _ (by simp)) ?_)))
 dsimp only
 congr 2
 unfold Zsg
 simp only [List.any_cons, List.any_nil, Bool.or_false]
 rw [Bool.eq_iff_iff]
 simp only [Bool.or_eq_true, Bool.and_eq_true, decide_eq_true_eq]
 have e4 : ((4 : UInt8).toNat : Int) = 4 := rfl
 have e5 : ((5 : UInt8).toNat : Int) = 5 := rfl
 have e6 : ((6 : UInt8).toNat : Int) = 6 := rfl
 omega
def Zbu (x : Zak) : Bool :=
 (decide (1 <= x.num) && decide (x.num <= 1073741824)) && (Za1 x.span && ((decide (1 <= x.from_) && decide (x.from_ <= 4)) && ((decide (1 <= x.to_) && decide (x.to_ <= 4)) && (!decide (x.from_ = x.to_) && ((decide (1 <= x.epoch) && decide (x.epoch <= 1073741824)) && ((decide (1 <= x.stage) && decide (x.stage <= 9)) && (if Zsg x.stage = true then decide (IntKind.i64.wrap (x.epoch + 1) <= x.under) && decide (x.under <= 1073741824) else decide (x.under = 0))))))))
theorem ZEa (st : Int) : (lkp Ze0 st).isSome = (decide (1 <= st) && decide (st <= 9)) := by
 have : (lkp Ze0 st).isSome = (decide (st = 1) || (decide (st = 2) || (decide (st = 3) || (decide (st = 4) || (decide (st = 5) || (decide (st = 7) || (decide (st = 8) || (decide (st = 6) || (decide (st = 9) || false))))))))) := by
  unfold Ze0
  simp only [lkp]
  cases decide (st = 1) <;> cases decide (st = 2) <;> cases decide (st = 3) <;> cases decide (st = 4) <;> cases decide (st = 5) <;> cases decide (st = 7) <;> cases decide (st = 8) <;> cases decide (st = 6) <;> cases decide (st = 9) <;> rfl
 rw [this, Bool.eq_iff_iff]
 simp only [Bool.or_eq_true, Bool.and_eq_true, decide_eq_true_eq, Bool.false_eq_true, or_false]
 omega
theorem Zql {x : Zak} (hx : ZlH x.span) : ZfE ⟨x⟩ = some (Zbu x, ()) := by
 unfold ZfE Zmz
 rw [Option.bind_some, ZCA, Option.bind_some]
 simp only [ZwO, ZgW hx, Option.bind_some, ZEa]
 unfold Zbu
 have hne : decide (x.from_ ≠ x.to_) = !decide (x.from_ = x.to_) := by simp
 rw [hne]
 generalize hu : Zsg x.stage = tu
 cases tu
 ·simp only [cond_false, Bool.false_eq_true, if_false]
  cases (decide (1 <= x.from_) && decide (x.from_ <= 4)) <;> cases (decide (1 <= x.to_) && decide (x.to_ <= 4)) <;> cases (decide (1 <= x.num) && decide (x.num <= 1073741824)) <;> cases Za1 x.span <;> cases decide (x.from_ = x.to_) <;> cases (decide (1 <= x.epoch) && decide (x.epoch <= 1073741824)) <;> cases (decide (1 <= x.stage) && decide (x.stage <= 9)) <;> rfl
 ·simp only [cond_true, if_true]
  cases (decide (1 <= x.from_) && decide (x.from_ <= 4)) <;> cases (decide (1 <= x.to_) && decide (x.to_ <= 4)) <;> cases (decide (1 <= x.num) && decide (x.num <= 1073741824)) <;> cases Za1 x.span <;> cases decide (x.from_ = x.to_) <;> cases (decide (1 <= x.epoch) && decide (x.epoch <= 1073741824)) <;> cases (decide (1 <= x.stage) && decide (x.stage <= 9)) <;> rfl
theorem ZyX (x : Zak) : ZgL x = some (decide (x.stage = 6) || decide (x.stage = 9), ()) := by
 unfold ZgL
 cases decide (x.stage = 6) <;> rfl
theorem Zov {l : List Zaf} (h : l.length <= 1000) : ZiN l = some (l, ((), ())) := by
 unfold ZiN
 exact Zbk (by omega) rfl
theorem ZEb {s : Zai} (h : ZyU s) : Zh1 s = some (s, ()) := by
 unfold Zh1
 exact Zaa (Zov h.len) rfl
def Ziw : Zak := ⟨0, ⟨[], []⟩, 0, 0, 0, 0, 0⟩
end Go.Proofs.YtaihdjknneiciaaGreat
namespace Go.Proofs.YtaihdjknneiciaaGreat
open Go.RowKit
set_option maxRecDepth 100000
set_option linter.unusedVariables false
set_option linter.unusedSimpArgs false
section
variable {x : Zak} {s : Zai} {st : Int} (hx : ZlH x.span) (hs : ZyU s)
include hx hs
variable (h1 : Zbu x = true) (h2 : Za2 s = true)
include h1 h2
theorem Zu4 (h : x.stage ≠ st) (hg : ZD8 x.stage st = true) (h4 : st ≠ 4) : ZcF x s st = some ((⟨x.num, x.span, x.from_, x.to_, x.epoch, x.under, st⟩, s, 0, ()), ()) := by
 unfold ZcF
 exact Zaa (Zql hx) (Zab (by rw [h1]; rfl) (Zaa (Znx hs) (Zab (by rw [h2]; rfl) (Zab (dF h) (Zaa (ZBn _ _) (Zab (by rw [hg]; rfl) (Zaa (ZEb hs) (Zab (dF h4) rfl))))))))
theorem ZBo (h : x.stage ≠ 4) (hg : ZD8 x.stage 4 = true) {t : Zai} {e : Int} (ht : Ze4 s x.span x.to_ = some ((t, e, ()), ())) (he : e ≠ 0 -> t = ⟨0, []⟩) :
 ∃ y t' e', ZcF x s 4 = some ((y, t', e', ()), ()) /\ (e' = 0 -> e = 0 /\ t' = t /\ y = ⟨x.num, x.span, x.from_, x.to_, x.epoch, t.epoch, 4⟩) /\
  ∀ z, e = 0 -> Zou s (fun q => ZcJ x.span q.span) = some z -> z.group = x.from_ -> z.epoch = x.epoch -> e' = 0 := by
 have hin := ZGV hs hx
 have key : ∃ w t' e', ZiR s ⟨x⟩ = some ((t', e', ()), (w, ())) /\ (e' = 0 -> e = 0 /\ t' = t /\ w = ⟨⟨x.num, x.span, x.from_, x.to_, x.epoch, t.epoch, x.stage⟩⟩) /\
  ∀ z, e = 0 -> Zou s (fun q => ZcJ x.span q.span) = some z -> z.group = x.from_ -> z.epoch = x.epoch -> e' = 0 := by
  unfold ZiR
  by_cases h0 : e = 0
  ·subst h0
   by_cases g1 : ((Zou s fun q => ZcJ x.span q.span).getD ZD5).group = x.from_
   ·by_cases g2 : ((Zou s fun q => ZcJ x.span q.span).getD ZD5).epoch = x.epoch
    ·exact ⟨_, _, _, Zaa ht (Zab rfl (Zaa hin (Zab (by simpa using g1) (Zab (by simpa using g2) rfl)))), fun _ => ⟨rfl, rfl, rfl⟩, fun z _ _ _ _ => rfl⟩
    ·refine ⟨_, _, _, Zaa ht (Zab rfl (Zaa hin (Zab (by simpa using g1) (Zag (by simpa using g2) rfl)))), fun h => (by cases h), fun z _ hz _ hz2 => ?_⟩
     rw [hz] at g2
     exact absurd hz2 g2
   ·refine ⟨_, _, _, Zaa ht (Zab rfl (Zaa hin (Zag (by simpa using g1) rfl))), fun h => (by cases h), fun z _ hz hz1 _ => ?_⟩
    rw [hz] at g1
    exact absurd hz1 g1
  ·exact ⟨_, _, _, Zaa ht (Zag (by simpa using h0) rfl), fun h => absurd h h0, fun z h => absurd h h0⟩
 obtain ⟨w, t', e', k1, k2, k3⟩ := key
 unfold ZcF
 by_cases he' : e' = 0
 ·obtain ⟨q1, q2, q3⟩ := k2 he'
  subst q3
  refine ⟨_, _, _, Zaa (Zql hx) (Zab (by rw [h1]; rfl) (Zaa (Znx hs) (Zab (by rw [h2]; rfl) (Zab (dF h) (Zaa (ZBn _ _) (Zab (by rw [hg]; rfl) (Zaa (ZEb hs) (Zag rfl (Zaa k1 (Zab (by simpa using he') rfl)))))))))), fun _ => ⟨q1, q2, rfl⟩, fun z _ _ _ _ => rfl⟩
 ·exact ⟨_, _, _, Zaa (Zql hx) (Zab (by rw [h1]; rfl) (Zaa (Znx hs) (Zab (by rw [h2]; rfl) (Zab (dF h) (Zaa (ZBn _ _) (Zab (by rw [hg]; rfl) (Zaa (ZEb hs) (Zag rfl (Zaa k1 (Zag (by simpa using he') rfl)))))))))), fun h => absurd h he', fun z g1 g2 g3 g4 => absurd (k3 z g1 g2 g3 g4) he'⟩
end
theorem Zow {x : Zak} : Zbu x = true ↔ (1 <= x.num /\ x.num <= 1073741824) /\ Za1 x.span = true /\ (1 <= x.from_ /\ x.from_ <= 4) /\ (1 <= x.to_ /\ x.to_ <= 4) /\ x.from_ ≠ x.to_ /\ (1 <= x.epoch /\ x.epoch <= 1073741824) /\ (1 <= x.stage /\ x.stage <= 9) /\ (if 4 <= x.stage /\ x.stage <= 6 then x.epoch + 1 <= x.under /\ x.under <= 1073741824 else x.under = 0) := by
 unfold Zbu Zsg
 simp only [Bool.and_eq_true, decide_eq_true_eq, Bool.not_eq_true', decide_eq_false_iff_not]
 constructor
 ·rintro ⟨a, b, c, d, e, f, g, h⟩
  refine ⟨a, b, c, d, e, f, g, ?_⟩
  rw [w64 (by omega)] at h
  split at h
  ·rename_i hh; rw [if_pos hh]; simpa using h
  ·rename_i hh; rw [if_neg hh]; simpa using h
 ·rintro ⟨a, b, c, d, e, f, g, h⟩
  refine ⟨a, b, c, d, e, f, g, ?_⟩
  rw [w64 (by omega)]
  split at h
  ·rename_i hh; rw [if_pos hh]; simpa using h
  ·rename_i hh; rw [if_neg hh]; simpa using h
end Go.Proofs.YtaihdjknneiciaaGreat
namespace Go.Proofs.YtaihdjknneiciaaGreat
open Go.RowKit
set_option maxRecDepth 100000
set_option linter.unusedVariables false
set_option linter.unusedSimpArgs false
theorem Zny {v : Zac} (h : v.reads.length <= 1000) : Zb2 v = some (v, ()) := by
 unfold Zb2 Zqh
 exact Zaa (Zbk (by omega) rfl) rfl
def ZbR (x : ZaZ) : Bool := !ZwM x.key || (decide (20 < x.value.length) || (!x.is && decide (x.value ≠ [])))
theorem ZCB {x : ZaZ} (hx : OkT x.key) : Zhn x = some (ZbR x, ()) := by
 unfold Zhn ZbR
 refine Zaa (ZCv hx) ?_
 dsimp only
 cases ZwM x.key with
 | false => rfl
 | true =>
  by_cases h : 20 < x.value.length
  ·refine Zab rfl (Zag (dT (by omega)) ?_)
   rw [dT h]; rfl
  ·refine Zab rfl (Zab (dF (by omega)) ?_)
   rw [dF h]
   cases x.is <;> rfl
theorem ZFk {xs : List ZaZ} (hx : ∀ x ∈ xs, OkT x.key) (hl : xs.length <= 140737488355328) : Zbt xs = some (xs.any ZbR, ()) := by
 have key : ∃ z, Zas Zb3 ((xs, (), (xs.length : Int), 0, ()), ()) = some z /\ ((xs.any ZbR = false /\ z = .inr ((), ())) \/ (xs.any ZbR = true /\ ∃ i : Nat, z = .inl (((i : Int), ()), ()))) := by
  refine Zbx (fun m a => ∃ i : Nat, a = ((xs, (), (xs.length : Int), (i : Int), ()), ()) /\ i <= xs.length /\ (xs.take i).any ZbR = false /\ m = xs.length - i) _ ?_ (n := xs.length) ⟨0, rfl, Nat.zero_le _, rfl, rfl⟩
  rintro m a ⟨i, rfl, h1, h2, rfl⟩
  unfold Zb3
  by_cases hi : i < xs.length
  ·have hp := ZCB (hx _ (List.getElem_mem hi))
   cases hr : ZbR xs[i] with
   | false =>
    left
    refine ⟨xs.length - (i + 1), _, by omega, Zag (dT (by (try dsimp only); omega)) (Zaa (ZaE hi) (Zaa hp (Zab hr rfl))), i + 1, ?_, by omega, ?_, rfl⟩
    ·dsimp only
     rw [w64 (by omega)]; rfl
    ·rw [List.take_succ_eq_append_getElem hi, List.any_append, h2]; simp [hr]
   | true =>
    right
    refine ⟨_, Zag (dT (by (try dsimp only); omega)) (Zaa (ZaE hi) (Zaa hp (Zag hr rfl))), .inr ⟨?_, i, rfl⟩⟩
    exact List.any_eq_true.2 ⟨_, List.getElem_mem hi, hr⟩
  ·right
   obtain rfl : i = xs.length := by omega
   rw [List.take_length] at h2
   exact ⟨_, Zab (dF (by (try dsimp only); omega)) rfl, .inl ⟨h2, rfl⟩⟩
 unfold Zbt ZeB
 obtain ⟨z, hz, ⟨h1, rfl⟩ | ⟨h1, i, rfl⟩⟩ := key
 ·rw [h1]
  exact Zaa (Zaa hz rfl) rfl
 ·rw [h1]
  refine Zaa (Zaa hz rfl) ?_
  dsimp only
  rw [dT (by omega)]
abbrev Nm := List ((Int × Int) × Int)
def nk (n : ZfX) : Int × Int := (n.client, n.num)
theorem Zsh (a b : Int × Int) : MK.eqb (.two .i64 .i64) a b = decide (a = b) := by
 obtain ⟨a1, a2⟩ := a
 obtain ⟨b1, b2⟩ := b
 show (decide (a1 = b1) && decide (a2 = b2)) = _
 by_cases h1 : a1 = b1 <;> by_cases h2 : a2 = b2 <;> simp [h1, h2]
theorem Zu5 (k j : Int × Int) (v : Int) : ∀ m : Nm, ZiI (.two .i64 .i64) (Zvl (.two .i64 .i64) m k v) j = if j = k then some v else ZiI (.two .i64 .i64) m j
 | [] => by
  show (bif MK.eqb (.two .i64 .i64) j k then some v else ZiI (.two .i64 .i64) ([] : Nm) j) = _
  rw [Zsh]
  by_cases h : j = k <;> simp [h, ZiI]
 | p :: m => by
  have ih := Zu5 k j v m
  show ZiI (.two .i64 .i64) (bif MK.eqb (.two .i64 .i64) k p.1 then (k, v) :: m else p :: Zvl (.two .i64 .i64) m k v) j = if j = k then some v else (bif MK.eqb (.two .i64 .i64) j p.1 then some p.2 else ZiI (.two .i64 .i64) m j)
  rw [Zsh, Zsh]
  by_cases h1 : k = p.1
  ·rw [decide_eq_true h1, cond_true]
   show (bif MK.eqb (.two .i64 .i64) j k then some v else ZiI (.two .i64 .i64) m j) = _
   rw [Zsh]
   by_cases h2 : j = k
   ·simp [h2]
   ·have : j ≠ p.1 := fun e => h2 (e.trans h1.symm)
    simp [h2, this]
  ·rw [decide_eq_false h1, cond_false]
   show (bif MK.eqb (.two .i64 .i64) j p.1 then some p.2 else ZiI (.two .i64 .i64) (Zvl (.two .i64 .i64) m k v) j) = _
   rw [Zsh, ih]
   by_cases h2 : j = p.1
   ·have : j ≠ k := fun e => h1 (e.symm.trans h2)
    simp [h2]
    intro e; exact absurd e.symm h1
   ·simp [h2]
structure Zjp (l : List Zac) (m : Nm) : Prop where
 at_ : ∀ (k : Nat) (h : k < l.length), ZiI (.two .i64 .i64) m (nk l[k].name) = some (k : Int)
 of_ : ∀ n i, ZiI (.two .i64 .i64) m n = some i -> ∃ (k : Nat) (h : k < l.length), i = (k : Int) /\ nk l[k].name = n
 few : ∀ v ∈ l, v.reads.length <= 20
theorem Zjp.nil : Zjp [] [] := ⟨fun k h => (by cases h), fun n i h => (by cases h), fun v h => (by cases h)⟩
def noV : Zac := ⟨⟨0, 0⟩, false, 0, []⟩
theorem ZFl {l : List Zac} {m : Nm} (h : Zjp l m) (n : ZfX) :
 (ZiI (.two .i64 .i64) m (nk n) = none /\ Zid n (l, (), ()) m = some ((noV, false, ()), ((l, (), ()), m, (), (), ()))) \/
 (∃ (k : Nat) (hk : k < l.length), nk l[k].name = nk n /\ Zid n (l, (), ()) m = some ((l[k], true, ()), ((l, (), ()), m, (), (), ()))) := by
 unfold Zid Zb1
 rw [Option.bind_some]
 dsimp only
 cases hg : ZiI (.two .i64 .i64) m (nk n) with
 | none => exact .inl ⟨rfl, Zab rfl (Zag (by show (!(ZiI (.two .i64 .i64) m (nk n)).isSome) = true; rw [hg]; rfl) rfl)⟩
 | some i =>
  obtain ⟨k, hk, rfl, hn⟩ := h.of_ _ _ hg
  refine .inr ⟨k, hk, hn, Zab rfl (Zab (by show (!(ZiI (.two .i64 .i64) m (nk n)).isSome) = false; rw [hg]; rfl) (Zaa (v := l[k]) ?_ (Zaa (Zny (by have := h.few _ (List.getElem_mem hk); omega)) rfl)))⟩
  show Zbs l ((ZiI (.two .i64 .i64) m (nk n)).getD 0) = _
  rw [hg]
  exact ZaE hk
theorem ZFm {l : List Zac} {m : Nm} (h : Zjp l m) (v : Zac) (hv : v.reads.length <= 20) (hl : l.length <= 1000000) (hn : ZiI (.two .i64 .i64) m (nk v.name) = none) :
 ZkW v (l, (), ()) m = some ((), ((l ++ [v], (), ()), Zvl (.two .i64 .i64) m (nk v.name) (l.length : Int), (), (), ())) /\ Zjp (l ++ [v]) (Zvl (.two .i64 .i64) m (nk v.name) (l.length : Int)) := by
 refine ⟨?_, ?_⟩
 ·unfold ZkW
  refine Zaa (Zny (by omega)) (Zbk ?_ rfl)
  dsimp only
  simp only [List.length_singleton]
  omega
 ·have hne : ∀ (k : Nat) (hk : k < l.length), nk l[k].name ≠ nk v.name := fun k hk e => by
   have := h.at_ k hk
   rw [e, hn] at this
   cases this
  refine ⟨fun k hk => ?_, fun n i hi => ?_, fun w hw => ?_⟩
  ·rw [Zu5]
   by_cases hkl : k < l.length
   ·rw [List.getElem_append_left hkl, if_neg (hne k hkl)]
    exact h.at_ k hkl
   ·rw [List.length_append, List.length_singleton] at hk
    obtain rfl : k = l.length := by omega
    simp
  ·rw [Zu5] at hi
   by_cases hnv : n = nk v.name
   ·rw [if_pos hnv] at hi
    injection hi with hi
    exact ⟨l.length, by simp, hi.symm, by simp [hnv]⟩
   ·rw [if_neg hnv] at hi
    obtain ⟨k, hk, e1, e2⟩ := h.of_ n i hi
    exact ⟨k, by rw [List.length_append]; omega, e1, by rw [List.getElem_append_left hk]; exact e2⟩
  ·rcases List.mem_append.1 hw with hw | hw
   ·exact h.few w hw
   ·rw [List.mem_singleton.1 hw]; exact hv
end Go.Proofs.YtaihdjknneiciaaGreat
namespace Go.Proofs.YtaihdjknneiciaaGreat
open Go.RowKit
set_option maxRecDepth 100000
set_option linter.unusedVariables false
set_option linter.unusedSimpArgs false
@[reducible] def plc (s : Zai) (u : Bool) (x : Zak) (n : Int) : (Unit) × (Int) × (List (Zaf)) × (Bool) × (Int) × (List UInt8) × (List UInt8) × (Int) × (Int) × (Int) × (Int) × (Int) × (Int) × Unit :=
 ((), s.epoch, s.list, u, x.num, x.span.lo, x.span.hi, x.from_, x.to_, x.epoch, x.under, x.stage, n, ())
structure ZGW (s : Zai) (u : Bool) (x : Zak) (n : Int) : Prop where
 sh : ZyU s
 rt : Za2 s = true
 sp : ZlH x.span
 rx : Za1 x.span = true
 lo : 0 <= n
 hi : n <= 1073741824
section
variable {s : Zai} {u : Bool} {x : Zak} {n : Int} (h : ZGW s u x n)
include h
end
end Go.Proofs.YtaihdjknneiciaaGreat
namespace Go.Proofs.YtaihdjknneiciaaGreat
open Go.RowKit
set_option maxRecDepth 100000
set_option linter.unusedVariables false
set_option linter.unusedSimpArgs false
theorem ZGX {n : Int} (h : 0 <= n /\ n < 256) : b8 n = some (UInt8.ofNat n.toNat) := by
 unfold b8 g8
 dsimp only
 rw [if_pos h]
 rfl
def Znz (n : Nat) : List UInt8 := if h : n < 128 then [UInt8.ofNat n] else UInt8.ofNat (n % 128 + 128) :: Znz (n / 128)
termination_by n
decreasing_by omega
theorem Zox {n : Nat} (h : n < 128) : Znz n = [UInt8.ofNat n] := by rw [Znz, dif_pos h]
theorem Zoy {n : Nat} (h : ¬ n < 128) : Znz n = UInt8.ofNat (n % 128 + 128) :: Znz (n / 128) := by rw [Znz, dif_neg h]
theorem ZCC (k : Nat) : ∀ n, n < 128 ^ (k + 1) -> (Znz n).length <= k + 1 := by
 induction k with
 | zero => intro n h; rw [Zox (by simpa using h)]; simp
 | succ k ih =>
  intro n h
  by_cases h1 : n < 128
  ·rw [Zox h1]; simp
  ·rw [Zoy h1, List.length_cons]
   have := ih (n / 128) (by rw [Nat.pow_succ] at h; omega)
   omega
theorem Zcy {n : Nat} (h : n <= 4611686018427387903) : (Znz n).length <= 9 := ZCC 8 n (by omega)
theorem ZyY (n : Nat) : 1 <= (Znz n).length := by
 by_cases h : n < 128
 ·rw [Zox h]; simp
 ·rw [Zoy h]; simp
theorem ZFn (m : Nat) (h : m < 128) : m ||| 128 = m + 128 := by
 have := Nat.two_pow_add_eq_or_of_lt (i := 7) (b := m) (by omega) 1
 rw [Nat.or_comm]
 simpa [Nat.add_comm] using this.symm
theorem ZhJ (w n : Nat) : BitVec.ofInt w (n : Int) = BitVec.ofNat w n := by
 apply BitVec.eq_of_toNat_eq
 simp
theorem ZBp (n : Nat) : b8 (IntKind.u8.wrap ((BitVec.ofInt (IntKind.u8.bits) (IntKind.u8.wrap (n : Int)) ||| BitVec.ofInt (IntKind.u8.bits) 128).toNat)) = some (UInt8.ofNat (n % 128 + 128)) := by
 have hb : IntKind.u8.bits = 8 := rfl
 have hw : IntKind.u8.wrap (n : Int) = ((n % 256 : Nat) : Int) := by rw [IntKind.wrap_u8]; omega
 have h8 : (BitVec.ofNat 8 (n % 256) ||| BitVec.ofNat 8 128).toNat = n % 128 + 128 := by
  rw [BitVec.toNat_or, BitVec.toNat_ofNat, BitVec.toNat_ofNat]
  have hs : n % 256 % 2 ^ 8 = n % 128 \/ n % 256 % 2 ^ 8 = n % 128 + 128 := by omega
  rw [show 128 % 2 ^ 8 = 128 from rfl]
  rcases hs with hs | hs
  ·rw [hs, ZFn _ (by omega)]
  ·rw [hs, <- ZFn _ (show n % 128 < 128 by omega), Nat.or_assoc, Nat.or_self]
 rw [hb, hw, ZhJ, show (128 : Int) = ((128 : Nat) : Int) from rfl, ZhJ, h8, IntKind.wrap_u8, ZGX (by omega)]
 congr 2
 omega
theorem Zx8 (n : Nat) : b8 (IntKind.u8.wrap (n : Int)) = some (UInt8.ofNat n) := by
 rw [IntKind.wrap_u8, ZGX (by omega)]
 congr 1
 apply UInt8.toNat_inj.1
 rw [UInt8.toNat_ofNat', UInt8.toNat_ofNat']
 omega
theorem ZGu (n : Nat) : (n : Int).fdiv (2 ^ min (7 : Int).toNat (IntKind.i64.bits)) = ((n / 128 : Nat) : Int) := by
 rw [show (2 : Int) ^ min (7 : Int).toNat (IntKind.i64.bits) = 128 from rfl, Int.fdiv_eq_ediv_of_nonneg _ (by omega)]
 rfl
theorem ZDi (n : Nat) (h : n <= 4611686018427387903) : IntKind.i64.wrap ((BitVec.ofInt (IntKind.i64.bits) (n : Int) &&& BitVec.ofInt (IntKind.i64.bits) 127).toNat) = ((n % 128 : Nat) : Int) := by
 have hb : IntKind.i64.bits = 64 := rfl
 have h8 : (BitVec.ofNat 64 n &&& BitVec.ofNat 64 127).toNat = n % 128 := by
  rw [BitVec.toNat_and, BitVec.toNat_ofNat, BitVec.toNat_ofNat, Nat.mod_eq_of_lt (show n < 2 ^ 64 by omega), show 127 % 2 ^ 64 = 2 ^ 7 - 1 from rfl, Nat.and_two_pow_sub_one_eq_mod]
 rw [hb, ZhJ, show (127 : Int) = ((127 : Nat) : Int) from rfl, ZhJ, h8, w64 (by omega)]
theorem ZBq (b : UInt8) (acc i : Nat) (hi : i <= 8) (ha : acc < 2 ^ (7 * i)) (s : Int) (hs : s.toNat = 7 * i) :
 (IntKind.i64.wrap ((BitVec.ofInt (IntKind.i64.bits) (acc : Int) ||| BitVec.ofInt (IntKind.i64.bits) (IntKind.i64.wrap ((IntKind.i64.wrap (IntKind.u8.wrap ((BitVec.ofInt (IntKind.u8.bits) (b.toNat : Int) &&& BitVec.ofInt (IntKind.u8.bits) 127).toNat))) * 2 ^ min s.toNat (IntKind.i64.bits)))).toNat)) = ((acc + b.toNat % 128 * 2 ^ (7 * i) : Nat) : Int) := by
 have hb : IntKind.i64.bits = 64 := rfl
 have hb8 : IntKind.u8.bits = 8 := rfl
 have hbl := b.toNat_lt
 have h8 : (BitVec.ofNat 8 b.toNat &&& BitVec.ofNat 8 127).toNat = b.toNat % 128 := by
  rw [BitVec.toNat_and, BitVec.toNat_ofNat, BitVec.toNat_ofNat, Nat.mod_eq_of_lt hbl, show 127 % 2 ^ 8 = 2 ^ 7 - 1 from rfl, Nat.and_two_pow_sub_one_eq_mod]
 have hp : (2 : Nat) ^ (7 * i) <= 2 ^ 56 := Nat.pow_le_pow_right (by omega) (by omega)
 have hm : b.toNat % 128 * 2 ^ (7 * i) <= 127 * 2 ^ 56 := Nat.mul_le_mul (by omega) hp
 have hmul : ((b.toNat % 128 : Nat) : Int) * 2 ^ (7 * i) = ((b.toNat % 128 * 2 ^ (7 * i) : Nat) : Int) := by simp
 rw [hb, hb8, ZhJ 8, show (127 : Int) = ((127 : Nat) : Int) from rfl, ZhJ 8, h8, IntWalk.u8_in _ (by omega), w64 (n := ((b.toNat % 128 : Nat) : Int)) (by omega), hs, Nat.min_eq_left (by omega), hmul]
 generalize hq : b.toNat % 128 * 2 ^ (7 * i) = q at hm
 rw [w64 (n := (q : Int)) (by omega), ZhJ, ZhJ, BitVec.toNat_or, BitVec.toNat_ofNat, BitVec.toNat_ofNat, Nat.mod_eq_of_lt (show acc < 2 ^ 64 by omega), Nat.mod_eq_of_lt (show q < 2 ^ 64 by omega)]
 have hor : acc ||| q = acc + q := by
  rw [<- hq, Nat.mul_comm, Nat.or_comm, Nat.add_comm]
  exact (Nat.two_pow_add_eq_or_of_lt ha _).symm
 rw [hor, w64 (by omega)]
def top : Nat := 4611686018427387903
def Ztm : Nat -> Nat -> Nat -> List UInt8 -> Option (Nat × List UInt8)
 | 0, _, _, _ => none
 | k + 1, i, acc, l => match l with
  | [] => none
  | b :: l => if b.toNat < 128 then (if (0 < i /\ b.toNat = 0) \/ top < acc + b.toNat % 128 * 2 ^ (7 * i) then none else some (acc + b.toNat % 128 * 2 ^ (7 * i), l)) else Ztm k (i + 1) (acc + b.toNat % 128 * 2 ^ (7 * i)) l
def ZDj (most : Nat) (l : List UInt8) : Option (Nat × List UInt8) := (Ztm 9 0 0 l).bind fun p => if most < p.1 then none else some p
theorem Zqm : ∀ (k i acc : Nat) (l : List UInt8) {n : Nat} {r : List UInt8}, Ztm k i acc l = some (n, r) -> n <= top /\ r.length + 1 <= l.length /\ ∃ m, r = l.drop m /\ m <= l.length
 | 0, _, _, _, _, _, h => by cases h
 | k + 1, i, acc, [], _, _, h => by cases h
 | k + 1, i, acc, b :: l, n, r, h => by
  unfold Ztm at h
  dsimp only at h
  split at h
  ·split at h
   ·cases h
   ·rename_i h2
    injection h with h
    injection h with h3 h4
    subst h3 h4
    exact ⟨by omega, by simp, 1, rfl, by simp⟩
  ·obtain ⟨g1, g2, m, g3, g4⟩ := Zqm k _ _ l h
   exact ⟨g1, by rw [List.length_cons]; omega, m + 1, g3, by rw [List.length_cons]; omega⟩
end Go.Proofs.YtaihdjknneiciaaGreat
namespace Go.Proofs.YtaihdjknneiciaaGreat
open Go.RowKit
set_option maxRecDepth 100000
set_option linter.unusedVariables false
set_option linter.unusedSimpArgs false
def Zdy (x : Int) : Bool := decide (0 <= x) && decide (x <= 4611686018427387903)
theorem Zcz {x : Int} : Zdy x = true ↔ 0 <= x /\ x <= 4611686018427387903 := by simp [Zdy]
theorem Zx9 {x b : List UInt8} {sp : Bool} (h : b.length + x.length <= 1000000000) : Zfh x (true, sp, b, ()) = some ((), ((true, sp, b ++ x, ()), (), (), ())) := by
 unfold Zfh
 exact Zag rfl (Zbk (by (try dsimp only); omega) rfl)
theorem ZwP {sp : Bool} {N : Nat} (hN : N <= 4611686018427387903) {b : List UInt8} (hb : b.length + (Znz N).length <= 1000000000) :
 ∃ (n : Nat) (b' : List UInt8), n < 128 /\ b' ++ Znz n = b ++ Znz N /\ Zas ZdM (((), (N : Int), ()), ((true, sp, b, ()), (), ())) = some (((), (n : Int), ()), ((true, sp, b', ()), (), (), ())) := by
 have key : ∃ z, Zas ZdM (((), (N : Int), ()), ((true, sp, b, ()), (), ())) = some z /\ ∃ (n : Nat) (b' : List UInt8), n < 128 /\ b' ++ Znz n = b ++ Znz N /\ z = (((), (n : Int), ()), ((true, sp, b', ()), (), (), ())) := by
  refine Zbx (fun m a => ∃ b' : List UInt8, a = (((), (m : Int), ()), ((true, sp, b', ()), (), ())) /\ b' ++ Znz m = b ++ Znz N /\ m <= 4611686018427387903) _ ?_ (n := N) ⟨b, rfl, rfl, hN⟩
  rintro m a ⟨b', rfl, h1, h2⟩
  unfold ZdM
  by_cases hm : m < 128
  ·right
   exact ⟨_, Zab (dF (by (try dsimp only); omega)) rfl, m, b', hm, h1, rfl⟩
  ·left
   have hl := congrArg List.length h1
   rw [Zoy hm, List.length_append, List.length_append, List.length_cons] at hl
   refine ⟨m / 128, _, by omega, Zag (dT (by (try dsimp only); omega)) (Zaa (ZBp m) (Zaa (Zx9 (by simp only [List.length_singleton]; omega)) rfl)), b' ++ [UInt8.ofNat (m % 128 + 128)], ?_, ?_, by omega⟩
   ·dsimp only
    rw [ZGu]
   ·rw [List.append_assoc, <- h1, Zoy hm]; rfl
 obtain ⟨z, hz, n, b', h1, h2, rfl⟩ := key
 exact ⟨n, b', h1, h2, hz⟩
def ZAa (x : Int) (w : Bool × List UInt8) : Bool × List UInt8 := if Zdy x = true then (w.1, w.2 ++ Znz x.toNat) else (true, w.2)
theorem Zu6 {x : Int} {sp : Bool} {b : List UInt8} (hb : b.length <= 100000000) : Zd4 x (true, sp, b, ()) = some ((), ((true, (ZAa x (sp, b)).1, (ZAa x (sp, b)).2, ()), (), (), ())) := by
 unfold Zd4 ZAa
 by_cases h1 : x < 0
 ·rw [if_neg (by rw [Zcz]; omega)]
  exact Zag (dT h1) rfl
 by_cases h2 : 4611686018427387903 < x
 ·rw [if_neg (by rw [Zcz]; omega)]
  exact Zab (dF h1) (Zag (dT h2) rfl)
 rw [if_pos (Zcz.2 (by omega))]
 obtain ⟨N, rfl⟩ : ∃ N : Nat, x = (N : Int) := ⟨x.toNat, by omega⟩
 have hlen := Zcy (n := N) (by omega)
 obtain ⟨n, b', g1, g2, g3⟩ := ZwP (sp := sp) (N := N) (by omega) (b := b) (by omega)
 have hl := congrArg List.length g2
 rw [List.length_append, List.length_append] at hl
 have hp := ZyY n
 refine Zab (dF h1) (Zab (dF h2) (Zaa g3 (Zaa (Zx8 n) (Zaa (Zx9 (by simp only [List.length_singleton]; omega)) ?_))))
 rw [Zox g1] at g2
 dsimp only
 rw [g2, Int.toNat_natCast]
def ZgY (xs : List Int) (w : Bool × List UInt8) : Bool × List UInt8 := xs.foldl (fun w x => ZAa x w) w
theorem ZtQ (xs : List Int) (x : Int) (w : Bool × List UInt8) : ZgY (xs ++ [x]) w = ZAa x (ZgY xs w) := by simp [ZgY]
theorem ZCD (x : Int) (w : Bool × List UInt8) : (ZAa x w).2.length <= w.2.length + 9 := by
 unfold ZAa
 split
 ·rename_i h
  have := Zcz.1 h
  have := Zcy (n := x.toNat) (by omega)
  rw [List.length_append]; omega
 ·exact Nat.le_add_right _ _
theorem Zsi : ∀ (xs : List Int) (w : Bool × List UInt8), (ZgY xs w).2.length <= w.2.length + 9 * xs.length
 | [], w => by simp [ZgY]
 | x :: xs, w => by
  have h1 := Zsi xs (ZAa x w)
  have h2 := ZCD x w
  have : ZgY (x :: xs) w = ZgY xs (ZAa x w) := rfl
  rw [this, List.length_cons]; omega
theorem ZBr {xs : List Int} {sp : Bool} {b : List UInt8} (hx : xs.length <= 1000) (hb : b.length <= 50000000) : ZcB xs (true, sp, b, ()) = some ((), ((true, (ZgY xs (sp, b)).1, (ZgY xs (sp, b)).2, ()), (), (), ())) := by
 have hrun := Zbg (step := Zc6) (fun i : Nat => (((), xs, (xs.length : Int), (i : Int), ()), ((true, (ZgY (xs.take i) (sp, b)).1, (ZgY (xs.take i) (sp, b)).2, ()), (), ()))) (N := xs.length) (b := (((), ()), ((true, (ZgY xs (sp, b)).1, (ZgY xs (sp, b)).2, ()), (), (), ()))) (fun i hi => ?_) ?_
 ·unfold ZcB
  exact Zaa rfl (Zag rfl (Zaa hrun rfl))
 ·have hl := Zsi (xs.take i) (sp, b)
  rw [List.length_take] at hl
  dsimp only at hl
  unfold Zc6
  refine Zag (dT (by (try dsimp only); omega)) (Zaa (ZaE hi) (Zaa (Zu6 (by (try dsimp only); omega)) ?_))
  dsimp only
  rw [w64 (by omega), List.take_succ_eq_append_getElem hi, ZtQ]
  rfl
 ·unfold Zc6
  refine Zab (dF (by (try dsimp only); omega)) ?_
  dsimp only
  rw [List.take_length]
theorem ZzZ {xs : List Int} {sp : Bool} {b : List UInt8} (hx : xs.length <= 1000) (hb : b.length <= 50000000) : ZbI (0, xs.length, xs.length) (true, sp, b, ()) xs = some ((), ((true, (ZgY xs (sp, b)).1, (ZgY xs (sp, b)).2, ()), xs, (), (), ())) := by
 have hrun := Zbg (step := Zcu) (fun i : Nat => (((), (0, xs.length, xs.length), (xs.length : Int), (i : Int), ()), ((true, (ZgY (xs.take i) (sp, b)).1, (ZgY (xs.take i) (sp, b)).2, ()), xs, (), ()))) (N := xs.length) (b := (((), ()), ((true, (ZgY xs (sp, b)).1, (ZgY xs (sp, b)).2, ()), xs, (), (), ()))) (fun i hi => ?_) ?_
 ·unfold ZbI
  exact Zaa rfl (Zag rfl (Zaa hrun rfl))
 ·have hl := Zsi (xs.take i) (sp, b)
  rw [List.length_take] at hl
  dsimp only at hl
  have hg : xs[0 + ((i : Int)).toNat]? = some xs[i] := by rw [Nat.zero_add, Int.toNat_natCast, List.getElem?_eq_getElem hi]
  unfold Zcu
  refine Zag (dT (by (try dsimp only); omega)) (Zbk (by (try dsimp only); omega) (Zaa hg (Zaa (Zu6 (by (try dsimp only); omega)) ?_)))
  dsimp only
  rw [w64 (by omega), List.take_succ_eq_append_getElem hi, ZtQ]
  rfl
 ·unfold Zcu
  refine Zab (dF (by (try dsimp only); omega)) ?_
  dsimp only
  rw [List.take_length]
def Zeh (t : List UInt8) : List UInt8 := Znz t.length ++ t
theorem Zoz {t : List UInt8} {sp : Bool} {b : List UInt8} (ht : t.length <= 100000) (hb : b.length <= 100000000) : Zkd [t] (true, sp, b, ()) = some ((), ((true, sp, b ++ Zeh t, ()), (), (), ())) := by
 have hg : Zdy (t.length : Int) = true := Zcz.2 (by omega)
 have hlen := Zcy (n := t.length) (by omega)
 have hnum : Zd4 (t.length : Int) (true, sp, b, ()) = some ((), ((true, sp, b ++ Znz t.length, ()), (), (), ())) := by
  rw [Zu6 hb]
  unfold ZAa
  rw [if_pos hg, Int.toNat_natCast]
 unfold Zkd
 refine Zaa rfl (Zag rfl (Zaa (v := (((), ()), ((true, sp, b ++ Zeh t, ()), (), (), ()))) ((ZaC (a' := (((), [t], 1, 1, ()), ((true, sp, b ++ Zeh t, ()), (), ()))) ?_).trans (Zat ?_)) rfl))
 ·unfold Zhq
  refine Zag rfl (Zaa (v := t) rfl (Zaa hnum (Zaa (Zx9 (by simp only [List.length_append]; omega)) ?_)))
  dsimp only
  rw [List.append_assoc]
  rfl
 ·unfold Zhq
  exact Zab rfl rfl
theorem ZCE {t u : List UInt8} {sp : Bool} {b : List UInt8} (ht : t.length <= 20000) (hu : u.length <= 20000) (hb : b.length <= 40000000) : Ze7 [t, u] (true, sp, b, ()) = some ((), ((true, sp, b ++ Zeh t ++ Zeh u, ()), (), (), ())) := by
 have hlen := Zcy (n := t.length) (by omega)
 have hrl : (Zeh t).length <= 20009 := by unfold Zeh; rw [List.length_append]; omega
 unfold Ze7
 refine Zaa rfl (Zag rfl (Zaa (v := (((), ()), ((true, sp, b ++ Zeh t ++ Zeh u, ()), (), (), ()))) ((ZaC (a' := (((), [t, u], 2, 1, ()), ((true, sp, b ++ Zeh t, ()), (), ()))) ?_).trans ((ZaC (a' := (((), [t, u], 2, 2, ()), ((true, sp, b ++ Zeh t ++ Zeh u, ()), (), ()))) ?_).trans (Zat ?_))) rfl))
 ·unfold ZcI
  exact Zag rfl (Zaa (v := t) rfl (Zbk (by omega) (Zaa (Zoz (by omega) (by (try dsimp only); omega)) rfl)))
 ·unfold ZcI
  exact Zag rfl (Zaa (v := u) rfl (Zbk (by omega) (Zaa (Zoz (by omega) (by (try dsimp only); rw [List.length_append]; omega)) rfl)))
 ·unfold ZcI
  exact Zab rfl rfl
theorem ZCF {t u : List UInt8} {sp : Bool} {b : List UInt8} (ht : t.length <= 1000) (hu : u.length <= 1000) (hb : b.length <= 10000) : Zc7 (0, 2, 2) (true, sp, b, ()) [t, u] = some ((), ((true, sp, b ++ Zeh t ++ Zeh u, ()), [t, u], (), (), ())) := by
 have hlen := Zcy (n := t.length) (by omega)
 have hrl : (Zeh t).length <= 1009 := by unfold Zeh; rw [List.length_append]; omega
 unfold Zc7
 refine Zaa rfl (Zag rfl (Zaa (v := (((), ()), ((true, sp, b ++ Zeh t ++ Zeh u, ()), [t, u], (), (), ()))) ((ZaC (a' := (((), (0, 2, 2), 2, 1, ()), ((true, sp, b ++ Zeh t, ()), [t, u], (), ()))) ?_).trans ((ZaC (a' := (((), (0, 2, 2), 2, 2, ()), ((true, sp, b ++ Zeh t ++ Zeh u, ()), [t, u], (), ()))) ?_).trans (Zat ?_))) rfl))
 ·unfold ZbQ
  exact Zag rfl (Zbk (by (try dsimp only); omega) (Zaa (v := t) rfl (Zbk (by omega) (Zaa (Zoz (by omega) (by (try dsimp only); omega)) rfl))))
 ·unfold ZbQ
  exact Zag rfl (Zbk (by (try dsimp only); omega) (Zaa (v := u) rfl (Zbk (by omega) (Zaa (Zoz (by omega) (by (try dsimp only); rw [List.length_append]; omega)) rfl))))
 ·unfold ZbQ
  exact Zab rfl rfl
theorem ZDk {sp : Bool} {b : List UInt8} (hb : b.length <= 100000000) : ∃ st, Zkj (true, sp, b, ()) = some ((if sp = true then ([], 2, ()) else (b, 0, ())), st) := by
 unfold Zkj
 cases sp with
 | true => exact ⟨_, Zaa rfl (Zab rfl (Zag rfl rfl))⟩
 | false => exact ⟨_, Zaa rfl (Zab rfl (Zab rfl (Zaa (v := (b, ((), ()))) (by unfold ZiU; exact Zbk (by (try dsimp only); omega) rfl) rfl)))⟩
end Go.Proofs.YtaihdjknneiciaaGreat
namespace Go.Proofs.YtaihdjknneiciaaGreat
open Go.RowKit
set_option maxRecDepth 100000
set_option linter.unusedVariables false
set_option linter.unusedSimpArgs false
theorem ZwQ : ∀ (l : List Zao) (f : Tx), Zdc f l = true -> ∀ s ∈ l, Za1 s = true
 | [], f, h, s, hs => by cases hs
 | [a], f, h, s, hs => by
  rw [List.mem_singleton.1 hs]
  unfold Zdc at h
  simp only [Bool.and_eq_true] at h
  exact h.1
 | a :: b :: l, f, h, s, hs => by
  unfold Zdc at h
  simp only [Bool.and_eq_true] at h
  rcases List.mem_cons.1 hs with rfl | hs
  ·exact h.1
  ·exact ZwQ (b :: l) _ h.2.2.2 s hs
theorem Zu7 {t : Tx} (h : ZwM t = true) : t.length <= 20 := by
 unfold ZwM at h
 simp only [Bool.and_eq_true, decide_eq_true_eq] at h
 exact h.2.1
theorem Zk5 {s : Zao} (h : Za1 s = true) : s.lo.length <= 20 /\ s.hi.length <= 20 := by
 unfold Za1 at h
 simp only [Bool.and_eq_true, Bool.or_eq_true, decide_eq_true_eq] at h
 obtain ⟨h1, h2, _⟩ := h
 constructor
 ·rcases h1 with h1 | h1
  ·rw [h1]; simp
  ·exact Zu7 h1
 ·rcases h2 with h2 | h2
  ·rw [h2]; simp
  ·exact Zu7 h2
theorem ZwR {s : Zai} (h : Za2 s = true) : s.list.length <= 40 /\ ∀ x ∈ s.list, Za1 x.span = true := by
 obtain ⟨_, h2, _, h4⟩ := ZgX.1 h
 exact ⟨h2, fun x hx => ZwQ _ _ h4 _ (List.mem_map.2 ⟨x, hx, rfl⟩)⟩
theorem Zb9 {t : Tx} (h : t.length <= 20) : (Zeh t).length <= 29 := by
 have h1 := Zcy (n := t.length) (by omega)
 unfold Zeh
 rw [List.length_append]; omega
end Go.Proofs.YtaihdjknneiciaaGreat
namespace Go.Proofs.YtaihdjknneiciaaGreat
open Go.RowKit
set_option maxRecDepth 100000
set_option linter.unusedVariables false
set_option linter.unusedSimpArgs false
def aS : Zai := ⟨1, [⟨⟨[], []⟩, 1, 1⟩]⟩
def aT : Zai := ⟨2, [⟨⟨[], [109]⟩, 1, 1⟩, ⟨⟨[109], []⟩, 2, 2⟩]⟩
def aX (st : Int) : Zak := ⟨1, ⟨[109], []⟩, 1, 2, 1, 0, st⟩
def aY (st : Int) : Zak := ⟨1, ⟨[109], []⟩, 1, 2, 1, 2, st⟩
theorem ZFo : Zg9 aS 1 ⟨[109], []⟩ 2 = some ((aX 1, 0, ()), ()) := by
 unfold Zg9
 refine Zaa (ZwO _ _ _) (Zab (by decide) (Zaa ZDh (Zab rfl (Zaa (ZGV okf okm) ?_))))
 have : (Zou aS fun q => ZcJ ⟨[109], []⟩ q.span) = some ⟨⟨[], []⟩, 1, 1⟩ := by decide +kernel
 dsimp only
 rw [show (⟨1, [⟨⟨[], []⟩, 1, 1⟩]⟩ : Zai) = aS from rfl, this]
 rfl
theorem ZGv : ZcF (aX 3) aS 4 = some ((aY 4, aT, 0, ()), ()) := by
 obtain ⟨y, t, e, k1, k2, k3⟩ := ZBo (x := aX 3) (s := aS) okm okf (by decide +kernel) (by decide +kernel) (by decide) (by decide +kernel) ZDh (fun h => absurd rfl h)
 have he := k3 ⟨⟨[], []⟩, 1, 1⟩ rfl (by decide +kernel) rfl rfl
 obtain ⟨_, rfl, rfl⟩ := k2 he
 rw [k1, he]
 rfl
theorem okT : ZyU aT := ⟨by simp [aT], fun x hx => by
 simp only [aT, List.mem_cons, List.not_mem_nil, or_false] at hx
 rcases hx with rfl | rfl
 ·exact ⟨by simp [OkT], by simp [OkT]⟩
 ·exact okm⟩
theorem Zqn {s t : Zai} {x y : Zak} {st : Int} (hn : x.num = 1) (h1 : 1 <= st) (h9 : st <= 9) (hs : ZcF x s st = some ((y, t, 0, ()), ())) (ho : (decide (y.stage = 6) || decide (y.stage = 9)) = false) (l : List Zac) (m : Nm) :
 ZbH 1 st (plc s true x 1) (l, (), ()) m = some ((st, 0, ()), (plc t true y 1, (l, (), ()), m, (), (), ())) := by
 unfold ZbH
 exact Zaa (v := (true, (plc s true x 1, (l, (), ()), m, (), (), ()))) rfl (Zab rfl (Zab (dF (by omega)) (Zab (dF (by omega)) (Zab (dF (by omega)) (Zab (dF (by omega)) (Zab (dF (by (try dsimp only); omega)) (Zab rfl (Zab (dF (fun hh => hh hn)) (Zaa hs (Zab rfl (Zaa (ZyX y) (Zab ho rfl))))))))))))
theorem Zz0 {s t : Zai} {x y : Zak} {st : Int} (hn : x.num = 1) (h1 : 1 <= st) (h9 : st <= 9) (hs : ZcF x s st = some ((y, t, 0, ()), ())) (ho : (decide (y.stage = 6) || decide (y.stage = 9)) = true) (l : List Zac) (m : Nm) :
 ZbH 1 st (plc s true x 1) (l, (), ()) m = some ((st, 0, ()), (plc t false Ziw 1, (l, (), ()), m, (), (), ())) := by
 unfold ZbH
 exact Zaa (v := (true, (plc s true x 1, (l, (), ()), m, (), (), ()))) rfl (Zab rfl (Zab (dF (by omega)) (Zab (dF (by omega)) (Zab (dF (by omega)) (Zab (dF (by omega)) (Zab (dF (by (try dsimp only); omega)) (Zab rfl (Zab (dF (fun hh => hh hn)) (Zaa hs (Zab rfl (Zaa (ZyX y) (Zag ho rfl))))))))))))
theorem ZCG {s : Zai} {x : Zak} (l : List Zac) (m : Nm) : ZbH 1 2 (plc s false x 1) (l, (), ()) m = some ((0, 0, ()), (plc s false x 1, (l, (), ()), m, (), (), ())) := by
 unfold ZbH
 exact Zaa (v := (true, (plc s false x 1, (l, (), ()), m, (), (), ()))) rfl (Zab rfl (Zab (dF (by omega)) (Zab (dF (by omega)) (Zab (dF (by omega)) (Zab (dF (by omega)) (Zab (dF (by (try dsimp only); omega)) (Zag rfl rfl)))))))
theorem ZGw {s : Zai} (hs : ZyU s) (hr : Za2 s = true) : Zg7 s = some ((), (plc s false Ziw 0, ([], (), ()), [], (), ())) := by
 unfold Zg7 Zcn
 exact Zaa (Znx hs) (Zab (by rw [hr]; rfl) (Zaa rfl (Zaa (Zaa (Zov hs.len) rfl) rfl)))
theorem ZGx : Zas ZcG (((), 1, 0, 26, 2, ()), (plc aS true (aX 1) 1, ([], (), ()), [], (), ())) = some (.inr (((), 1, 0, 26, ()), (plc aT false Ziw 1, ([], (), ()), [], (), (), ()))) := by
 have g2 := Zqn (s := aS) (x := aX 1) (st := 2) rfl (by omega) (by omega) (Zu4 (x := aX 1) (s := aS) (st := 2) okm okf (by decide +kernel) (by decide +kernel) (by decide) (by decide +kernel) (by decide)) (by decide) [] []
 have g3 := Zqn (s := aS) (x := aX 2) (st := 3) rfl (by omega) (by omega) (Zu4 (x := aX 2) (s := aS) (st := 3) okm okf (by decide +kernel) (by decide +kernel) (by decide) (by decide +kernel) (by decide)) (by decide) [] []
 have g4 := Zqn (s := aS) (x := aX 3) (st := 4) rfl (by omega) (by omega) ZGv (by decide) [] []
 have g5 := Zqn (s := aT) (x := aY 4) (st := 5) rfl (by omega) (by omega) (Zu4 (x := aY 4) (s := aT) (st := 5) okm okT (by decide +kernel) (by decide +kernel) (by decide) (by decide +kernel) (by decide)) (by decide) [] []
 have g6 := Zz0 (s := aT) (x := aY 5) (st := 6) rfl (by omega) (by omega) (Zu4 (x := aY 5) (s := aT) (st := 6) okm okT (by decide +kernel) (by decide +kernel) (by decide) (by decide +kernel) (by decide)) (by decide) [] []
 refine (ZaC (a' := (((), 1, 0, 26, 3, ()), (plc aS true (aX 2) 1, ([], (), ()), [], (), ()))) ?_).trans ((ZaC (a' := (((), 1, 0, 26, 4, ()), (plc aS true (aX 3) 1, ([], (), ()), [], (), ()))) ?_).trans ((ZaC (a' := (((), 1, 0, 26, 5, ()), (plc aT true (aY 4) 1, ([], (), ()), [], (), ()))) ?_).trans ((ZaC (a' := (((), 1, 0, 26, 6, ()), (plc aT true (aY 5) 1, ([], (), ()), [], (), ()))) ?_).trans ((ZaC (a' := (((), 1, 0, 26, 7, ()), (plc aT false Ziw 1, ([], (), ()), [], (), ()))) ?_).trans (Zat ?_)))))
 ·unfold ZcG
  exact Zag rfl (Zaa g2 (Zab rfl (Zab rfl rfl)))
 ·unfold ZcG
  exact Zag rfl (Zaa g3 (Zab rfl (Zab rfl rfl)))
 ·unfold ZcG
  exact Zag rfl (Zaa g4 (Zab rfl (Zab rfl rfl)))
 ·unfold ZcG
  exact Zag rfl (Zaa g5 (Zab rfl (Zab rfl rfl)))
 ·unfold ZcG
  exact Zag rfl (Zaa g6 (Zab rfl (Zab rfl rfl)))
 ·unfold ZcG
  exact Zab rfl rfl
theorem Zu8 : Zes = some (true, ()) := by
 have ok110 : OkT [110] := by simp [OkT]
 have hof : ofF aT [110] = some ⟨⟨[109], []⟩, 2, 2⟩ := by decide +kernel
 have hn := ZGw (s := aS) okf (by decide +kernel)
 have b1 : Zcb ⟨[109], []⟩ 2 (plc aS false Ziw 0) ([], (), ()) [] = some ((1, 0, ()), (plc aS true (aX 1) 1, ([], (), ()), [], (), (), ())) := by
  unfold Zcb
  exact Zaa (v := (true, (plc aS false Ziw 0, ([], (), ()), [], (), (), ()))) rfl (Zab rfl (Zab rfl (Zaa ZFo (Zab rfl rfl))))
 have b2 : Zcb ⟨[109], []⟩ 2 (plc aS true (aX 1) 1) ([], (), ()) [] = some ((0, 26, ()), (plc aS true (aX 1) 1, ([], (), ()), [], (), (), ())) := by
  unfold Zcb
  exact Zaa (v := (true, (plc aS true (aX 1) 1, ([], (), ()), [], (), (), ()))) rfl (Zab rfl (Zag rfl rfl))
 have c1 : Zcp (plc aT false Ziw 1) ([], (), ()) [] = some ((Ziw, false, ()), (plc aT false Ziw 1, ([], (), ()), [], (), (), ())) := by
  unfold Zcp
  exact Zaa (v := (true, (plc aT false Ziw 1, ([], (), ()), [], (), (), ()))) rfl (Zab rfl rfl)
 have c2 : Zcq (plc aT false Ziw 1) ([], (), ()) [] = some (aT, (plc aT false Ziw 1, ([], (), ()), [], (), (), ())) := by
  unfold Zcq Zcn
  exact Zaa (v := (true, (plc aT false Ziw 1, ([], (), ()), [], (), (), ()))) rfl (Zab rfl (Zaa (Zaa (Zov okT.len) rfl) rfl))
 unfold Zes
 refine Zaa ZD7 (Zaa hn (Zaa b1 (Zaa b2 (Zaa ZGx ?_))))
 refine Zaa c1 (Zaa (ZCG [] []) (Zaa c2 (Zaa (ZG4 okT ok110) ?_)))
 dsimp only
 rw [hof]
 rfl
end Go.Proofs.YtaihdjknneiciaaGreat
namespace Go.Proofs.YtaihdjknneiciaaGreat
open Go.RowKit
set_option maxRecDepth 100000
set_option linter.unusedVariables false
set_option linter.unusedSimpArgs false
def rdR : Option (List UInt8) -> Zam
 | some l => ⟨⟨true, false, l⟩⟩
 | none => ⟨⟨true, true, []⟩⟩
def ZaB (most : Nat) : Option (List UInt8) -> Int × Option (List UInt8)
 | none => (0, none)
 | some l => match ZDj most l with
  | some p => ((p.1 : Int), some p.2)
  | none => (0, none)
theorem ZBs {most : Nat} {l : List UInt8} (h : Ztm 9 0 0 l = none) : ZaB most (some l) = (0, none) := by
 show (match (Ztm 9 0 0 l).bind (fun p => if most < p.1 then none else some p) with | some p => ((p.1 : Int), some p.2) | none => (0, none)) = _
 rw [h]; rfl
theorem ZyZ {most : Nat} {l : List UInt8} {p : Nat × List UInt8} (h : Ztm 9 0 0 l = some p) : ZaB most (some l) = if most < p.1 then (0, none) else ((p.1 : Int), some p.2) := by
 show (match (Ztm 9 0 0 l).bind (fun p => if most < p.1 then none else some p) with | some p => ((p.1 : Int), some p.2) | none => (0, none)) = _
 rw [h]
 show (match (if most < p.1 then none else some p) with | some p => ((p.1 : Int), some p.2) | none => (0, none)) = _
 by_cases h9 : most < p.1
 ·rw [if_pos h9, if_pos h9]
 ·rw [if_neg h9, if_neg h9]
theorem ZoA (b : UInt8) (l : List UInt8) : ZbO 1 (rdR (some (b :: l))) = some ([b], (rdR (some l), ())) := by
 unfold ZbO rdR
 refine Zab (dF (by dsimp only [List.length_cons]; omega)) (Zbk (by dsimp only [List.length_cons]; omega) (Zbk (by dsimp only [List.length_cons]; omega) ?_))
 have h : (((b :: l).length : Int)).toNat - (1 : Int).toNat = l.length := by rw [List.length_cons]; omega
 dsimp only
 rw [h]
 show some ([b], ((⟨⟨true, false, l.take l.length⟩⟩ : Zam), ())) = _
 rw [List.take_length]
theorem ZBt {n : Int} (hn : 0 < n) : ZbO n (rdR (some [])) = some ([], (rdR none, ())) := by
 unfold ZbO rdR
 exact Zag (dT hn) rfl
theorem ZwS {most : Nat} (f : ((Unit) × (Int) × (Int) × (Int) × Unit) × ((Zam) × Unit) -> Option ((((Unit) × (Int) × (Int) × (Int) × Unit) × ((Zam) × Unit)) ⊕ ((((Int) × Unit) × ((Zam) × Unit)) ⊕ (((Unit) × Unit) × ((Zam) × Unit))))) (hf : f = ZdX) (l : List UInt8) :
 ∃ z, Zas f (((), (most : Int), 0, 0, ()), (rdR (some l), ())) = some z /\ (z = .inl (((ZaB most (some l)).1, ()), (rdR (ZaB most (some l)).2, ())) \/ ((∃ l', z = .inr (((), ()), (rdR (some l'), ()))) /\ ZaB most (some l) = (0, none))) := by
 subst hf
 refine Zbx (fun m a => ∃ (i acc : Nat) (r : List UInt8), a = (((), (most : Int), (acc : Int), ((7 * i : Nat) : Int), ()), (rdR (some r), ())) /\ i <= 9 /\ acc < 2 ^ (7 * i) /\ m = 9 - i /\ Ztm 9 0 0 l = Ztm (9 - i) i acc r) _ ?_ (n := 9) ⟨0, 0, l, rfl, by omega, by omega, rfl, rfl⟩
 rintro m a ⟨i, acc, r, rfl, h1, h2, rfl, h3⟩
 unfold ZdX
 have hno : Ztm (9 - i) i acc r = none -> ZaB most (some l) = (0, none) := by
  intro h
  exact ZBs (by rw [h3, h])
 by_cases hi : i < 9
 ·cases r with
  | nil =>
   right
   refine ⟨_, Zag (dT (by (try dsimp only); omega)) (Zaa (ZBt (by omega)) (Zag rfl rfl)), .inl ?_⟩
   rw [hno (by rw [show 9 - i = (8 - i) + 1 by omega]; rfl)]
  | cons b r =>
   have hk : Ztm (9 - i) i acc (b :: r) = if b.toNat < 128 then (if (0 < i /\ b.toNat = 0) \/ top < acc + b.toNat % 128 * 2 ^ (7 * i) then none else some (acc + b.toNat % 128 * 2 ^ (7 * i), r)) else Ztm (8 - i) (i + 1) (acc + b.toNat % 128 * 2 ^ (7 * i)) r := by
    rw [show 9 - i = (8 - i) + 1 by omega]; rfl
   have hb := b.toNat_lt
   have hy := ZBq b acc i (by omega) h2 (((7 * i : Nat) : Int)) (by rw [Int.toNat_natCast])
   by_cases h5 : b.toNat < 128
   ·right
    rw [if_pos h5] at hk
    by_cases h6 : 0 < i /\ b.toNat = 0
    ·rw [if_pos (.inl h6)] at hk
     refine ⟨_, Zag (dT (by (try dsimp only); omega)) (Zaa (ZoA b r) (Zab rfl (Zaa (v := b) rfl (ZCj (by (try dsimp only); omega) (Zaa (v := b) rfl (Zag (dT (by omega)) (Zag (dT (by (try dsimp only); omega)) (Zaa (v := b) rfl (Zag (dT (by omega)) (Zaa rfl rfl)))))))))), .inl ?_⟩
     rw [hno hk]
     rfl
    ·by_cases h7 : top < acc + b.toNat % 128 * 2 ^ (7 * i)
     ·rw [if_pos (.inr h7)] at hk
      rw [hno hk]
      have h7' : (4611686018427387903 : Int) < ((acc + b.toNat % 128 * 2 ^ (7 * i) : Nat) : Int) := by unfold top at h7; omega
      refine ⟨.inl ((0, ()), (rdR none, ())), Zag (dT (by (try dsimp only); omega)) (Zaa (ZoA b r) (Zab rfl (Zaa (v := b) rfl (ZCj (by (try dsimp only); omega) ?_)))), .inl rfl⟩
      dsimp only
      rw [hy]
      by_cases h8 : 0 < i
      ·exact Zaa (v := b) rfl (Zag (dT (by omega)) (Zag (dT (by omega)) (Zaa (v := b) rfl (Zab (dF (by omega)) (Zag (dT h7') rfl)))))
      ·exact Zaa (v := b) rfl (Zag (dT (by omega)) (Zab (dF (by omega)) (Zag (dT h7') rfl)))
     ·rw [if_neg (by omega)] at hk
      have h7' : ¬ (4611686018427387903 : Int) < ((acc + b.toNat % 128 * 2 ^ (7 * i) : Nat) : Int) := by unfold top at h7; omega
      have hnum : ZaB most (some l) = if most < acc + b.toNat % 128 * 2 ^ (7 * i) then (0, none) else (((acc + b.toNat % 128 * 2 ^ (7 * i) : Nat) : Int), some r) := by
       exact ZyZ (by rw [h3, hk])
      rw [hnum]
      by_cases h9 : most < acc + b.toNat % 128 * 2 ^ (7 * i)
      ·rw [if_pos h9]
       have h9' : ((most : Nat) : Int) < ((acc + b.toNat % 128 * 2 ^ (7 * i) : Nat) : Int) := by omega
       refine ⟨.inl ((0, ()), (rdR none, ())), Zag (dT (by (try dsimp only); omega)) (Zaa (ZoA b r) (Zab rfl (Zaa (v := b) rfl (ZCj (by (try dsimp only); omega) ?_)))), .inl rfl⟩
       dsimp only
       rw [hy]
       by_cases h8 : 0 < i
       ·exact Zaa (v := b) rfl (Zag (dT (by omega)) (Zag (dT (by omega)) (Zaa (v := b) rfl (Zab (dF (by omega)) (Zab (dF h7') (Zag (dT h9') rfl))))))
       ·exact Zaa (v := b) rfl (Zag (dT (by omega)) (Zab (dF (by omega)) (Zab (dF h7') (Zag (dT h9') rfl))))
      ·rw [if_neg h9]
       have h9' : ¬ ((most : Nat) : Int) < ((acc + b.toNat % 128 * 2 ^ (7 * i) : Nat) : Int) := by omega
       refine ⟨.inl ((((acc + b.toNat % 128 * 2 ^ (7 * i) : Nat) : Int), ()), (rdR (some r), ())), Zag (dT (by (try dsimp only); omega)) (Zaa (ZoA b r) (Zab rfl (Zaa (v := b) rfl (ZCj (by (try dsimp only); omega) ?_)))), .inl rfl⟩
       dsimp only
       rw [hy]
       by_cases h8 : 0 < i
       ·exact Zaa (v := b) rfl (Zag (dT (by omega)) (Zag (dT (by omega)) (Zaa (v := b) rfl (Zab (dF (by omega)) (Zab (dF h7') (Zab (dF h9') rfl))))))
       ·exact Zaa (v := b) rfl (Zag (dT (by omega)) (Zab (dF (by omega)) (Zab (dF h7') (Zab (dF h9') rfl))))
   ·left
    rw [if_neg h5] at hk
    refine ⟨9 - (i + 1), (((), (most : Int), ((acc + b.toNat % 128 * 2 ^ (7 * i) : Nat) : Int), ((7 * (i + 1) : Nat) : Int), ()), (rdR (some r), ())), by omega, Zag (dT (by (try dsimp only); omega)) (Zaa (ZoA b r) (Zab rfl (Zaa (v := b) rfl (ZCj (by (try dsimp only); omega) ?_)))), i + 1, _, r, rfl, by omega, ?_, rfl, ?_⟩
    ·dsimp only
     rw [hy, w64 (n := ((7 * i : Nat) : Int) + 7) (by omega)]
     exact Zaa (v := b) rfl (Zab (dF (by omega)) rfl)
    ·have hm : b.toNat % 128 * 2 ^ (7 * i) <= 127 * 2 ^ (7 * i) := Nat.mul_le_mul_right _ (by omega)
     have hp : 2 ^ (7 * (i + 1)) = 128 * 2 ^ (7 * i) := by rw [Nat.mul_add, Nat.pow_add, Nat.mul_comm]
     omega
    ·rw [h3, hk, show 8 - i = 9 - (i + 1) by omega]
 ·right
  obtain rfl : i = 9 := by omega
  exact ⟨_, Zab (dF (by (try dsimp only); omega)) rfl, .inr ⟨⟨r, rfl⟩, hno rfl⟩⟩
theorem Zf2 (most : Nat) (o : Option (List UInt8)) : ZaG (most : Int) (rdR o) = some ((ZaB most o).1, (rdR (ZaB most o).2, ())) := by
 unfold ZaG
 cases o with
 | none => exact Zaa (v := (false, (rdR none, ()))) rfl (Zag rfl rfl)
 | some l =>
  refine Zaa (v := (true, (rdR (some l), ()))) rfl (Zab rfl ?_)
  obtain ⟨z, hz, rfl | ⟨⟨l', rfl⟩, h2⟩⟩ := ZwS (most := most) _ rfl l
  ·exact Zaa hz rfl
  ·rw [h2]
   exact Zaa hz rfl
theorem ZFp (most : Nat) (l : List UInt8) : ZiV (most : Int) (true, false, l, ()) = some ((ZaB most (some l)).1, (rdR (ZaB most (some l)).2, (), ())) := by
 unfold ZiV
 refine Zaa (v := (true, ((true, false, l, ()), (), (), ()))) rfl (Zab rfl ?_)
 obtain ⟨z, hz, rfl | ⟨⟨l', rfl⟩, h2⟩⟩ := ZwS (most := most) ZhO rfl l
 ·exact Zaa hz rfl
 ·rw [h2]
  exact Zaa hz rfl
def Zcf (most : Nat) (o : Option (List UInt8)) : List UInt8 × Option (List UInt8) := match (ZaB most o).2 with
 | none => ([], none)
 | some l => if (l.length : Int) < (ZaB most o).1 then ([], none) else (l.take (ZaB most o).1.toNat, some (l.drop (ZaB most o).1.toNat))
theorem Zu9 {most : Nat} {o : Option (List UInt8)} {l : List UInt8} (h : (ZaB most o).2 = some l) : 0 <= (ZaB most o).1 /\ (ZaB most o).1 <= most := by
 unfold ZaB at h ⊢
 cases o with
 | none => cases h
 | some x =>
  dsimp only at h ⊢
  cases hn : ZDj most x with
  | none => rw [hn] at h; cases h
  | some p =>
   unfold ZDj at hn
   obtain ⟨q, hq, hn⟩ := Zah hn
   split at hn
   ·cases hn
   ·injection hn with hn
    subst hn
    dsimp only
    omega
theorem ZFq {n : Nat} {l : List UInt8} : ZbO (n : Int) (rdR (some l)) = some (if l.length < n then ([], (rdR none, ())) else (l.take n, (rdR (some (l.drop n)), ()))) := by
 unfold ZbO rdR
 by_cases h : l.length < n
 ·rw [if_pos h]
  exact Zag (dT (by (try dsimp only); omega)) rfl
 ·rw [if_neg h]
  refine Zab (dF (by (try dsimp only); omega)) (Zbk (by (try dsimp only); omega) (Zbk (by (try dsimp only); omega) ?_))
  have h1 : ((l.length : Int)).toNat - ((n : Int)).toNat = (l.drop n).length := by rw [List.length_drop]; omega
  dsimp only
  rw [h1, Int.toNat_natCast, List.take_length]
  rfl
theorem ZGy (most : Nat) (hm : most <= 1000000000) (o : Option (List UInt8)) : Zqe (most : Int) (rdR o) = some ((Zcf most o).1, (rdR (Zcf most o).2, (), ())) := by
 unfold Zqe
 refine Zaa (Zf2 most o) ?_
 unfold Zcf
 cases h : (ZaB most o).2 with
 | none => exact Zaa (v := (false, (rdR none, ()))) rfl (Zag rfl rfl)
 | some l =>
  obtain ⟨h1, h2⟩ := Zu9 h
  obtain ⟨n, hn⟩ : ∃ n : Nat, (ZaB most o).1 = (n : Int) := ⟨(ZaB most o).1.toNat, by omega⟩
  refine Zaa (v := (true, (rdR (some l), ()))) rfl (Zab rfl (Zaa (v := if l.length < n then ([], (rdR none, ())) else (l.take n, (rdR (some (l.drop n)), ()))) (by (try dsimp only); rw [hn]; exact ZFq) ?_))
  dsimp only
  rw [hn, Int.toNat_natCast]
  by_cases hl : l.length < n
  ·rw [if_pos hl, if_pos (by omega)]
   exact Zaa (v := ([], ((), ()))) rfl rfl
  ·rw [if_neg hl, if_neg (by omega)]
   have hlen : (l.take n).length <= n := by rw [List.length_take]; omega
   refine Zaa (v := (l.take n, ((), ()))) (by unfold ZiU; exact Zbk (by (try dsimp only); omega) rfl) rfl
theorem ZtR (most : Nat) (hm : most <= 1000000000) (o : Option (List UInt8)) : Zeu (most : Int) (rdR o) = some ((Zcf most o).1, (rdR (Zcf most o).2, ())) := by
 unfold Zeu
 exact Zaa (ZGy most hm o) rfl
end Go.Proofs.YtaihdjknneiciaaGreat
namespace Go.Proofs.YtaihdjknneiciaaGreat
open Go.RowKit
set_option maxRecDepth 100000
set_option linter.unusedVariables false
set_option linter.unusedSimpArgs false
def ZeP (xs : List Int) : List UInt8 := (xs.map fun x => Znz x.toNat).flatten
theorem ZoB : ∀ (xs : List Int) (sp : Bool) (b : List UInt8), xs.all Zdy = true -> ZgY xs (sp, b) = (sp, b ++ ZeP xs)
 | [], sp, b, _ => by simp [ZgY, ZeP]
 | x :: xs, sp, b, h => by
  simp only [List.all_cons, Bool.and_eq_true] at h
  have : ZgY (x :: xs) (sp, b) = ZgY xs (ZAa x (sp, b)) := rfl
  rw [this]
  unfold ZAa
  rw [if_pos h.1, ZoB xs sp _ h.2]
  simp [ZeP]
theorem Zbh : ∀ xs : List Int, xs.all Zdy = true -> (ZeP xs).length <= 9 * xs.length
 | [], _ => by simp [ZeP]
 | x :: xs, h => by
  simp only [List.all_cons, Bool.and_eq_true] at h
  have h1 := Zbh xs h.2
  have := Zcz.1 h.1
  have h2 := Zcy (n := x.toNat) (by omega)
  have : ZeP (x :: xs) = Znz x.toNat ++ ZeP xs := by simp [ZeP]
  rw [this, List.length_append, List.length_cons]; omega
theorem ZnA {xs : List Int} {sp : Bool} {b : List UInt8} (hg : xs.all Zdy = true) (hx : xs.length <= 1000) (hb : b.length <= 50000000) : ZcB xs (true, sp, b, ()) = some ((), ((true, sp, b ++ ZeP xs, ()), (), (), ())) := by
 rw [ZBr hx hb, ZoB xs sp b hg]
theorem ZnB {xs : List Int} {sp : Bool} {b : List UInt8} (hg : xs.all Zdy = true) (hx : xs.length <= 1000) (hb : b.length <= 50000000) : ZbI (0, xs.length, xs.length) (true, sp, b, ()) xs = some ((), ((true, sp, b ++ ZeP xs, ()), xs, (), (), ())) := by
 rw [ZzZ hx hb, ZoB xs sp b hg]
theorem ZEc {t : List UInt8} {sp : Bool} {b : List UInt8} (ht : t.length <= 20000) (hb : b.length <= 40000000) : Ze7 [t] (true, sp, b, ()) = some ((), ((true, sp, b ++ Zeh t, ()), (), (), ())) := by
 unfold Ze7
 refine Zaa rfl (Zag rfl (Zaa (v := (((), ()), ((true, sp, b ++ Zeh t, ()), (), (), ()))) ((ZaC (a' := (((), [t], 1, 1, ()), ((true, sp, b ++ Zeh t, ()), (), ()))) ?_).trans (Zat ?_)) rfl))
 ·unfold ZcI
  exact Zag rfl (Zaa (v := t) rfl (Zbk (by omega) (Zaa (Zoz (by omega) (by (try dsimp only); omega)) rfl)))
 ·unfold ZcI
  exact Zab rfl rfl
theorem ZCH {t : List UInt8} {sp : Bool} {b : List UInt8} (ht : t.length <= 20000) (hb : b.length <= 40000000) : Zc7 (0, 1, 1) (true, sp, b, ()) [t] = some ((), ((true, sp, b ++ Zeh t, ()), [t], (), (), ())) := by
 unfold Zc7
 refine Zaa rfl (Zag rfl (Zaa (v := (((), ()), ((true, sp, b ++ Zeh t, ()), [t], (), (), ()))) ((ZaC (a' := (((), (0, 1, 1), 1, 1, ()), ((true, sp, b ++ Zeh t, ()), [t], (), ()))) ?_).trans (Zat ?_)) rfl))
 ·unfold ZbQ
  exact Zag rfl (Zbk (by (try dsimp only); omega) (Zaa (v := t) rfl (Zbk (by omega) (Zaa (Zoz (by omega) (by (try dsimp only); omega)) rfl))))
 ·unfold ZbQ
  exact Zab rfl rfl
def ZdR (u : Bool) : List UInt8 := [if u = true then 1 else 0]
theorem ZEd (u sp : Bool) {b : List UInt8} (hb : b.length <= 50000000) : ZkZ [u] (true, sp, b, ()) = some ((), ((true, sp, b ++ ZdR u, ()), (), (), ())) := by
 unfold ZkZ
 refine Zaa rfl (Zag rfl (Zaa (v := (((), ()), ((true, sp, b ++ ZdR u, ()), (), (), ()))) ((ZaC (a' := (((), [u], 1, 1, ()), ((true, sp, b ++ ZdR u, ()), (), ()))) ?_).trans (Zat ?_)) rfl))
 ·unfold Zgk
  refine Zag rfl (Zaa (v := u) rfl ?_)
  cases u with
  | true => exact Zag rfl (Zaa (v := (1 : UInt8)) rfl (Zaa (Zx9 (by simp only [List.length_singleton]; omega)) rfl))
  | false => exact Zab rfl (Zaa (v := (0 : UInt8)) rfl (Zaa (Zx9 (by simp only [List.length_singleton]; omega)) rfl))
 ·unfold Zgk
  exact Zab rfl rfl
theorem Zy0 (u sp : Bool) {b : List UInt8} (hb : b.length <= 50000000) : ZfP (0, 1, 1) (true, sp, b, ()) [u] = some ((), ((true, sp, b ++ ZdR u, ()), [u], (), (), ())) := by
 unfold ZfP
 refine Zaa rfl (Zag rfl (Zaa (v := (((), ()), ((true, sp, b ++ ZdR u, ()), [u], (), (), ()))) ((ZaC (a' := (((), (0, 1, 1), 1, 1, ()), ((true, sp, b ++ ZdR u, ()), [u], (), ()))) ?_).trans (Zat ?_)) rfl))
 ·unfold ZeG
  refine Zag rfl (Zbk (by (try dsimp only); omega) (Zaa (v := u) rfl ?_))
  cases u with
  | true => exact Zag rfl (Zaa (v := (1 : UInt8)) rfl (Zaa (Zx9 (by simp only [List.length_singleton]; omega)) rfl))
  | false => exact Zab rfl (Zaa (v := (0 : UInt8)) rfl (Zaa (Zx9 (by simp only [List.length_singleton]; omega)) rfl))
 ·unfold ZeG
  exact Zab rfl rfl
def ZEF (x : Zak) : List UInt8 := ZeP [x.num] ++ (Zeh x.span.lo ++ Zeh x.span.hi) ++ ZeP [x.from_, x.to_, x.epoch, x.under, x.stage]
theorem Zix {x : Int} (h0 : 0 <= x) (h1 : x <= 1073741824) : Zdy x = true := Zcz.2 ⟨h0, by omega⟩
theorem Zjb {x : Zak} (h : Zbu x = true) : (0 <= x.num /\ x.num <= 1073741824) /\ (0 <= x.from_ /\ x.from_ <= 4) /\ (0 <= x.to_ /\ x.to_ <= 4) /\ (0 <= x.epoch /\ x.epoch <= 1073741824) /\ (0 <= x.under /\ x.under <= 1073741824) /\ (1 <= x.stage /\ x.stage <= 9) /\ Za1 x.span = true := by
 obtain ⟨h1, h2, h3, h4, h5, h6, h7, h8⟩ := Zow.1 h
 refine ⟨by omega, by omega, by omega, by omega, ?_, h7, h2⟩
 split at h8 <;> omega
theorem Zsj {x : Zak} (h : Zbu x = true) : ([x.num] : List Int).all Zdy = true /\ ([x.from_, x.to_, x.epoch, x.under, x.stage] : List Int).all Zdy = true := by
 obtain ⟨h1, h2, h3, h4, h5, h6, h7⟩ := Zjb h
 constructor
 ·simp [Zix h1.1 h1.2]
 ·simp [Zix (x := x.from_) (by omega) (by omega), Zix (x := x.to_) (by omega) (by omega), Zix h4.1 h4.2, Zix h5.1 h5.2, Zix (x := x.stage) (by omega) (by omega)]
theorem ZCI {x : Zak} (h : Zbu x = true) : (ZEF x).length <= 120 := by
 obtain ⟨h1, h2, h3, h4, h5, h6, h7⟩ := Zjb h
 obtain ⟨g1, g2⟩ := Zsj h
 have l1 := Zbh _ g1
 have l2 := Zbh _ g2
 obtain ⟨k1, k2⟩ := Zk5 h7
 have r1 := Zb9 k1
 have r2 := Zb9 k2
 unfold ZEF
 simp only [List.length_append, List.length_cons, List.length_nil] at *
 omega
theorem ZCJ {x : Zak} (h : Zbu x = true) (sp : Bool) {b : List UInt8} (hb : b.length <= 9000) : Zhs x (true, sp, b, ()) = some ((), ((true, sp, b ++ ZEF x, ()), (), (), ())) := by
 obtain ⟨h1, h2, h3, h4, h5, h6, h7⟩ := Zjb h
 obtain ⟨g1, g2⟩ := Zsj h
 have l1 := Zbh _ g1
 obtain ⟨k1, k2⟩ := Zk5 h7
 have r1 := Zb9 k1
 have r2 := Zb9 k2
 simp only [List.length_cons, List.length_nil] at l1
 have n1 := ZnA (sp := sp) (b := b) g1 (by simp) (by omega)
 have t1 := ZCF (t := x.span.lo) (u := x.span.hi) (sp := sp) (b := b ++ ZeP [x.num]) (by omega) (by omega) (by rw [List.length_append]; omega)
 have n2 := ZnB (sp := sp) (b := b ++ ZeP [x.num] ++ Zeh x.span.lo ++ Zeh x.span.hi) g2 (by simp) (by simp only [List.length_append]; omega)
 unfold Zhs
 refine Zaa n1 (Zaa t1 ?_)
 dsimp only
 rw [w64 (n := x.stage) (by omega)]
 refine Zaa n2 ?_
 unfold ZEF
 simp only [List.append_assoc]
def shB (x : Zaf) : List UInt8 := Zeh x.span.lo ++ Zeh x.span.hi ++ ZeP [x.group, x.epoch]
def Ztn (l : List Zaf) : List UInt8 := (l.map shB).flatten
theorem Zsk (l : List Zaf) (x : Zaf) : Ztn (l ++ [x]) = Ztn l ++ shB x := by simp [Ztn]
def Zmd (s : Zai) (u : Bool) (x : Zak) : List UInt8 := ZeP [s.epoch, (s.list.length : Int)] ++ Ztn s.list ++ ZdR u ++ (if u = true then ZEF x else [])
structure ZGY (s : Zai) (u : Bool) (x : Zak) (n : Int) : Prop where
 pl : ZGW s u x n
 on : u = true -> Zbu x = true /\ ¬ x.stage = 6 /\ ¬ x.stage = 9 /\ x.num = n
 off : u = false -> x = Ziw
theorem Zk6 {s : Zai} (h : Za2 s = true) {x : Zaf} (hx : x ∈ s.list) : (1 <= x.group /\ x.group <= 4) /\ (1 <= x.epoch /\ x.epoch <= 1073741824) /\ x.span.lo.length <= 20 /\ x.span.hi.length <= 20 := by
 obtain ⟨h1, h2, h3, h4⟩ := ZgX.1 h
 obtain ⟨g1, g2⟩ := ZyW.1 (h3 x hx)
 exact ⟨g1, by omega, Zk5 ((ZwR h).2 x hx)⟩
theorem Zva {s : Zai} (h : Za2 s = true) {x : Zaf} (hx : x ∈ s.list) : ([x.group, x.epoch] : List Int).all Zdy = true := by
 obtain ⟨h1, h2, _⟩ := Zk6 h hx
 simp [Zix (x := x.group) (by omega) (by omega), Zix (x := x.epoch) (by omega) (by omega)]
theorem ZEe {s : Zai} (h : Za2 s = true) {x : Zaf} (hx : x ∈ s.list) : (shB x).length <= 76 := by
 obtain ⟨h1, h2, h3, h4⟩ := Zk6 h hx
 have l := Zbh _ (Zva h hx)
 have r1 := Zb9 h3
 have r2 := Zb9 h4
 unfold shB
 simp only [List.length_append, List.length_cons, List.length_nil] at *
 omega
theorem Zqo {s : Zai} (h : Za2 s = true) (i : Nat) : (Ztn (s.list.take i)).length <= 76 * i := by
 induction i with
 | zero => simp [Ztn]
 | succ i ih =>
  by_cases hi : i < s.list.length
  ·rw [List.take_succ_eq_append_getElem hi, Zsk, List.length_append]
   have := ZEe h (List.getElem_mem hi)
   omega
  ·rw [List.take_of_length_le (by omega)]
   rw [List.take_of_length_le (by omega)] at ih
   omega
theorem Zsl {s : Zai} (h : Za2 s = true) : ([s.epoch, (s.list.length : Int)] : List Int).all Zdy = true := by
 obtain ⟨h1, h2, h3, h4⟩ := ZgX.1 h
 simp [Zix (x := s.epoch) (by omega) (by omega), Zix (x := (s.list.length : Int)) (by omega) (by omega)]
theorem ZBu {s : Zai} {u : Bool} {x : Zak} (hr : Za2 s = true) (hu : u = true -> Zbu x = true) : ZdN ⟨s, u, x⟩ (true, false, [], ()) = some ((), ((true, false, Zmd s u x, ()), (), (), ())) := by
 obtain ⟨e1, e2, e3, e4⟩ := ZgX.1 hr
 have hg := Zsl hr
 have hl := Zbh _ hg
 simp only [List.length_cons, List.length_nil] at hl
 have n1 := ZnA (sp := false) (b := []) hg (by simp) (by simp)
 rw [List.nil_append] at n1
 generalize hC : ZeP [s.epoch, (s.list.length : Int)] = C at n1 hl
 have key : Zas ZbJ (((), (), s.list, (s.list.length : Int), 0, ()), ((true, false, C, ()), ⟨s, u, x⟩, (), ())) = some (((), (), ()), ((true, false, C ++ Ztn s.list, ()), ⟨s, u, x⟩, (), (), ())) := by
  have h0 : C = C ++ Ztn (s.list.take 0) := by simp [Ztn]
  rw [show (((true, false, C, ()), (⟨s, u, x⟩ : ZjH), (), ()) : (Bool × Bool × List UInt8 × Unit) × ZjH × Unit × Unit) = ((true, false, C ++ Ztn (s.list.take 0), ()), ⟨s, u, x⟩, (), ()) by rw [<- h0]]
  refine Zbg (step := ZbJ) (fun i : Nat => (((), (), s.list, (s.list.length : Int), (i : Int), ()), ((true, false, C ++ Ztn (s.list.take i), ()), ⟨s, u, x⟩, (), ()))) (N := s.list.length) (fun i hi => ?_) ?_
  ·obtain ⟨g1, g2, g3, g4⟩ := Zk6 hr (List.getElem_mem hi)
   have hsl := Zqo hr i
   have r1 := Zb9 g3
   have r2 := Zb9 g4
   have t1 := ZCE (t := s.list[i].span.lo) (u := s.list[i].span.hi) (sp := false) (b := C ++ Ztn (s.list.take i)) (by omega) (by omega) (by rw [List.length_append]; omega)
   have n2 := ZnB (xs := [s.list[i].group, s.list[i].epoch]) (sp := false) (b := C ++ Ztn (s.list.take i) ++ Zeh s.list[i].span.lo ++ Zeh s.list[i].span.hi) (Zva hr (List.getElem_mem hi)) (by simp) (by simp only [List.length_append]; omega)
   unfold ZbJ
   refine Zag (dT (by (try dsimp only); omega)) (Zaa (ZaE hi) (Zaa t1 (Zaa n2 ?_)))
   dsimp only
   rw [w64 (by omega), List.take_succ_eq_append_getElem hi, Zsk]
   unfold shB
   simp only [List.append_assoc]
   rfl
  ·unfold ZbJ
   refine Zab (dF (by (try dsimp only); omega)) ?_
   dsimp only
   rw [List.take_length]
 have hsl := Zqo hr s.list.length
 rw [List.take_length] at hsl
 have q2 := ZEd u false (b := C ++ Ztn s.list) (by rw [List.length_append]; omega)
 unfold ZdN Zmd
 rw [hC]
 refine Zaa n1 (Zaa key (Zaa q2 ?_))
 cases u with
 | true => exact Zag rfl (Zaa (ZCJ (hu rfl) false (by simp only [List.length_append, ZdR, List.length_singleton]; omega)) rfl)
 | false => simp
theorem Ziy {s : Zai} {u : Bool} {x : Zak} (hr : Za2 s = true) (hu : u = true -> Zbu x = true) : (Zmd s u x).length <= 3300 := by
 obtain ⟨e1, e2, e3, e4⟩ := ZgX.1 hr
 have hl := Zbh _ (Zsl hr)
 have hsl := Zqo hr s.list.length
 rw [List.take_length] at hsl
 simp only [List.length_cons, List.length_nil] at hl
 unfold Zmd
 simp only [List.length_append, ZdR, List.length_singleton]
 cases u with
 | true =>
  have := ZCI (hu rfl)
  simp only [if_true]
  omega
 | false => simp; omega
theorem ZFr {s : Zai} {u : Bool} {x : Zak} {n : Int} (hr : Za2 s = true) (hu : u = true -> Zbu x = true) (l : List Zac) (m : Nm) : Zgo (plc s u x n) (l, (), ()) m = some (Zmd s u x, (plc s u x n, (l, (), ()), m, (), (), (), ())) := by
 have hl := Ziy hr hu
 obtain ⟨st, hd⟩ := ZDk (sp := false) (b := Zmd s u x) (by omega)
 unfold Zgo
 refine Zaa (v := (true, (plc s u x n, (l, (), ()), m, (), (), ()))) rfl (Zab rfl (Zaa rfl (Zaa (ZBu hr hu) (Zaa hd ?_))))
 rfl
end Go.Proofs.YtaihdjknneiciaaGreat
namespace Go.Proofs.YtaihdjknneiciaaGreat
open Go.RowKit
set_option maxRecDepth 100000
set_option linter.unusedVariables false
set_option linter.unusedSimpArgs false
abbrev OB := Option (List UInt8)
theorem ZgZ (most : Nat) (o : OB) : 0 <= (ZaB most o).1 /\ (ZaB most o).1 <= most := by
 cases h : (ZaB most o).2 with
 | some l => exact Zu9 h
 | none =>
  have : (ZaB most o).1 = 0 := by
   cases o with
   | none => rfl
   | some x =>
    unfold ZaB at h ⊢
    dsimp only at h ⊢
    cases hn : ZDj most x with
    | none => rfl
    | some p => rw [hn] at h; cases h
  omega
theorem Ze8 {most : Nat} {o : OB} : (Zcf most o).1.length <= most := by
 unfold Zcf
 cases h : (ZaB most o).2 with
 | none => exact Nat.zero_le _
 | some l =>
  have := Zu9 h
  dsimp only
  split
  ·exact Nat.zero_le _
  ·dsimp only
   rw [List.length_take]; omega
def ZeQ : OB -> Bool × OB
 | some (b :: l) => if 1 < (b.toNat : Int) then (false, none) else (decide ((b.toNat : Int) = 1), some l)
 | _ => (false, none)
theorem Zk7 (b : UInt8) (l : List UInt8) : ZeQ (some (b :: l)) = if 1 < (b.toNat : Int) then (false, none) else (decide ((b.toNat : Int) = 1), some l) := rfl
theorem ZBv (o : OB) : Zh6 (rdR o) = some ((ZeQ o).1, (rdR (ZeQ o).2, ())) := by
 unfold Zh6
 cases o with
 | none => exact Zaa (v := (false, (rdR none, ()))) rfl (Zag rfl rfl)
 | some l =>
  refine Zaa (v := (true, (rdR (some l), ()))) rfl (Zab rfl ?_)
  cases l with
  | nil => exact Zaa (ZBt (by decide)) (Zag rfl rfl)
  | cons b l =>
   refine Zaa (ZoA b l) (Zab rfl (Zaa (v := b) rfl ?_))
   rw [Zk7]
   by_cases h : (1 : Int) < (b.toNat : Int)
   ·rw [if_pos h]
    exact Zag (dT h) rfl
   ·rw [if_neg h]
    exact Zab (dF h) rfl
theorem Zsm (o : OB) : Zev (rdR o) = some (o.isNone, (rdR o, ())) := by
 unfold Zev
 cases o with
 | none => exact Zaa (v := (0, (rdR none, ()))) rfl (Zag rfl (Zaa (v := (4, (rdR none, ()))) rfl rfl))
 | some l =>
  refine Zaa (v := ((l.length : Int), (rdR (some l), ()))) rfl ?_
  cases l with
  | nil => exact Zag rfl (Zaa (v := (0, (rdR (some []), ()))) rfl rfl)
  | cons b l => exact Zab (dF (by simp only [List.length_cons]; omega)) rfl
theorem ZkD (o : OB) : ZfJ ((), ()) (rdR o) = some (o.isNone, (((), ()), rdR o, ())) := by
 unfold ZfJ
 cases o with
 | none => exact Zaa (v := (0, (rdR none, ()))) rfl (Zag rfl (Zaa (v := (4, (rdR none, ()))) rfl rfl))
 | some l =>
  refine Zaa (v := ((l.length : Int), (rdR (some l), ()))) rfl ?_
  cases l with
  | nil => exact Zag rfl (Zaa (v := (0, (rdR (some []), ()))) rfl rfl)
  | cons b l => exact Zab (dF (by simp only [List.length_cons]; omega)) rfl
def ZlI (o : OB) : Zaf × OB := (⟨⟨(Zcf 20 o).1, (Zcf 20 (Zcf 20 o).2).1⟩, (ZaB 1073741824 (Zcf 20 (Zcf 20 o).2).2).1, (ZaB 1073741824 (ZaB 1073741824 (Zcf 20 (Zcf 20 o).2).2).2).1⟩, (ZaB 1073741824 (ZaB 1073741824 (Zcf 20 (Zcf 20 o).2).2).2).2)
def ZdD : Nat -> List Zaf -> OB -> List Zaf × OB
 | 0, out, o => (out, o)
 | n + 1, out, o => ZdD n (out ++ [(ZlI o).1]) (ZlI o).2
theorem Zjc : ∀ (n : Nat) (out : List Zaf) (o : OB), (ZdD n out o).1.length = out.length + n
 | 0, out, o => rfl
 | n + 1, out, o => by
  show (ZdD n (out ++ [(ZlI o).1]) (ZlI o).2).1.length = _
  rw [Zjc n, List.length_append, List.length_singleton]; omega
theorem ZBw (o : OB) : ZlH (ZlI o).1.span := by
 have h1 : (Zcf 20 o).1.length <= 20 := Ze8
 have h2 : (Zcf 20 (Zcf 20 o).2).1.length <= 20 := Ze8
 exact ⟨by show (Zcf 20 o).1.length <= _; omega, by show (Zcf 20 (Zcf 20 o).2).1.length <= _; omega⟩
theorem ZoC : ∀ (n : Nat) (out : List Zaf) (o : OB), (∀ x ∈ out, ZlH x.span) -> ∀ x ∈ (ZdD n out o).1, ZlH x.span
 | 0, out, o, h => h
 | n + 1, out, o, h => ZoC n _ _ fun x hx => by
  rcases List.mem_append.1 hx with hx | hx
  ·exact h x hx
  ·rw [List.mem_singleton.1 hx]; exact ZBw o
abbrev PT := (Int) × (List (Zaf)) × (Bool) × (Int) × (List UInt8) × (List UInt8) × (Int) × (Int) × (Int) × (Int) × (Int) × Unit
@[reducible] def pT (s : Zai) (u : Bool) (x : Zak) : PT := (s.epoch, s.list, u, x.num, x.span.lo, x.span.hi, x.from_, x.to_, x.epoch, x.under, x.stage, ())
theorem ZEf (l : List UInt8) (u : Bool) (x : Zak) (z : Int) : Zff ((), ()) (pT ⟨z, []⟩ u x) (true, false, l, ()) =
 some (true, (((), ()), pT ⟨(ZaB 1073741824 (some l)).1, (ZdD (ZaB 40 (ZaB 1073741824 (some l)).2).1.toNat [] (ZaB 40 (ZaB 1073741824 (some l)).2).2).1⟩ u x, rdR (ZdD (ZaB 40 (ZaB 1073741824 (some l)).2).1.toNat [] (ZaB 40 (ZaB 1073741824 (some l)).2).2).2, (), (), (), ())) := by
 generalize hE : ZaB 1073741824 (some l) = E
 generalize hNn : ZaB 40 E.2 = M
 have hM : 0 <= M.1 /\ M.1 <= 40 := by rw [<- hNn]; exact ZgZ 40 E.2
 obtain ⟨N, hN⟩ : ∃ N : Nat, M.1 = (N : Int) := ⟨M.1.toNat, by omega⟩
 have key : ∀ (k i : Nat) (out : List Zaf) (o : OB), i + k = N -> out.length = i -> Zas Zcs (((), (), (N : Int), (i : Int), ()), (((), ()), pT ⟨E.1, out⟩ u x, rdR o, (), ())) = some ((), (((), ()), pT ⟨E.1, (ZdD k out o).1⟩ u x, rdR (ZdD k out o).2, (), (), ())) := by
  intro k
  induction k with
  | zero =>
   intro i out o hi ho
   refine Zat ?_
   unfold Zcs
   exact Zab (dF (by (try dsimp only); omega)) rfl
  | succ k ih =>
   intro i out o hi ho
   refine (ZaC ?_).trans (ih (i + 1) (out ++ [(ZlI o).1]) (ZlI o).2 (by omega) (by simp [ho]))
   unfold Zcs
   refine Zag (dT (by (try dsimp only); omega)) (Zaa (ZtR 20 (by omega) o) (Zaa (ZtR 20 (by omega) _) (Zaa (Zf2 1073741824 _) (Zaa (Zf2 1073741824 _) (Zbk (by (try dsimp only); simp only [List.length_singleton]; omega) ?_)))))
   dsimp only
   rw [w64 (by omega)]
   rfl
 have h1 := ZFp 1073741824 l
 rw [hE] at h1
 have h2 := Zf2 40 E.2
 rw [hNn] at h2
 unfold Zff
 refine Zaa h1 (Zaa h2 ?_)
 dsimp only
 rw [hN]
 exact Zaa (key N 0 [] M.2 (by omega) rfl) rfl
def Zdf (o : OB) : Zak × OB :=
 let a := ZaB 1073741824 o
 let b := Zcf 20 a.2
 let c := Zcf 20 b.2
 let d := ZaB 4 c.2
 let e := ZaB 4 d.2
 let f := ZaB 1073741824 e.2
 let g := ZaB 1073741824 f.2
 let h := ZaB 9 g.2
 (⟨a.1, ⟨b.1, c.1⟩, d.1, e.1, f.1, g.1, h.1⟩, h.2)
theorem Zvb {x : Zak} (hx : ZlH x.span) : Zhh [x] = some (Zbu x, ()) := by
 have hb : ZiZ x = some (!Zbu x, ()) := Zaa (Zql hx) rfl
 unfold Zhh Zc2 Zex
 cases hr : Zbu x with
 | false =>
  rw [hr] at hb
  have h1 : Zas ZaX (([x], (), (([x] : List Zak).length : Int), 0, ()), ()) = some (.inl ((0, ()), ())) := by
   refine Zat ?_
   unfold ZaX
   exact Zag (dT (by simp)) (Zaa (v := x) rfl (Zaa hb (Zag rfl rfl)))
  exact Zaa (Zaa (Zaa h1 rfl) rfl) rfl
 | true =>
  rw [hr] at hb
  have h1 : Zas ZaX (([x], (), (([x] : List Zak).length : Int), 0, ()), ()) = some (.inr ((), ())) := by
   refine (ZaC (a' := (([x], (), (([x] : List Zak).length : Int), 1, ()), ())) ?_).trans (Zat ?_)
   ·unfold ZaX
    refine Zag (dT (by simp)) (Zaa (v := x) rfl (Zaa hb (Zab rfl ?_)))
    rfl
   ·unfold ZaX
    exact Zab (dF (by simp)) rfl
  exact Zaa (Zaa (Zaa h1 rfl) rfl) rfl
theorem ZwT (o : OB) : Zi0 (rdR o) = some ((if (Zbu (Zdf o).1 && (Zdf o).2.isSome) = true then ((Zdf o).1, true, ()) else (Ziw, false, ())), (rdR (Zdf o).2, ())) := by
 have h1 : (Zcf 20 (ZaB 1073741824 o).2).1.length <= 20 := Ze8
 have h2 : (Zcf 20 (Zcf 20 (ZaB 1073741824 o).2).2).1.length <= 20 := Ze8
 have hok : ZlH (Zdf o).1.span := ⟨by show (Zcf 20 (ZaB 1073741824 o).2).1.length <= _; omega, by show (Zcf 20 (Zcf 20 (ZaB 1073741824 o).2).2).1.length <= _; omega⟩
 have hst := ZgZ 9 (ZaB 1073741824 (ZaB 1073741824 (ZaB 4 (ZaB 4 (Zcf 20 (Zcf 20 (ZaB 1073741824 o).2).2).2).2).2).2).2
 have hw : IntKind.u8.wrap (Zdf o).1.stage = (Zdf o).1.stage := by
  rw [IntKind.wrap_u8]
  have : 0 <= (Zdf o).1.stage /\ (Zdf o).1.stage <= 9 := hst
  omega
 have hR := Zvb hok
 unfold Zi0
 refine Zaa (Zf2 1073741824 o) (Zaa (ZtR 20 (by omega) _) (Zaa (ZtR 20 (by omega) _) (Zaa (Zf2 4 _) (Zaa (Zf2 4 _) (Zaa (Zf2 1073741824 _) (Zaa (Zf2 1073741824 _) (Zaa (Zf2 9 _) ?_)))))))
 dsimp only
 have hx : (⟨(ZaB 1073741824 o).1, ⟨(Zcf 20 (ZaB 1073741824 o).2).1, (Zcf 20 (Zcf 20 (ZaB 1073741824 o).2).2).1⟩, (ZaB 4 (Zcf 20 (Zcf 20 (ZaB 1073741824 o).2).2).2).1, (ZaB 4 (ZaB 4 (Zcf 20 (Zcf 20 (ZaB 1073741824 o).2).2).2).2).1, (ZaB 1073741824 (ZaB 4 (ZaB 4 (Zcf 20 (Zcf 20 (ZaB 1073741824 o).2).2).2).2).2).1, (ZaB 1073741824 (ZaB 1073741824 (ZaB 4 (ZaB 4 (Zcf 20 (Zcf 20 (ZaB 1073741824 o).2).2).2).2).2).2).1, IntKind.u8.wrap (ZaB 9 (ZaB 1073741824 (ZaB 1073741824 (ZaB 4 (ZaB 4 (Zcf 20 (Zcf 20 (ZaB 1073741824 o).2).2).2).2).2).2).2).1⟩ : Zak) = (Zdf o).1 := by
  have : IntKind.u8.wrap (ZaB 9 (ZaB 1073741824 (ZaB 1073741824 (ZaB 4 (ZaB 4 (Zcf 20 (Zcf 20 (ZaB 1073741824 o).2).2).2).2).2).2).2).1 = (Zdf o).1.stage := hw
  rw [this]
  rfl
 rw [hx]
 refine Zaa hR ?_
 cases hr : Zbu (Zdf o).1 with
 | false => exact Zag rfl rfl
 | true =>
  refine Zab rfl ?_
  show (Zh7 (rdR (Zdf o).2)).bind _ = _
  cases h : (Zdf o).2 with
  | none => exact Zaa (v := (0, (rdR none, ()))) rfl (Zag rfl (Zaa (v := (4, (rdR none, ()))) rfl (Zag rfl rfl)))
  | some l =>
   refine Zaa (v := ((l.length : Int), (rdR (some l), ()))) rfl ?_
   cases l with
   | nil => exact Zag rfl (Zaa (v := (0, (rdR (some []), ()))) rfl (Zab rfl rfl))
   | cons b l => exact Zab (dF (by simp only [List.length_cons]; omega)) rfl
def Zdd (l : List UInt8) : (Zai × Bool × Zak × Bool) × OB :=
 let e := ZaB 1073741824 (some l)
 let m := ZaB 40 e.2
 let sh := ZdD m.1.toNat [] m.2
 let f := ZeQ sh.2
 let s : Zai := ⟨e.1, sh.1⟩
 if f.2.isSome = true /\ Za2 s = true then
  if f.1 = true then
   if Zbu (Zdf f.2).1 = true /\ (Zdf f.2).2.isSome = true /\ ¬ (Zdf f.2).1.stage = 6 /\ ¬ (Zdf f.2).1.stage = 9 then ((s, true, (Zdf f.2).1, true), (Zdf f.2).2)
   else ((⟨0, []⟩, false, Ziw, false), (Zdf f.2).2)
  else ((s, false, Ziw, true), f.2)
 else ((⟨0, []⟩, false, Ziw, false), f.2)
theorem ZDl (l : List UInt8) : Zb0 (true, false, l, ()) = some ((⟨(Zdd l).1.1, (Zdd l).1.2.1, (Zdd l).1.2.2.1⟩, (Zdd l).1.2.2.2, ()), (rdR (Zdd l).2, (), ())) := by
 have h1 := ZEf l false Ziw 0
 unfold Zdd
 dsimp only
 generalize ZaB 1073741824 (some l) = e at h1
 have hm := ZgZ 40 e.2
 generalize ZaB 40 e.2 = m at h1 hm
 have hlen := Zjc m.1.toNat [] m.2
 have hoks := ZoC m.1.toNat [] m.2 (fun x hx => by simp at hx)
 generalize ZdD m.1.toNat [] m.2 = sh at h1 hlen hoks
 have hF := ZBv sh.2
 generalize ZeQ sh.2 = f at hF
 have hs : ZyU ⟨e.1, sh.1⟩ := ⟨by (try dsimp only); simp only [List.length_nil] at hlen; omega, hoks⟩
 have hR := Znx hs
 have a1 : ZiW ((), ()) (pT ⟨0, []⟩ false Ziw) (true, false, l, ()) = some (false, (((), ()), pT ⟨e.1, sh.1⟩ false Ziw, rdR sh.2, (), (), (), ())) := Zaa h1 rfl
 by_cases hc : f.2.isSome = true /\ Za2 ⟨e.1, sh.1⟩ = true
 ·rw [if_pos hc]
  obtain ⟨c1, c2⟩ := hc
  have c3 : f.2.isNone = false := by cases h : f.2 <;> simp_all
  have a2 : Zew ((), ()) (pT ⟨e.1, sh.1⟩ false Ziw) (rdR sh.2) = some (false, (((), ()), pT ⟨e.1, sh.1⟩ f.1 Ziw, rdR f.2, (), (), ())) := by
   refine Zaa (v := (true, (((), ()), pT ⟨e.1, sh.1⟩ f.1 Ziw, rdR f.2, (), (), ()))) ?_ rfl
   refine Zaa hF (Zaa (Zsm f.2) (Zag (by rw [c3]; rfl) (Zaa hR ?_)))
   rw [c2]
  cases hu : f.1 with
  | false =>
   rw [if_neg (by simp)]
   rw [hu] at a2
   have a3 : Zc3 (pT ⟨e.1, sh.1⟩ false Ziw) ((), ()) (rdR f.2) = some (false, (pT ⟨e.1, sh.1⟩ false Ziw, ((), ()), rdR f.2, (), (), ())) := Zaa (v := (true, (pT ⟨e.1, sh.1⟩ false Ziw, ((), ()), rdR f.2, (), (), ()))) (Zag rfl rfl) rfl
   unfold Zb0 Zeb Zbb Zby
   exact Zaa (Zaa (Zaa (Zaa a1 (Zab rfl (Zaa a2 (Zab rfl (Zaa a3 (Zab rfl rfl)))))) rfl) rfl) (Zab rfl rfl)
  | true =>
   rw [if_pos rfl]
   rw [hu] at a2
   have hS := ZwT f.2
   by_cases hg : Zbu (Zdf f.2).1 = true /\ (Zdf f.2).2.isSome = true /\ ¬ (Zdf f.2).1.stage = 6 /\ ¬ (Zdf f.2).1.stage = 9
   ·rw [if_pos hg]
    obtain ⟨g1, g2, g3, g4⟩ := hg
    rw [if_pos (by rw [g1, g2]; rfl)] at hS
    have hov := ZyX (Zdf f.2).1
    rw [dF g3, dF g4] at hov
    have a3 : Zc3 (pT ⟨e.1, sh.1⟩ true Ziw) ((), ()) (rdR f.2) = some (false, (pT ⟨e.1, sh.1⟩ true (Zdf f.2).1, ((), ()), rdR (Zdf f.2).2, (), (), ())) :=
     Zaa (v := (true, (pT ⟨e.1, sh.1⟩ true (Zdf f.2).1, ((), ()), rdR (Zdf f.2).2, (), (), ()))) (Zab rfl (Zaa hS (Zag rfl (Zaa hov rfl)))) rfl
    unfold Zb0 Zeb Zbb Zby
    exact Zaa (Zaa (Zaa (Zaa a1 (Zab rfl (Zaa a2 (Zab rfl (Zaa a3 (Zab rfl rfl)))))) rfl) rfl) (Zab rfl rfl)
   ·rw [if_neg hg]
    have a3 : ∃ p : PT, Zc3 (pT ⟨e.1, sh.1⟩ true Ziw) ((), ()) (rdR f.2) = some (true, (p, ((), ()), rdR (Zdf f.2).2, (), (), ())) := by
     by_cases hq : (Zbu (Zdf f.2).1 && (Zdf f.2).2.isSome) = true
     ·rw [if_pos hq] at hS
      simp only [Bool.and_eq_true] at hq
      have hov := ZyX (Zdf f.2).1
      have : (decide ((Zdf f.2).1.stage = 6) || decide ((Zdf f.2).1.stage = 9)) = true := by
       by_cases q1 : (Zdf f.2).1.stage = 6
       ·simp [q1]
       ·by_cases q2 : (Zdf f.2).1.stage = 9
        ·simp [q2]
        ·exact absurd ⟨hq.1, hq.2, q1, q2⟩ hg
      rw [this] at hov
      exact ⟨_, Zaa (Zab rfl (Zaa hS (Zag rfl (Zaa hov rfl)))) rfl⟩
     ·rw [if_neg hq] at hS
      exact ⟨_, Zaa (Zab rfl (Zaa hS (Zab rfl rfl))) rfl⟩
    obtain ⟨p, a3⟩ := a3
    unfold Zb0 Zeb Zbb Zby
    exact Zaa (Zaa (Zaa (Zaa a1 (Zab rfl (Zaa a2 (Zab rfl (Zaa a3 (Zag rfl rfl)))))) rfl) rfl) (Zag rfl rfl)
 ·rw [if_neg hc]
  have a2 : ∃ p : PT, Zew ((), ()) (pT ⟨e.1, sh.1⟩ false Ziw) (rdR sh.2) = some (true, (((), ()), p, rdR f.2, (), (), ())) := by
   cases h2 : f.2 with
   | none =>
    rw [h2] at hF
    refine ⟨pT ⟨e.1, sh.1⟩ f.1 Ziw, Zaa (v := (false, (((), ()), pT ⟨e.1, sh.1⟩ f.1 Ziw, rdR none, (), (), ()))) ?_ rfl⟩
    exact Zaa hF (Zaa (Zsm none) (Zab rfl rfl))
   | some r =>
    rw [h2] at hF hc
    have hw : Za2 ⟨e.1, sh.1⟩ = false := by
     cases h : Za2 ⟨e.1, sh.1⟩
     ·rfl
     ·exact absurd ⟨rfl, h⟩ hc
    refine ⟨pT ⟨e.1, sh.1⟩ f.1 Ziw, Zaa (v := (false, (((), ()), pT ⟨e.1, sh.1⟩ f.1 Ziw, rdR (some r), (), (), ()))) ?_ rfl⟩
    refine Zaa hF (Zaa (Zsm (some r)) (Zag rfl (Zaa hR ?_)))
    rw [hw]
  obtain ⟨p, a2⟩ := a2
  unfold Zb0 Zeb Zbb Zby
  exact Zaa (Zaa (Zaa (Zaa a1 (Zab rfl (Zaa a2 (Zag rfl rfl)))) rfl) rfl) (Zag rfl rfl)
end Go.Proofs.YtaihdjknneiciaaGreat
namespace Go.Proofs.YtaihdjknneiciaaGreat
open Go.RowKit
set_option maxRecDepth 100000
set_option linter.unusedVariables false
set_option linter.unusedSimpArgs false
def Zbo (v : Zac) : Bool := decide (1 <= v.name.client) && (decide (v.name.client <= 8) && (decide (1 <= v.name.num) && (decide (v.name.num <= 1073741824) && (decide (1 <= v.at_) && (decide (v.at_ <= 1073741824) && (decide (v.reads.length <= 6) && ((v.commit || decide (v.reads.length = 0)) && !v.reads.any ZbR)))))))
theorem Zce {v : Zac} : Zbo v = true ↔ (1 <= v.name.client /\ v.name.client <= 8) /\ (1 <= v.name.num /\ v.name.num <= 1073741824) /\ (1 <= v.at_ /\ v.at_ <= 1073741824) /\ v.reads.length <= 6 /\ (v.commit = true \/ v.reads.length = 0) /\ v.reads.any ZbR = false := by
 unfold Zbo
 simp only [Bool.and_eq_true, Bool.or_eq_true, decide_eq_true_eq, Bool.not_eq_true']
 constructor
 ·rintro ⟨a, b, c, d, e, f, g, h, i⟩; exact ⟨⟨a, b⟩, ⟨c, d⟩, ⟨e, f⟩, g, h, i⟩
 ·rintro ⟨⟨a, b⟩, ⟨c, d⟩, ⟨e, f⟩, g, h, i⟩; exact ⟨a, b, c, d, e, f, g, h, i⟩
theorem ZCK {v : Zac} (hx : ∀ x ∈ v.reads, OkT x.key) (hl : v.reads.length <= 140737488355328) : Zgf v = some (!Zbo v, ()) := by
 have ha := ZFk hx hl
 unfold Zgf Zbo
 have hn : Zqi v.name = some (decide (1 <= v.name.client) && (decide (v.name.client <= 8) && (decide (1 <= v.name.num) && decide (v.name.num <= 1073741824))), ()) := by
  unfold Zqi
  cases decide ((1 : Int) <= v.name.client)
  ·rfl
  cases decide ((v.name.client : Int) <= 8)
  ·rfl
  cases decide ((1 : Int) <= v.name.num) <;> rfl
 refine Zaa hn ?_
 dsimp only
 cases h1 : decide (1 <= v.name.client)
 ·rfl
 cases h2 : decide (v.name.client <= 8)
 ·rfl
 cases h3 : decide (1 <= v.name.num)
 ·rfl
 cases h4 : decide (v.name.num <= 1073741824)
 ·rfl
 simp only [Bool.true_and, Bool.not_true, cond_false]
 by_cases h5 : v.at_ < 1
 ·refine Zag (dT h5) ?_
  rw [decide_eq_false (by omega : ¬ 1 <= v.at_)]; rfl
 refine Zab (dF h5) ?_
 rw [decide_eq_true (by omega : 1 <= v.at_), Bool.true_and]
 by_cases h6 : 1073741824 < v.at_
 ·refine Zag (dT h6) ?_
  rw [decide_eq_false (by omega : ¬ v.at_ <= 1073741824)]; rfl
 refine Zab (dF h6) ?_
 rw [decide_eq_true (by omega : v.at_ <= 1073741824), Bool.true_and]
 by_cases h7 : (6 : Int) < (v.reads.length : Int)
 ·refine Zag (dT h7) ?_
  rw [decide_eq_false (by omega : ¬ v.reads.length <= 6)]; rfl
 refine Zab (dF h7) ?_
 rw [decide_eq_true (by omega : v.reads.length <= 6), Bool.true_and]
 cases h8 : v.commit
 ·by_cases h9 : (0 : Int) < (v.reads.length : Int)
  ·refine Zag rfl (Zag (dT h9) ?_)
   rw [decide_eq_false (by omega : ¬ v.reads.length = 0)]; rfl
  ·refine Zag rfl (Zab (dF h9) (Zaa ha ?_))
   rw [decide_eq_true (by omega : v.reads.length = 0)]
   simp
 ·refine Zab rfl (Zaa ha ?_)
  simp
theorem ZEg {v : Zac} (hx : ∀ x ∈ v.reads, OkT x.key) (hl : v.reads.length <= 140737488355328) : Zho [v] = some (Zbo v, ()) := by
 have hb := ZCK hx hl
 unfold Zho Zc4 ZeC
 cases hr : Zbo v with
 | false =>
  rw [hr] at hb
  have h1 : Zas ZaY (([v], (), (([v] : List Zac).length : Int), 0, ()), ()) = some (.inl ((0, ()), ())) := by
   refine Zat ?_
   unfold ZaY
   exact Zag (dT (by simp)) (Zaa (v := v) rfl (Zaa hb (Zag rfl rfl)))
  exact Zaa (Zaa (Zaa h1 rfl) rfl) rfl
 | true =>
  rw [hr] at hb
  have h1 : Zas ZaY (([v], (), (([v] : List Zac).length : Int), 0, ()), ()) = some (.inr ((), ())) := by
   refine (ZaC (a' := (([v], (), (([v] : List Zac).length : Int), 1, ()), ())) ?_).trans (Zat ?_)
   ·unfold ZaY
    refine Zag (dT (by simp)) (Zaa (v := v) rfl (Zaa hb (Zab rfl ?_)))
    rfl
   ·unfold ZaY
    exact Zab (dF (by simp)) rfl
  exact Zaa (Zaa (Zaa h1 rfl) rfl) rfl
def Zvc (l : List Zac) : Int := (l.getLast?.map (·.at_)).getD 0
theorem ZFs (l : List Zac) (m : Nm) (hl : l.length <= 1000000) : Zi3 (l, (), ()) m = some (Zvc l, ((l, (), ()), m, (), (), ())) := by
 unfold Zi3
 by_cases h0 : l = []
 ·subst h0; exact Zag rfl rfl
 ·have hp : 0 < l.length := List.length_pos_iff.2 h0
  have hg : l.getLast? = some l[l.length - 1] := by rw [List.getLast?_eq_getElem?, List.getElem?_eq_getElem]
  refine Zab (dF (by (try dsimp only); omega)) (Zaa (v := l[l.length - 1]) ?_ ?_)
  ·dsimp only
   rw [w64 (by omega), show (l.length : Int) - 1 = ((l.length - 1 : Nat) : Int) from by omega]
   exact ZaE (by omega)
  ·unfold Zvc
   rw [hg]
   rfl
def ZlJ (l : List Zac) (m : Nm) (v : Zac) : (Zac × Int) × List Zac × Nm :=
 if Zbo v = true then match ZiI (.two .i64 .i64) m (nk v.name) with
  | some i => ((l.getD i.toNat noV, 0), l, m)
  | none => if v.at_ <= Zvc l then ((noV, 2), l, m) else ((v, 0), l ++ [v], Zvl (.two .i64 .i64) m (nk v.name) (l.length : Int))
 else ((noV, 2), l, m)
theorem ZCL {l : List Zac} {m : Nm} (h : Zjp l m) (v : Zac) (hv : v.reads.length <= 1000) (hx : ∀ x ∈ v.reads, OkT x.key) (hl : l.length <= 1000000) :
 Zgg v (l, (), ()) m = some (((ZlJ l m v).1.1, (ZlJ l m v).1.2, ()), (((ZlJ l m v).2.1, (), ()), (ZlJ l m v).2.2, (), (), ())) := by
 have hb := ZEg hx (by omega)
 have ha := ZFs l m hl
 unfold Zgg
 have hk : Zb1 (l, (), ()) m = some (true, ((l, (), ()), m, (), (), ())) := rfl
 refine Zaa hk (Zab rfl (Zaa hb ?_))
 unfold ZlJ
 cases hr : Zbo v with
 | false => exact Zag rfl rfl
 | true =>
  rw [if_pos rfl]
  refine Zab rfl ?_
  rcases ZFl h v.name with ⟨h1, h2⟩ | ⟨k, hk', h1, h2⟩
  ·rw [h1]
   refine Zaa h2 (Zab rfl (Zaa ha ?_))
   dsimp only
   by_cases hc : v.at_ <= Zvc l
   ·rw [if_pos hc]
    exact Zag (dT hc) rfl
   ·rw [if_neg hc]
    obtain ⟨p1, p2⟩ := ZFm h v (by obtain ⟨_, _, _, q, _⟩ := Zce.1 hr; omega) hl h1
    exact Zab (dF hc) (Zaa p1 (Zaa (Zny (by omega)) rfl))
  ·have hm := h.at_ k hk'
   rw [h1] at hm
   rw [hm]
   refine Zaa h2 (Zag rfl ?_)
   dsimp only
   rw [Int.toNat_natCast, List.getD_eq_getElem?_getD, List.getElem?_eq_getElem hk']
   rfl
inductive Bks : List Zac -> Nm -> Prop
 | nil : Bks [] []
 | snoc {l m v} : Bks l m -> Zbo v = true -> (∀ x ∈ v.reads, OkT x.key) -> ZiI (.two .i64 .i64) m (nk v.name) = none -> Zvc l < v.at_ -> l.length <= 100000 -> Bks (l ++ [v]) (Zvl (.two .i64 .i64) m (nk v.name) (l.length : Int))
theorem Bks.ok {l : List Zac} {m : Nm} (h : Bks l m) : Zjp l m := by
 induction h with
 | nil => exact Zjp.nil
 | snoc _ h1 _ h2 _ h3 ih => exact (ZFm ih _ (by obtain ⟨_, _, _, q, _⟩ := Zce.1 h1; omega) (by omega) h2).2
theorem Bks.all {l : List Zac} {m : Nm} (h : Bks l m) : ∀ v ∈ l, Zbo v = true /\ ∀ x ∈ v.reads, OkT x.key := by
 induction h with
 | nil => intro v hv; simp at hv
 | snoc _ h1 h1x h2 _ h3 ih =>
  intro v hv
  rcases List.mem_append.1 hv with hv | hv
  ·exact ih v hv
  ·rw [List.mem_singleton.1 hv]; exact ⟨h1, h1x⟩
theorem Bks.dec {l : List Zac} {m : Nm} (h : Bks l m) {v : Zac} (hx : ∀ x ∈ v.reads, OkT x.key) (hl : l.length <= 100000) : Bks (ZlJ l m v).2.1 (ZlJ l m v).2.2 /\ (ZlJ l m v).2.1.length <= l.length + 1 /\ ((ZlJ l m v).1.2 ≠ 0 -> (ZlJ l m v).2.1 = l /\ (ZlJ l m v).2.2 = m) := by
 unfold ZlJ
 split
 ·rename_i hr
  split
  ·exact ⟨h, by (try dsimp only); omega, fun _ => ⟨rfl, rfl⟩⟩
  ·rename_i hg
   split
   ·exact ⟨h, by (try dsimp only); omega, fun _ => ⟨rfl, rfl⟩⟩
   ·exact ⟨.snoc h hr hx hg (by omega) hl, by simp, fun h => absurd rfl h⟩
 ·exact ⟨h, by (try dsimp only); omega, fun _ => ⟨rfl, rfl⟩⟩
def rdB (r : ZaZ) : List UInt8 := Zeh r.key ++ ZdR r.is ++ Zeh r.value
def ZwU (l : List ZaZ) : List UInt8 := (l.map rdB).flatten
def ZEG (v : Zac) : List UInt8 := ZeP [v.name.client, v.name.num, v.at_] ++ ZdR v.commit ++ ZeP [(v.reads.length : Int)] ++ ZwU v.reads
def ZhS (l : List Zac) : List UInt8 := (l.map ZEG).flatten
theorem Zsn (l : List ZaZ) (x : ZaZ) : ZwU (l ++ [x]) = ZwU l ++ rdB x := by simp [ZwU]
theorem ZoD (l : List Zac) (x : Zac) : ZhS (l ++ [x]) = ZhS l ++ ZEG x := by simp [ZhS]
theorem ZoE {v : Zac} (h : Zbo v = true) {x : ZaZ} (hx : x ∈ v.reads) : x.key.length <= 20 /\ x.value.length <= 20 /\ ZbR x = false := by
 obtain ⟨_, _, _, _, _, q⟩ := Zce.1 h
 have hw : ZbR x = false := by
  cases hq : ZbR x
  ·rfl
  ·exact absurd (List.any_eq_true.2 ⟨x, hx, hq⟩) (by rw [q]; simp)
 unfold ZbR at hw
 simp only [Bool.or_eq_false_iff, Bool.not_eq_false', decide_eq_false_iff_not] at hw
 exact ⟨Zu7 hw.1, by omega, by unfold ZbR; simp only [Bool.or_eq_false_iff, Bool.not_eq_false', decide_eq_false_iff_not]; exact hw⟩
theorem ZEh {v : Zac} (h : Zbo v = true) {x : ZaZ} (hx : x ∈ v.reads) : (rdB x).length <= 59 := by
 obtain ⟨h1, h2, _⟩ := ZoE h hx
 have r1 := Zb9 h1
 have r2 := Zb9 h2
 unfold rdB
 simp only [List.length_append, ZdR, List.length_singleton]
 omega
theorem Zvd {v : Zac} (h : Zbo v = true) (i : Nat) : (ZwU (v.reads.take i)).length <= 59 * i := by
 induction i with
 | zero => simp [ZwU]
 | succ i ih =>
  by_cases hi : i < v.reads.length
  ·rw [List.take_succ_eq_append_getElem hi, Zsn, List.length_append]
   have := ZEh h (List.getElem_mem hi)
   omega
  ·rw [List.take_of_length_le (by omega)]
   rw [List.take_of_length_le (by omega)] at ih
   omega
theorem Zve {v : Zac} (h : Zbo v = true) : ([v.name.client, v.name.num, v.at_] : List Int).all Zdy = true /\ ([(v.reads.length : Int)] : List Int).all Zdy = true := by
 obtain ⟨h1, h2, h3, h4, _⟩ := Zce.1 h
 constructor
 ·simp [Zix (x := v.name.client) (by omega) (by omega), Zix (x := v.name.num) (by omega) (by omega), Zix (x := v.at_) (by omega) (by omega)]
 ·simp [Zix (x := (v.reads.length : Int)) (by omega) (by omega)]
theorem ZCM {v : Zac} (h : Zbo v = true) : (ZEG v).length <= 400 := by
 obtain ⟨g1, g2⟩ := Zve h
 have l1 := Zbh _ g1
 have l2 := Zbh _ g2
 have l3 := Zvd h v.reads.length
 obtain ⟨_, _, _, q, _⟩ := Zce.1 h
 rw [List.take_length] at l3
 unfold ZEG
 simp only [List.length_append, ZdR, List.length_cons, List.length_nil] at *
 omega
theorem Zso {l : List Zac} (h : ∀ v ∈ l, Zbo v = true) (i : Nat) : (ZhS (l.take i)).length <= 400 * i := by
 induction i with
 | zero => simp [ZhS]
 | succ i ih =>
  by_cases hi : i < l.length
  ·rw [List.take_succ_eq_append_getElem hi, ZoD, List.length_append]
   have := ZCM (h _ (List.getElem_mem hi))
   omega
  ·rw [List.take_of_length_le (by omega)]
   rw [List.take_of_length_le (by omega)] at ih
   omega
theorem ZCN {v : Zac} (h : Zbo v = true) {l : List Zac} {L i : Int} {sp : Bool} {b : List UInt8} (hb : b.length <= 30000000) : Zas Zcv (((), l, L, i, v.reads, (v.reads.length : Int), 0, ()), ((true, sp, b, ()), (), ())) = some (((), l, L, i, ()), ((true, sp, b ++ ZwU v.reads, ()), (), (), ())) := by
 obtain ⟨_, _, _, q, _⟩ := Zce.1 h
 have h0 : b = b ++ ZwU (v.reads.take 0) := by simp [ZwU]
 conv => lhs; rw [h0]
 refine Zbg (step := Zcv) (fun k : Nat => (((), l, L, i, v.reads, (v.reads.length : Int), (k : Int), ()), ((true, sp, b ++ ZwU (v.reads.take k), ()), (), ()))) (N := v.reads.length) (fun k hk => ?_) ?_
 ·obtain ⟨g1, g2, _⟩ := ZoE h (List.getElem_mem hk)
  have hsl := Zvd h k
  have r1 := Zb9 g1
  have t1 := ZEc (t := v.reads[k].key) (sp := sp) (b := b ++ ZwU (v.reads.take k)) (by omega) (by rw [List.length_append]; omega)
  have f1 := Zy0 v.reads[k].is sp (b := b ++ ZwU (v.reads.take k) ++ Zeh v.reads[k].key) (by simp only [List.length_append]; omega)
  have t2 := ZCH (t := v.reads[k].value) (sp := sp) (b := b ++ ZwU (v.reads.take k) ++ Zeh v.reads[k].key ++ ZdR v.reads[k].is) (by omega) (by simp only [List.length_append, ZdR, List.length_singleton]; omega)
  unfold Zcv
  refine Zag (dT (by (try dsimp only); omega)) (Zaa (ZaE hk) (Zaa t1 (Zaa f1 (Zaa t2 ?_))))
  dsimp only
  rw [w64 (by omega), List.take_succ_eq_append_getElem hk, Zsn]
  unfold rdB
  simp only [List.append_assoc]
  rfl
 ·unfold Zcv
  refine Zab (dF (by (try dsimp only); omega)) ?_
  dsimp only
  rw [List.take_length]
theorem ZCO {l : List Zac} (h : ∀ v ∈ l, Zbo v = true) (hl : l.length <= 5000) (m : Nm) {sp : Bool} {b : List UInt8} (hb : b.length <= 10000) : Zht (l, (), ()) (true, sp, b, ()) m = some ((), ((l, (), ()), (true, sp, b ++ (ZeP [(l.length : Int)] ++ ZhS l), ()), m, (), (), (), (), ())) := by
 have hg : ([(l.length : Int)] : List Int).all Zdy = true := by simp [Zix (x := (l.length : Int)) (by omega) (by omega)]
 have l1 := Zbh _ hg
 simp only [List.length_cons, List.length_nil] at l1
 have n1 := ZnA (sp := sp) (b := b) hg (by simp) (by omega)
 generalize hC : b ++ ZeP [(l.length : Int)] = C at n1
 have hCl : C.length <= 10009 := by rw [<- hC, List.length_append]; omega
 have key : Zas Zcw (((), l, (l.length : Int), 0, ()), ((true, sp, C, ()), (), ())) = some (((), ()), ((true, sp, C ++ ZhS l, ()), (), (), ())) := by
  have h0 : C = C ++ ZhS (l.take 0) := by simp [ZhS]
  conv => lhs; rw [h0]
  refine Zbg (step := Zcw) (fun i : Nat => (((), l, (l.length : Int), (i : Int), ()), ((true, sp, C ++ ZhS (l.take i), ()), (), ()))) (N := l.length) (fun i hi => ?_) ?_
  ·have hv := h _ (List.getElem_mem hi)
   obtain ⟨g1, g2⟩ := Zve hv
   have c1 := Zbh _ g1
   have c2 := Zbh _ g2
   simp only [List.length_cons, List.length_nil] at c1 c2
   have hbl := Zso h i
   have n1 := ZnA (sp := sp) (b := C ++ ZhS (l.take i)) g1 (by simp) (by rw [List.length_append]; omega)
   have f1 := Zy0 l[i].commit sp (b := C ++ ZhS (l.take i) ++ ZeP [l[i].name.client, l[i].name.num, l[i].at_]) (by simp only [List.length_append]; omega)
   have n2 := ZnB (sp := sp) (b := C ++ ZhS (l.take i) ++ ZeP [l[i].name.client, l[i].name.num, l[i].at_] ++ ZdR l[i].commit) g2 (by simp) (by simp only [List.length_append, ZdR, List.length_singleton]; omega)
   have w := ZCN hv (l := l) (L := (l.length : Int)) (i := (i : Int)) (sp := sp) (b := C ++ ZhS (l.take i) ++ ZeP [l[i].name.client, l[i].name.num, l[i].at_] ++ ZdR l[i].commit ++ ZeP [(l[i].reads.length : Int)]) (by simp only [List.length_append, ZdR, List.length_singleton]; omega)
   unfold Zcw
   refine Zag (dT (by (try dsimp only); omega)) (Zaa (ZaE hi) (Zaa n1 (Zaa f1 (Zaa n2 (Zaa w ?_)))))
   dsimp only
   rw [w64 (by omega), List.take_succ_eq_append_getElem hi, ZoD]
   unfold ZEG
   simp only [List.append_assoc]
   rfl
  ·unfold Zcw
   refine Zab (dF (by (try dsimp only); omega)) ?_
   dsimp only
   rw [List.take_length]
 unfold Zht
 refine Zaa (v := (true, ((l, (), ()), m, (), (), ()))) rfl (Zab rfl (Zaa n1 (Zaa key ?_)))
 rw [<- List.append_assoc, hC]
def ZoF (o : OB) : ZaZ × OB := (⟨(Zcf 20 o).1, (ZeQ (Zcf 20 o).2).1, (Zcf 20 (ZeQ (Zcf 20 o).2).2).1⟩, (Zcf 20 (ZeQ (Zcf 20 o).2).2).2)
def ZhK : Nat -> List ZaZ -> OB -> List ZaZ × OB
 | 0, out, o => (out, o)
 | n + 1, out, o => ZhK n (out ++ [(ZoF o).1]) (ZoF o).2
def Zgt (o : OB) : Zac × OB :=
 let a := ZaB 1073741824 o
 let b := ZaB 1073741824 a.2
 let c := ZaB 1073741824 b.2
 let f := ZeQ c.2
 let k := ZaB 6 f.2
 let r := ZhK k.1.toNat [] k.2
 (⟨⟨a.1, b.1⟩, f.1, c.1, r.1⟩, r.2)
theorem ZGz (o : OB) : ZkV (rdR o) = some ((Zgt o).1, (rdR (Zgt o).2, ())) := by
 unfold ZkV Zgt
 dsimp only
 refine Zaa (Zf2 1073741824 o) ?_
 generalize ZaB 1073741824 o = a
 refine Zaa (Zf2 1073741824 a.2) ?_
 generalize ZaB 1073741824 a.2 = b
 refine Zaa (Zf2 1073741824 b.2) ?_
 generalize ZaB 1073741824 b.2 = c
 refine Zaa (ZBv c.2) ?_
 generalize ZeQ c.2 = f
 refine Zaa (Zf2 6 f.2) ?_
 have hk := ZgZ 6 f.2
 generalize ZaB 6 f.2 = k at hk
 obtain ⟨N, hN⟩ : ∃ N : Nat, k.1 = (N : Int) := ⟨k.1.toNat, by omega⟩
 have key : ∀ (j i : Nat) (out : List ZaZ) (o : OB), i + j = N -> out.length = i -> Zas Zez (((), (), (), (N : Int), (i : Int), ()), (rdR o, (0, 0, false, 0, [], ()), (a.1, b.1, f.1, c.1, out, ()), (), (), ())) = some (((), (), ()), (rdR (ZhK j out o).2, (0, 0, false, 0, [], ()), (a.1, b.1, f.1, c.1, (ZhK j out o).1, ()), (), (), (), (), ())) := by
  intro j
  induction j with
  | zero =>
   intro i out o hi ho
   refine Zat ?_
   unfold Zez
   exact Zab (dF (by (try dsimp only); omega)) rfl
  | succ j ih =>
   intro i out o hi ho
   refine (ZaC ?_).trans (ih (i + 1) (out ++ [(ZoF o).1]) (ZoF o).2 (by omega) (by simp [ho]))
   unfold Zez
   refine Zag (dT (by (try dsimp only); omega)) (Zaa (ZtR 20 (by omega) o) (Zaa (ZBv _) (Zaa (ZtR 20 (by omega) _) (Zbk (by (try dsimp only); simp only [List.length_singleton]; omega) ?_))))
   dsimp only
   rw [w64 (by omega)]
   rfl
 dsimp only
 rw [hN]
 rw [Int.toNat_natCast]
 exact Zaa (key N 0 [] k.2 (by omega) rfl) rfl
theorem ZCP (o : OB) : OkT (ZoF o).1.key := by
 have h1 : (Zcf 20 o).1.length <= 20 := Ze8
 show (Zcf 20 o).1.length <= _
 omega
end Go.Proofs.YtaihdjknneiciaaGreat
