/- How a plan is read; what is written, read (round 21Z: RegistryTurns). -/
import Derived.Test.YtaihdjknneiciaaGreatWxt
namespace Go.Proofs.YtaihdjknneiciaaGreat
open Go.RowKit
set_option maxRecDepth 100000
set_option linter.unusedVariables false
set_option linter.unusedSimpArgs false
abbrev OB := Option (List UInt8)
theorem numO_in (most : Nat) (o : OB) : 0 ≤ (numO most o).1 ∧ (numO most o).1 ≤ most := by
  cases h : (numO most o).2 with
  | some l => exact numO_le h
  | none =>
    have : (numO most o).1 = 0 := by
      cases o with
      | none => rfl
      | some x =>
        unfold numO at h ⊢
        dsimp only at h ⊢
        cases hn : numR most x with
        | none => rfl
        | some p => rw [hn] at h; cases h
    omega
theorem rowO_small {most : Nat} {o : OB} : (rowO most o).1.length ≤ most := by
  unfold rowO
  cases h : (numO most o).2 with
  | none => exact Nat.zero_le _
  | some l =>
    have := numO_le h
    dsimp only
    split
    · exact Nat.zero_le _
    · dsimp only
      rw [List.length_take]; omega
/-- A flag, read. -/
def flagO : OB → Bool × OB
  | some (b :: l) => if 1 < (b.toNat : Int) then (false, none) else (decide ((b.toNat : Int) = 1), some l)
  | _ => (false, none)
theorem flagO_cons (b : UInt8) (l : List UInt8) : flagO (some (b :: l)) = if 1 < (b.toNat : Int) then (false, none) else (decide ((b.toNat : Int) = 1), some l) := rfl
theorem Flag_p (o : OB) : wire_Flag (rdR o) = some ((flagO o).1, (rdR (flagO o).2, ())) := by
  unfold wire_Flag
  cases o with
  | none => exact bindS (v := (false, (rdR none, ()))) rfl (condT rfl rfl)
  | some l =>
    refine bindS (v := (true, (rdR (some l), ()))) rfl (condF rfl ?_)
    cases l with
    | nil => exact bindS (take0_p (by decide)) (condT rfl rfl)
    | cons b l =>
      refine bindS (take1_p b l) (condF rfl (bindS (v := b) rfl ?_))
      rw [flagO_cons]
      by_cases h : (1 : Int) < (b.toNat : Int)
      · rw [if_pos h]
        exact condT (dT h) rfl
      · rw [if_neg h]
        exact condF (dF h) rfl
theorem rfailed_p (o : OB) : registry_failed (rdR o) = some (o.isNone, (rdR o, ())) := by
  unfold registry_failed
  cases o with
  | none => exact bindS (v := (0, (rdR none, ()))) rfl (condT rfl (bindS (v := (4, (rdR none, ()))) rfl rfl))
  | some l =>
    refine bindS (v := ((l.length : Int), (rdR (some l), ()))) rfl ?_
    cases l with
    | nil => exact condT rfl (bindS (v := (0, (rdR (some []), ()))) rfl rfl)
    | cons b l => exact condF (dF (by simp only [List.length_cons]; omega)) rfl
theorem bfailed_p (o : OB) : ruling_Read1 ((), ()) (rdR o) = some (o.isNone, (((), ()), rdR o, ())) := by
  unfold ruling_Read1
  cases o with
  | none => exact bindS (v := (0, (rdR none, ()))) rfl (condT rfl (bindS (v := (4, (rdR none, ()))) rfl rfl))
  | some l =>
    refine bindS (v := ((l.length : Int), (rdR (some l), ()))) rfl ?_
    cases l with
    | nil => exact condT rfl (bindS (v := (0, (rdR (some []), ()))) rfl rfl)
    | cons b l => exact condF (dF (by simp only [List.length_cons]; omega)) rfl
/-- A share, shares, read. -/
def shareO (o : OB) : DShare × OB := (⟨⟨(rowO 20 o).1, (rowO 20 (rowO 20 o).2).1⟩, (numO 1073741824 (rowO 20 (rowO 20 o).2).2).1, (numO 1073741824 (numO 1073741824 (rowO 20 (rowO 20 o).2).2).2).1⟩, (numO 1073741824 (numO 1073741824 (rowO 20 (rowO 20 o).2).2).2).2)
def sharesN : Nat → List DShare → OB → List DShare × OB
  | 0, out, o => (out, o)
  | n + 1, out, o => sharesN n (out ++ [(shareO o).1]) (shareO o).2
theorem sharesN_len : ∀ (n : Nat) (out : List DShare) (o : OB), (sharesN n out o).1.length = out.length + n
  | 0, out, o => rfl
  | n + 1, out, o => by
    show (sharesN n (out ++ [(shareO o).1]) (shareO o).2).1.length = _
    rw [sharesN_len n, List.length_append, List.length_singleton]; omega
theorem shareO_ok (o : OB) : OkSp (shareO o).1.span := by
  have h1 : (rowO 20 o).1.length ≤ 20 := rowO_small
  have h2 : (rowO 20 (rowO 20 o).2).1.length ≤ 20 := rowO_small
  exact ⟨by show (rowO 20 o).1.length ≤ _; omega, by show (rowO 20 (rowO 20 o).2).1.length ≤ _; omega⟩
theorem sharesN_ok : ∀ (n : Nat) (out : List DShare) (o : OB), (∀ x ∈ out, OkSp x.span) → ∀ x ∈ (sharesN n out o).1, OkSp x.span
  | 0, out, o, h => h
  | n + 1, out, o, h => sharesN_ok n _ _ fun x hx => by
    rcases List.mem_append.1 hx with hx | hx
    · exact h x hx
    · rw [List.mem_singleton.1 hx]; exact shareO_ok o
abbrev PT := (Int) × (List (DShare)) × (Bool) × (Int) × (List UInt8) × (List UInt8) × (Int) × (Int) × (Int) × (Int) × (Int) × Unit
@[reducible] def pT (s : DShares) (u : Bool) (x : DScheme) : PT := (s.epoch, s.list, u, x.num, x.span.lo, x.span.hi, x.from_, x.to_, x.epoch, x.under, x.stage, ())
theorem read1_p (l : List UInt8) (u : Bool) (x : DScheme) (z : Int) : registry_read1 ((), ()) (pT ⟨z, []⟩ u x) (true, false, l, ()) =
    some (true, (((), ()), pT ⟨(numO 1073741824 (some l)).1, (sharesN (numO 40 (numO 1073741824 (some l)).2).1.toNat [] (numO 40 (numO 1073741824 (some l)).2).2).1⟩ u x, rdR (sharesN (numO 40 (numO 1073741824 (some l)).2).1.toNat [] (numO 40 (numO 1073741824 (some l)).2).2).2, (), (), (), ())) := by
  generalize hE : numO 1073741824 (some l) = E
  generalize hNn : numO 40 E.2 = M
  have hM : 0 ≤ M.1 ∧ M.1 ≤ 40 := by rw [← hNn]; exact numO_in 40 E.2
  obtain ⟨N, hN⟩ : ∃ N : Nat, M.1 = (N : Int) := ⟨M.1.toNat, by omega⟩
  have key : ∀ (k i : Nat) (out : List DShare) (o : OB), i + k = N → out.length = i → loopM registry_read1_l1 (((), (), (N : Int), (i : Int), ()), (((), ()), pT ⟨E.1, out⟩ u x, rdR o, (), ())) = some ((), (((), ()), pT ⟨E.1, (sharesN k out o).1⟩ u x, rdR (sharesN k out o).2, (), (), ())) := by
    intro k
    induction k with
    | zero =>
      intro i out o hi ho
      refine loopM_end ?_
      unfold registry_read1_l1
      exact condF (dF (by (try dsimp only); omega)) rfl
    | succ k ih =>
      intro i out o hi ho
      refine (loopM_next ?_).trans (ih (i + 1) (out ++ [(shareO o).1]) (shareO o).2 (by omega) (by simp [ho]))
      unfold registry_read1_l1
      refine condT (dT (by (try dsimp only); omega)) (bindS (Text_p 20 (by omega) o) (bindS (Text_p 20 (by omega) _) (bindS (Num2_p 1073741824 _) (bindS (Num2_p 1073741824 _) (iteT (by (try dsimp only); simp only [List.length_singleton]; omega) ?_)))))
      dsimp only
      rw [w64 (by omega)]
      rfl
  have h1 := Num1_p 1073741824 l
  rw [hE] at h1
  have h2 := Num2_p 40 E.2
  rw [hNn] at h2
  unfold registry_read1
  refine bindS h1 (bindS h2 ?_)
  dsimp only
  rw [hN]
  exact bindS (key N 0 [] M.2 (by omega) rfl) rfl
/-- A handoff, read. -/
def schO (o : OB) : DScheme × OB :=
  let a := numO 1073741824 o
  let b := rowO 20 a.2
  let c := rowO 20 b.2
  let d := numO 4 c.2
  let e := numO 4 d.2
  let f := numO 1073741824 e.2
  let g := numO 1073741824 f.2
  let h := numO 9 g.2
  (⟨a.1, ⟨b.1, c.1⟩, d.1, e.1, f.1, g.1, h.1⟩, h.2)
theorem SchemeRight_p {x : DScheme} (hx : OkSp x.span) : scheme_Right [x] = some (rightS x, ()) := by
  have hb : scheme_Right1 x = some (!rightS x, ()) := bindS (rightS_p hx) rfl
  unfold scheme_Right slices_ContainsFunc_3 slices_IndexFunc_6
  cases hr : rightS x with
  | false =>
    rw [hr] at hb
    have h1 : loopM slices_IndexFunc_6_l1 (([x], (), (([x] : List DScheme).length : Int), 0, ()), ()) = some (.inl ((0, ()), ())) := by
      refine loopM_end ?_
      unfold slices_IndexFunc_6_l1
      exact condT (dT (by simp)) (bindS (v := x) rfl (bindS hb (condT rfl rfl)))
    exact bindS (bindS (bindS h1 rfl) rfl) rfl
  | true =>
    rw [hr] at hb
    have h1 : loopM slices_IndexFunc_6_l1 (([x], (), (([x] : List DScheme).length : Int), 0, ()), ()) = some (.inr ((), ())) := by
      refine (loopM_next (a' := (([x], (), (([x] : List DScheme).length : Int), 1, ()), ())) ?_).trans (loopM_end ?_)
      · unfold slices_IndexFunc_6_l1
        refine condT (dT (by simp)) (bindS (v := x) rfl (bindS hb (condF rfl ?_)))
        rfl
      · unfold slices_IndexFunc_6_l1
        exact condF (dF (by simp)) rfl
    exact bindS (bindS (bindS h1 rfl) rfl) rfl
theorem SchemeRead_p (o : OB) : scheme_Read (rdR o) = some ((if (rightS (schO o).1 && (schO o).2.isSome) = true then ((schO o).1, true, ()) else (noSc, false, ())), (rdR (schO o).2, ())) := by
  have h1 : (rowO 20 (numO 1073741824 o).2).1.length ≤ 20 := rowO_small
  have h2 : (rowO 20 (rowO 20 (numO 1073741824 o).2).2).1.length ≤ 20 := rowO_small
  have hok : OkSp (schO o).1.span := ⟨by show (rowO 20 (numO 1073741824 o).2).1.length ≤ _; omega, by show (rowO 20 (rowO 20 (numO 1073741824 o).2).2).1.length ≤ _; omega⟩
  have hst := numO_in 9 (numO 1073741824 (numO 1073741824 (numO 4 (numO 4 (rowO 20 (rowO 20 (numO 1073741824 o).2).2).2).2).2).2).2
  have hw : IntKind.u8.wrap (schO o).1.stage = (schO o).1.stage := by
    rw [IntKind.wrap_u8]
    have : 0 ≤ (schO o).1.stage ∧ (schO o).1.stage ≤ 9 := hst
    omega
  have hR := SchemeRight_p hok
  unfold scheme_Read
  refine bindS (Num2_p 1073741824 o) (bindS (Text_p 20 (by omega) _) (bindS (Text_p 20 (by omega) _) (bindS (Num2_p 4 _) (bindS (Num2_p 4 _) (bindS (Num2_p 1073741824 _) (bindS (Num2_p 1073741824 _) (bindS (Num2_p 9 _) ?_)))))))
  dsimp only
  have hx : (⟨(numO 1073741824 o).1, ⟨(rowO 20 (numO 1073741824 o).2).1, (rowO 20 (rowO 20 (numO 1073741824 o).2).2).1⟩, (numO 4 (rowO 20 (rowO 20 (numO 1073741824 o).2).2).2).1, (numO 4 (numO 4 (rowO 20 (rowO 20 (numO 1073741824 o).2).2).2).2).1, (numO 1073741824 (numO 4 (numO 4 (rowO 20 (rowO 20 (numO 1073741824 o).2).2).2).2).2).1, (numO 1073741824 (numO 1073741824 (numO 4 (numO 4 (rowO 20 (rowO 20 (numO 1073741824 o).2).2).2).2).2).2).1, IntKind.u8.wrap (numO 9 (numO 1073741824 (numO 1073741824 (numO 4 (numO 4 (rowO 20 (rowO 20 (numO 1073741824 o).2).2).2).2).2).2).2).1⟩ : DScheme) = (schO o).1 := by
    have : IntKind.u8.wrap (numO 9 (numO 1073741824 (numO 1073741824 (numO 4 (numO 4 (rowO 20 (rowO 20 (numO 1073741824 o).2).2).2).2).2).2).2).1 = (schO o).1.stage := hw
    rw [this]
    rfl
  rw [hx]
  refine bindS hR ?_
  cases hr : rightS (schO o).1 with
  | false => exact condT rfl rfl
  | true =>
    refine condF rfl ?_
    show (wire_Left (rdR (schO o).2)).bind _ = _
    cases h : (schO o).2 with
    | none => exact bindS (v := (0, (rdR none, ()))) rfl (condT rfl (bindS (v := (4, (rdR none, ()))) rfl (condT rfl rfl)))
    | some l =>
      refine bindS (v := ((l.length : Int), (rdR (some l), ()))) rfl ?_
      cases l with
      | nil => exact condT rfl (bindS (v := (0, (rdR (some []), ()))) rfl (condF rfl rfl))
      | cons b l => exact condF (dF (by simp only [List.length_cons]; omega)) rfl
/-- A plan, read. -/
def planO (l : List UInt8) : (DShares × Bool × DScheme × Bool) × OB :=
  let e := numO 1073741824 (some l)
  let m := numO 40 e.2
  let sh := sharesN m.1.toNat [] m.2
  let f := flagO sh.2
  let s : DShares := ⟨e.1, sh.1⟩
  if f.2.isSome = true ∧ rightW s = true then
    if f.1 = true then
      if rightS (schO f.2).1 = true ∧ (schO f.2).2.isSome = true ∧ ¬ (schO f.2).1.stage = 6 ∧ ¬ (schO f.2).1.stage = 9 then ((s, true, (schO f.2).1, true), (schO f.2).2)
      else ((⟨0, []⟩, false, noSc, false), (schO f.2).2)
    else ((s, false, noSc, true), f.2)
  else ((⟨0, []⟩, false, noSc, false), f.2)
theorem read_p (l : List UInt8) : registry_read (true, false, l, ()) = some ((⟨(planO l).1.1, (planO l).1.2.1, (planO l).1.2.2.1⟩, (planO l).1.2.2.2, ()), (rdR (planO l).2, (), ())) := by
  have h1 := read1_p l false noSc 0
  unfold planO
  dsimp only
  generalize numO 1073741824 (some l) = e at h1
  have hm := numO_in 40 e.2
  generalize numO 40 e.2 = m at h1 hm
  have hlen := sharesN_len m.1.toNat [] m.2
  have hoks := sharesN_ok m.1.toNat [] m.2 (fun x hx => by simp at hx)
  generalize sharesN m.1.toNat [] m.2 = sh at h1 hlen hoks
  have hF := Flag_p sh.2
  generalize flagO sh.2 = f at hF
  have hs : OkSh ⟨e.1, sh.1⟩ := ⟨by (try dsimp only); simp only [List.length_nil] at hlen; omega, hoks⟩
  have hR := Right_sh hs
  have a1 : registry_all1 ((), ()) (pT ⟨0, []⟩ false noSc) (true, false, l, ()) = some (false, (((), ()), pT ⟨e.1, sh.1⟩ false noSc, rdR sh.2, (), (), (), ())) := bindS h1 rfl
  by_cases hc : f.2.isSome = true ∧ rightW ⟨e.1, sh.1⟩ = true
  · rw [if_pos hc]
    obtain ⟨c1, c2⟩ := hc
    have c3 : f.2.isNone = false := by cases h : f.2 <;> simp_all
    have a2 : registry_all1_2 ((), ()) (pT ⟨e.1, sh.1⟩ false noSc) (rdR sh.2) = some (false, (((), ()), pT ⟨e.1, sh.1⟩ f.1 noSc, rdR f.2, (), (), ())) := by
      refine bindS (v := (true, (((), ()), pT ⟨e.1, sh.1⟩ f.1 noSc, rdR f.2, (), (), ()))) ?_ rfl
      refine bindS hF (bindS (rfailed_p f.2) (condT (by rw [c3]; rfl) (bindS hR ?_)))
      rw [c2]
    cases hu : f.1 with
    | false =>
      rw [if_neg (by simp)]
      rw [hu] at a2
      have a3 : registry_all1_3 (pT ⟨e.1, sh.1⟩ false noSc) ((), ()) (rdR f.2) = some (false, (pT ⟨e.1, sh.1⟩ false noSc, ((), ()), rdR f.2, (), (), ())) := bindS (v := (true, (pT ⟨e.1, sh.1⟩ false noSc, ((), ()), rdR f.2, (), (), ()))) (condT rfl rfl) rfl
      unfold registry_read registry_all slices_ContainsFunc_2 slices_IndexFunc_5
      exact bindS (bindS (bindS (bindS a1 (condF rfl (bindS a2 (condF rfl (bindS a3 (condF rfl rfl)))))) rfl) rfl) (condF rfl rfl)
    | true =>
      rw [if_pos rfl]
      rw [hu] at a2
      have hS := SchemeRead_p f.2
      by_cases hg : rightS (schO f.2).1 = true ∧ (schO f.2).2.isSome = true ∧ ¬ (schO f.2).1.stage = 6 ∧ ¬ (schO f.2).1.stage = 9
      · rw [if_pos hg]
        obtain ⟨g1, g2, g3, g4⟩ := hg
        rw [if_pos (by rw [g1, g2]; rfl)] at hS
        have hov := Over_p (schO f.2).1
        rw [dF g3, dF g4] at hov
        have a3 : registry_all1_3 (pT ⟨e.1, sh.1⟩ true noSc) ((), ()) (rdR f.2) = some (false, (pT ⟨e.1, sh.1⟩ true (schO f.2).1, ((), ()), rdR (schO f.2).2, (), (), ())) :=
          bindS (v := (true, (pT ⟨e.1, sh.1⟩ true (schO f.2).1, ((), ()), rdR (schO f.2).2, (), (), ()))) (condF rfl (bindS hS (condT rfl (bindS hov rfl)))) rfl
        unfold registry_read registry_all slices_ContainsFunc_2 slices_IndexFunc_5
        exact bindS (bindS (bindS (bindS a1 (condF rfl (bindS a2 (condF rfl (bindS a3 (condF rfl rfl)))))) rfl) rfl) (condF rfl rfl)
      · rw [if_neg hg]
        have a3 : ∃ p : PT, registry_all1_3 (pT ⟨e.1, sh.1⟩ true noSc) ((), ()) (rdR f.2) = some (true, (p, ((), ()), rdR (schO f.2).2, (), (), ())) := by
          by_cases hq : (rightS (schO f.2).1 && (schO f.2).2.isSome) = true
          · rw [if_pos hq] at hS
            simp only [Bool.and_eq_true] at hq
            have hov := Over_p (schO f.2).1
            have : (decide ((schO f.2).1.stage = 6) || decide ((schO f.2).1.stage = 9)) = true := by
              by_cases q1 : (schO f.2).1.stage = 6
              · simp [q1]
              · by_cases q2 : (schO f.2).1.stage = 9
                · simp [q2]
                · exact absurd ⟨hq.1, hq.2, q1, q2⟩ hg
            rw [this] at hov
            exact ⟨_, bindS (condF rfl (bindS hS (condT rfl (bindS hov rfl)))) rfl⟩
          · rw [if_neg hq] at hS
            exact ⟨_, bindS (condF rfl (bindS hS (condF rfl rfl))) rfl⟩
        obtain ⟨p, a3⟩ := a3
        unfold registry_read registry_all slices_ContainsFunc_2 slices_IndexFunc_5
        exact bindS (bindS (bindS (bindS a1 (condF rfl (bindS a2 (condF rfl (bindS a3 (condT rfl rfl)))))) rfl) rfl) (condT rfl rfl)
  · rw [if_neg hc]
    have a2 : ∃ p : PT, registry_all1_2 ((), ()) (pT ⟨e.1, sh.1⟩ false noSc) (rdR sh.2) = some (true, (((), ()), p, rdR f.2, (), (), ())) := by
      cases h2 : f.2 with
      | none =>
        rw [h2] at hF
        refine ⟨pT ⟨e.1, sh.1⟩ f.1 noSc, bindS (v := (false, (((), ()), pT ⟨e.1, sh.1⟩ f.1 noSc, rdR none, (), (), ()))) ?_ rfl⟩
        exact bindS hF (bindS (rfailed_p none) (condF rfl rfl))
      | some r =>
        rw [h2] at hF hc
        have hw : rightW ⟨e.1, sh.1⟩ = false := by
          cases h : rightW ⟨e.1, sh.1⟩
          · rfl
          · exact absurd ⟨rfl, h⟩ hc
        refine ⟨pT ⟨e.1, sh.1⟩ f.1 noSc, bindS (v := (false, (((), ()), pT ⟨e.1, sh.1⟩ f.1 noSc, rdR (some r), (), (), ()))) ?_ rfl⟩
        refine bindS hF (bindS (rfailed_p (some r)) (condT rfl (bindS hR ?_)))
        rw [hw]
    obtain ⟨p, a2⟩ := a2
    unfold registry_read registry_all slices_ContainsFunc_2 slices_IndexFunc_5
    exact bindS (bindS (bindS (bindS a1 (condF rfl (bindS a2 (condT rfl rfl)))) rfl) rfl) (condT rfl rfl)
end Go.Proofs.YtaihdjknneiciaaGreat
