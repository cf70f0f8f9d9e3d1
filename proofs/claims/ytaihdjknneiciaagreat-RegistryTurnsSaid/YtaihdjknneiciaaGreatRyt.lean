/- What is written of a plan is read; the view (round 21Z: RegistryTurns). -/
import Derived.Test.YtaihdjknneiciaaGreatRxt
namespace Go.Proofs.YtaihdjknneiciaaGreat
open Go.RowKit
set_option maxRecDepth 100000
set_option linter.unusedVariables false
set_option linter.unusedSimpArgs false
theorem num_r {most : Nat} {x : Int} (r : List UInt8) (h0 : 0 ≤ x) (h1 : x ≤ most) (hm : most ≤ 1073741824) : numO most (some (numF x.toNat ++ r)) = (x, some r) := by
  obtain ⟨n, rfl⟩ : ∃ n : Nat, x = (n : Int) := ⟨x.toNat, by omega⟩
  rw [Int.toNat_natCast]
  exact numO_num r (by omega) (by unfold top; omega)
theorem flag_r (u : Bool) (r : List UInt8) : flagO (some (flagF u ++ r)) = (u, some r) := by
  cases u <;> rfl
theorem row_r {t : List UInt8} (r : List UInt8) (h : t.length ≤ 20) : rowO 20 (some (rowF t ++ r)) = (t, some r) := rowO_row r h (by omega)
theorem share_r {s : DShares} (h : rightW s = true) {x : DShare} (hx : x ∈ s.list) (r : List UInt8) : shareO (some (shB x ++ r)) = (x, some r) := by
  obtain ⟨g1, g2, g3, g4⟩ := share_good h hx
  have e : shB x ++ r = rowF x.span.lo ++ (rowF x.span.hi ++ (numF x.group.toNat ++ (numF x.epoch.toNat ++ r))) := by simp [shB, catN]
  unfold shareO
  rw [e, row_r _ g3]
  dsimp only
  rw [row_r _ g4]
  dsimp only
  rw [num_r _ (by omega) (by omega) (by omega)]
  dsimp only
  rw [num_r _ (by omega) (by omega) (by omega)]
theorem shares_r {s : DShares} (h : rightW s = true) : ∀ (l out : List DShare) (r : List UInt8), (∀ x ∈ l, x ∈ s.list) → sharesN l.length out (some (shsB l ++ r)) = (out ++ l, some r)
  | [], out, r, _ => by simp [sharesN, shsB]
  | x :: l, out, r, hl => by
    have e : shsB (x :: l) ++ r = shB x ++ (shsB l ++ r) := by simp [shsB]
    rw [e]
    show sharesN l.length (out ++ [(shareO (some (shB x ++ (shsB l ++ r)))).1]) (shareO (some (shB x ++ (shsB l ++ r)))).2 = _
    rw [share_r h (hl x (by simp))]
    dsimp only
    rw [shares_r h l _ r fun y hy => hl y (by simp [hy])]
    simp
theorem sch_r {x : DScheme} (h : rightS x = true) (r : List UInt8) : schO (some (schB x ++ r)) = (x, some r) := by
  obtain ⟨h1, h2, h3, h4, h5, h6, h7⟩ := rightS_nums h
  obtain ⟨k1, k2⟩ := rightB_len h7
  have e : schB x ++ r = numF x.num.toNat ++ (rowF x.span.lo ++ (rowF x.span.hi ++ (numF x.from_.toNat ++ (numF x.to_.toNat ++ (numF x.epoch.toNat ++ (numF x.under.toNat ++ (numF x.stage.toNat ++ r))))))) := by simp [schB, catN]
  unfold schO
  rw [e, num_r _ h1.1 (by omega) (by omega)]
  dsimp only
  rw [row_r _ k1]
  dsimp only
  rw [row_r _ k2]
  dsimp only
  rw [num_r (most := 4) _ (by omega) (by omega) (by omega)]
  dsimp only
  rw [num_r (most := 4) _ (by omega) (by omega) (by omega)]
  dsimp only
  rw [num_r (most := 1073741824) _ (by omega) (by omega) (by omega)]
  dsimp only
  rw [num_r (most := 1073741824) _ (by omega) (by omega) (by omega)]
  dsimp only
  rw [num_r (most := 9) _ (by omega) (by omega) (by omega)]
theorem plan_r {s : DShares} {u : Bool} {x : DScheme} {n : Int} (h : PlanOk s u x n) (r : List UInt8) : planO (planB s u x ++ r) = ((s, u, x, true), some r) := by
  have hr := h.pl.rt
  obtain ⟨e1, e2, e3, e4⟩ := right_iff.1 hr
  have e : planB s u x ++ r = numF s.epoch.toNat ++ (numF s.list.length ++ (shsB s.list ++ (flagF u ++ ((if u = true then schB x else []) ++ r)))) := by simp [planB, catN]
  unfold planO
  dsimp only
  rw [e, num_r _ (by omega) (by omega) (by omega)]
  dsimp only
  have h2 := num_r (most := 40) (x := (s.list.length : Int)) (shsB s.list ++ (flagF u ++ ((if u = true then schB x else []) ++ r))) (by omega) (by omega) (by omega)
  rw [Int.toNat_natCast] at h2
  rw [h2]
  dsimp only
  rw [Int.toNat_natCast, shares_r hr s.list [] _ (fun y hy => hy), List.nil_append]
  dsimp only
  rw [flag_r]
  dsimp only
  rw [if_pos ⟨rfl, hr⟩]
  cases u with
  | false =>
    rw [if_neg (by simp), h.off rfl]
    simp
  | true =>
    obtain ⟨g1, g2, g3, g4⟩ := h.on rfl
    rw [if_pos rfl, if_pos rfl, sch_r g1]
    dsimp only
    rw [if_pos ⟨g1, rfl, g2, g3⟩]
theorem ReadView_p {s : DShares} {u : Bool} {x : DScheme} {n : Int} (h : PlanOk s u x n) : registry_ReadView (planB s u x) = some ((s, x, u, true, ()), ()) := by
  have hl := planB_len h.pl.rt (u := u) (x := x) fun hu => (h.on hu).1
  have hp := plan_r h []
  rw [List.append_nil] at hp
  have hread := read_p (planB s u x)
  rw [hp] at hread
  unfold registry_ReadView
  refine bindS (v := ((), ((true, false, planB s u x, ()), (), ()))) (bindS (v := (planB s u x, ((), ()))) (by unfold clone81; exact iteT (by omega) rfl) rfl) (bindS hread (condF rfl (bindS (v := (0, (rdR (some []), ()))) rfl (condF rfl rfl))))
end Go.Proofs.YtaihdjknneiciaaGreat
