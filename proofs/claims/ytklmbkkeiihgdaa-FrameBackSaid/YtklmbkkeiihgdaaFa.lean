/- An array of ours that is given away for good: it becomes a list that is told. -/
import Derived.Test.YtklmbkkeiihgdaaTw
import Derived.Test.YtklmbkkeiihgdaaWr
namespace Go.Proofs.Ytklmbkkeiihgdaa
open Go.RowKit
set_option linter.unusedSimpArgs false
set_option maxRecDepth 100000
set_option linter.unusedVariables false
set_option linter.unusedSectionVars false
section
variable {T : Nat → Type} {C : Codec T} {P : Program} {U0 : Nat → Prop}
abbrev shiftV (r : XV T) : XV T := ren3 (fun i => some (i + 1)) r
theorem Tr.freezeA {f : FuncId} {E n : Nat} {co : Option Nat} {e : TypeId} {kp : Bool} {xs : List (T E)} {r : XV T} {rows : List (HI T)} (hn0 : n ≠ 0) (hn : n ≤ xs.length) (hrows : ∀ x ∈ rows, ∃ e sz, x = .row e sz) (h : Tr C P U0 f [.sl E (xs.take n) none] [] r rows) :
    Tr C P (fun _ => True) f [.as E 0 0 n co] [.arr e E kp xs] (shiftV r) (.dead :: rows) := by
  intro ρ σ vs hs H w Z hH hV
  obtain ⟨a, rfl, h1⟩ := svs1.1 hs
  have hsz := C.pos E
  have hxl : (xs.take n).length = n := by rw [List.length_take]; omega
  rcases sv_as.1 h1 with ⟨ad, c, rfl, hA⟩ | ⟨rfl, hn1, _⟩
  rotate_left
  · exact absurd hn1 hn0
  obtain ⟨b, q1, q2⟩ := hA.at_
  obtain ⟨pre, rest, hb2, hb3, hb4, hb5, hb6⟩ := H.arrAt (i := 0) rfl q1
  rw [Nat.zero_add] at q1 hb5
  have hle := hA.le
  have hpl := (hb4 0 ρ).len
  rw [enc_len] at hpl
  have hm1 : n * C.sz E ≤ xs.length * C.sz E := Nat.mul_le_mul_right _ hn
  have hm2 : n * C.sz E ≤ c * C.sz E := Nat.mul_le_mul_right _ hA.le
  have hsv : ∀ N ρ, SVs C N ρ ((xs.take n).flatMap (C.enc E)) (pre.take (n * C.sz E)) := fun N ρ => by
    have := (hb4 N ρ).take (n * C.sz E)
    rw [enc_take] at this
    exact this
  have hpt : (pre.take (n * C.sz E)).length = n * C.sz E := by rw [List.length_take]; omega
  obtain ⟨o1, o2, o3⟩ := hH.own _ _ _ hb2
  have hzb : ¬ Z b := fun hz => by have := (hH.z _ hz).2; rw [hb2] at this; cases this
  have hset : (σ.set b (.tail e (n * C.sz E) (c * C.sz E))).blk b = some (.tail e (n * C.sz E) (c * C.sz E)) := by show (if b = b then _ else σ.blk b) = _; rw [if_pos rfl]
  have hoth : ∀ b', b' ≠ b → (σ.set b (.tail e (n * C.sz E) (c * C.sz E))).blk b' = σ.blk b' := fun b' hb' => by show (if b' = b then _ else σ.blk b') = _; rw [if_neg hb']
  have hfree : ∀ b' o, σ.free Z b' o → (σ.set b (.tail e (n * C.sz E) (c * C.sz E))).free Z b' o := fun b' o hf => by
    obtain ⟨z1, z2, z3⟩ := hf
    have hne : b' ≠ b := by rintro rfl; rw [hb2] at z3; exact z3
    refine ⟨z1, z2, ?_⟩
    rw [hoth b' hne]; exact z3
  have hHf : HeapOk w (σ.set b (.tail e (n * C.sz E) (c * C.sz E))) Z := by
    refine ⟨hH.used, fun b' hz => ?_, fun b' t cs' hb' => ?_, fun b' t k s hb' => ?_⟩
    · obtain ⟨z1, z2⟩ := hH.z _ hz
      have hne : b' ≠ b := by rintro rfl; exact hzb hz
      exact ⟨z1, by rw [hoth b' hne]; exact z2⟩
    · have hne : b' ≠ b := by rintro rfl; rw [hset] at hb'; injection hb' with hb'; cases hb'
      rw [hoth b' hne] at hb'
      obtain ⟨p1, p2, p3⟩ := hH.own _ _ _ hb'
      exact ⟨p1, p2, fun q hq => (p3 q hq).sub hfree⟩
    · by_cases hne : b' = b
      · subst hne
        rw [hset] at hb'
        injection hb' with hb'
        injection hb' with e1 e2 e3
        subst e1 e2 e3
        exact ⟨o1, _, o2, by simp only [List.size_toArray, List.length_map]; exact hb5, hm2⟩
      · rw [hoth b' hne] at hb'
        exact hH.tail _ _ _ _ hb'
  have hVf : Valid w ((σ.set b (.tail e (n * C.sz E) (c * C.sz E))).free Z) (.lst (some ⟨b, 0, none⟩) n c (pre.take (n * C.sz E))) := by
    unfold Valid
    refine ⟨hA.le, (fun hq => by cases hq), fun ad' had' => ?_⟩
    injection had' with had'
    subst had'
    refine ValidAt.mk fun j q hq => ?_
    have hjl : j < n * C.sz E := by rw [← hpt]; exact lt_of_get hq
    have hq' : (pre ++ rest)[j]? = some q := by
      rw [List.getElem?_take] at hq
      rw [if_pos hjl] at hq
      rw [List.getElem?_append_left (lt_of_get hq)]
      exact hq
    have hcell := own_cells hH hb2 0 j (by rw [Nat.zero_add]; exact hq')
    rw [Nat.zero_add]
    refine ⟨hcell, ?_, (o3 q (List.mem_of_getElem? hq')).sub hfree⟩
    refine ⟨hzb, o1, ?_⟩
    rw [hset]
    simpa using hjl
  have hval : AV.val (.raw (.slice (some ad) n c)) = (AV.lst (some ⟨b, 0, none⟩) n c (pre.take (n * C.sz E))).val := by
    have := q2 (by omega)
    rw [Nat.zero_mul] at this
    subst this
    simp
  have hs0 : SV C 0 ρ (.sl E (xs.take n) none) (.lst (some ⟨b, 0, none⟩) n c (pre.take (n * C.sz E))) := by
    have := sv_sl (C := C) (N := 0) (ρ := ρ) (E := E) (xs := xs.take n) (a := .lst (some ⟨b, 0, none⟩) n c (pre.take (n * C.sz E)))
    rw [hxl] at this
    exact this.2 ⟨_, c, _, [], by rw [List.append_nil], hA.le, hA.max, hA.len, (fun hq => by cases hq), hsv _ _⟩
  have H0 : Hp C ρ ([] : List (HI T)) (σ.set b (.tail e (n * C.sz E) (c * C.sz E))) := ⟨fun i x hx => by simp at hx, fun i j x y b hx => by simp at hx⟩
  have hc := h ρ _ [.lst (some ⟨b, 0, none⟩) n c (pre.take (n * C.sz E))] (svs1.2 ⟨_, rfl, hs0⟩) H0 w Z hHf (fun x hx => by rw [List.mem_singleton] at hx; subst hx; exact hVf)
  rw [show ([AV.lst (some ⟨b, 0, none⟩) n c (pre.take (n * C.sz E))].map AV.val) = [AV.raw (.slice (some ad) n c)].map AV.val from by simp only [List.map_cons, List.map_nil, hval]] at hc
  refine hc.mono ?_
  rintro y w' ⟨rv, τ, rfl, ⟨ρ', hrv, H', R⟩, hH', hV', hG⟩
  have hren : RenOk (fun i => some (i + 1)) (rows.length + 1) (fun i => if i = 0 then ρ 0 else ρ' (i - 1)) rows.length ρ' := fun i hi j hj => by
    injection hj with hj
    subst hj
    exact ⟨by omega, by dsimp only; rw [if_neg (by omega)]; rfl⟩
  have hrow : ∀ (i : Nat) x, (HI.dead :: rows : List (HI T))[i]? = some x → x.alive = true → ∃ j e sz, i = j + 1 ∧ rows[j]? = some x ∧ x = .row e sz := fun i x hx ax => by
    cases i with
    | zero => injection hx with hx; subst hx; cases ax
    | succ j =>
      obtain ⟨e, sz, hes⟩ := hrows x (List.mem_of_getElem? hx)
      exact ⟨j, e, sz, rfl, hx, hes⟩
  refine ⟨rv, τ, rfl, ⟨_, ren3_sv hren hrv, ⟨fun i x hx => ?_, fun i j x y b' hx hy ax ay bx by_ => ?_⟩, ⟨by simp, fun i hi => ?_, ⟨fun c' k hc' hk => ?_, R.but.used⟩, fun b' ⟨i, x, hx, ax, bx⟩ => ?_⟩⟩, hH', hV', ?_⟩
  · cases i with
    | zero => injection hx with hx; subst hx; trivial
    | succ j =>
      obtain ⟨e', sz', rfl⟩ := hrows x (List.mem_of_getElem? hx)
      have := renH_sh (τ := τ) hren (H'.it j _ hx) (j := j + 1) (by rw [if_neg (by omega)]; rfl)
      exact this
  · obtain ⟨i', e1, s1, rfl, hx', _⟩ := hrow i x hx ax
    obtain ⟨j', e2, s2, rfl, hy', _⟩ := hrow j y hy ay
    have := H'.dist i' j' x y b' hx' hy' ax ay (by simpa using bx) (by simpa using by_)
    omega
  · have : i = 0 := by simpa using hi
    subst this; rfl
  · have hne : c' ≠ b := by
      rintro rfl
      exact hc' ⟨0, _, trivial, rfl, rfl, by rw [q1]; rfl⟩
    exact R.but.keep c' k (fun ⟨i, x, _, hx, _⟩ => by simp at hx) (by rw [hoth c' hne]; exact hk)
  · obtain ⟨i', e1, s1, rfl, hx', _⟩ := hrow i x hx ax
    rcases R.born b' ⟨i', x, hx', ax, by simpa using bx⟩ with ⟨i, x, hx, _⟩ | ⟨k1, k2⟩
    · simp at hx
    · right
      have hne : b' ≠ b := by rintro rfl; rw [hset] at k1; cases k1
      rw [hoth b' hne] at k1
      exact ⟨k1, k2⟩
  · refine ⟨hG.os, hG.tape, hG.output, hG.size, hG.used, fun b' h1 h2 => hG.rest b' h1 ?_, fun b' t k s h1 h2 => hG.tail b' t k s h1 ?_, hG.more⟩
    · have hne : b' ≠ b := by rintro rfl; rw [hb2] at h2; cases h2
      rw [hoth b' hne]; exact h2
    · have hne : b' ≠ b := by rintro rfl; rw [hb2] at h2; injection h2 with h2; cases h2
      rw [hoth b' hne]; exact h2
end
end Go.Proofs.Ytklmbkkeiihgdaa
