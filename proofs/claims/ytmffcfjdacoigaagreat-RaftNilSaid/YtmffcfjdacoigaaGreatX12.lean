/- What happened to a shape, put back; calls; functions. -/
import Derived.Test.YtmffcfjdacoigaaGreatX11
namespace Go.Proofs.YtmffcfjdacoigaaGreat
open Go.RowKit
set_option linter.unusedSimpArgs false
set_option maxRecDepth 100000
set_option linter.unusedVariables false
variable {T : Nat → Type} {A : Type}
section
variable {C : Codec T} {ρ ρ' ρt : Nat → AV} {π π' π'' : Pi} {n N N' : Nat} {z : A} {h ht : List (HI T)} {σ τ : St} {f : Nat → Option Nat} {P : Program}
def RenOk (f : Nat → Option Nat) (N' : Nat) (ρ' : Nat → AV) (n : Nat) (ρt : Nat → AV) : Prop := ∀ i, i < n → ∀ j, f i = some j → j < N' ∧ ρ' j = ρt i
theorem ptrs_ren (hr : RenOk f N' ρ' n ρt) : ∀ {ps qs bs : List Nat}, ps.mapM f = some qs → PtrsAt n ρt ps bs → PtrsAt N' ρ' qs bs
  | [], qs, bs, hm, hp => by
    simp at hm
    subst hm
    cases bs <;> first | trivial | exact hp.elim
  | i :: ps, qs, bs, hm, hp => by
    cases bs with
    | nil => exact hp.elim
    | cons b bs =>
      rw [List.mapM_cons] at hm
      cases hf : f i with
      | none => rw [hf] at hm; cases hm
      | some j =>
        rw [hf] at hm
        cases hq : ps.mapM f with
        | none => rw [hq] at hm; cases hm
        | some qs' =>
          rw [hq] at hm
          injection hm with hm
          subst hm
          obtain ⟨g1, g2⟩ := hr i hp.1.1 j hf
          exact ⟨⟨g1, g2.trans hp.1.2⟩, ptrs_ren hr hq hp.2⟩
theorem ren1_sv (hr : RenOk f N' ρ' n ρt) {v : XV T} {a : AV} (hs : SV C n ρt v a) : SV C N' ρ' (ren1 f v) a := by
  cases v with
  | sl E xs o =>
    cases o with
    | none => exact SVs.shut hs (by intro v hv; simp at hv; subst hv; rfl)
    | some i =>
      obtain ⟨ea, hi, h2⟩ := sv_own.1 hs
      have h2' : SV C N' ρ' (.sl E xs none) a := SVs.shut h2 (by intro v hv; simp at hv; subst hv; rfl)
      show SV C N' ρ' (.sl E xs (f i)) a
      cases hf : f i with
      | none => exact h2'
      | some j =>
        obtain ⟨g1, g2⟩ := hr i hi j hf
        exact sv_own.2 ⟨ea.trans g2.symm, g1, h2'⟩
  | slx E xs ys => exact SVs.shut hs (by intro v hv; simp at hv; subst hv; rfl)
  | mp E kk tb =>
    obtain ⟨b, ls, rfl, h5⟩ := sv_mp.1 hs
    exact sv_mp.2 ⟨b, ls, rfl, SVs.shut h5 (by
      intro v hv
      obtain ⟨p, _, rfl⟩ := List.mem_map.1 hv
      rfl)⟩
  | ptr i o =>
    obtain ⟨b, ea, hi, h2⟩ := sv_ptr.1 hs
    show SV C N' ρ' (match f i with | some j => .ptr j o | none => .junk) a
    cases hf : f i with
    | none => exact sv_junk
    | some j =>
      obtain ⟨g1, g2⟩ := hr i hi j hf
      exact sv_ptr.2 ⟨b, ea, g1, g2.trans h2⟩
  | mo i =>
    obtain ⟨b, ea, hi, h2⟩ := sv_mo.1 hs
    show SV C N' ρ' (match f i with | some j => .mo j | none => .junk) a
    cases hf : f i with
    | none => exact sv_junk
    | some j =>
      obtain ⟨g1, g2⟩ := hr i hi j hf
      exact sv_mo.2 ⟨b, ea, g1, g2.trans h2⟩
  | gv i c l =>
    obtain ⟨hi, h2⟩ := sv_gv.1 hs
    show SV C N' ρ' (match f i with | some j => .gv j c l | none => .junk) a
    cases hf : f i with
    | none => exact sv_junk
    | some j =>
      obtain ⟨g1, g2⟩ := hr i hi j hf
      exact sv_gv.2 ⟨g1, by rw [g2]; exact h2⟩
  | as E i lo m co =>
    show SV C N' ρ' (match f i with | some j => .as E j lo m co | none => .junk) a
    cases hf : f i with
    | none => exact sv_junk
    | some j =>
      rcases sv_as.1 hs with ⟨ad, c, ea, hA⟩ | ⟨ea, hn0, hiN, hρi, hco⟩
      · obtain ⟨g1, g2⟩ := hr i hA.lt j hf
        obtain ⟨b, q1, q2⟩ := hA.at_
        exact sv_as.2 (.inl ⟨ad, c, ea, g1, hA.le, hA.max, hA.len, ⟨b, g2.trans q1, q2⟩, hA.cap⟩)
      · obtain ⟨g1, g2⟩ := hr i hiN j hf
        exact sv_as.2 (.inr ⟨ea, hn0, g1, g2.trans hρi, hco⟩)
  | ap E i k o =>
    obtain ⟨b, ea, hi, K, h2⟩ := sv_ap.1 hs
    show SV C N' ρ' (match f i with | some j => .ap E j k o | none => .junk) a
    cases hf : f i with
    | none => exact sv_junk
    | some j =>
      obtain ⟨g1, g2⟩ := hr i hi j hf
      exact sv_ap.2 ⟨b, ea, g1, K, g2.trans h2.1, h2.2⟩
  | clo g ps =>
    obtain ⟨bs, ea, h2⟩ := sv_clo.1 hs
    show SV C N' ρ' (match ps.mapM f with | some qs => .clo g qs | none => .junk) a
    cases hf : ps.mapM f with
    | none => exact sv_junk
    | some qs => exact sv_clo.2 ⟨bs, ea, ptrs_ren hr hf h2⟩
  | agg l => exact sv_junk
  | tup l => exact sv_junk
  | vl l => exact sv_junk
  | ce l => exact sv_junk
  | el E x o =>
    obtain ⟨ad, cs, rest, ea, h2⟩ := sv_el.1 hs
    exact sv_el.2 ⟨ad, cs, rest, ea, h2.shut fun v hv => C.shut E x v (List.mem_of_mem_drop hv)⟩
  | int k m => exact sv_int.2 (sv_int.1 hs)
  | bool b => exact sv_bool.2 (sv_bool.1 hs)
  | str s => exact sv_str.2 (sv_str.1 hs)
  | nil => exact sv_nil.2 (sv_nil.1 hs)
  | nilptr => exact sv_nilptr.2 (sv_nilptr.1 hs)
  | nmap => exact sv_nmap.2 (sv_nmap.1 hs)
  | fn g => exact sv_fn.2 (sv_fn.1 hs)
  | undef => exact sv_undef.2 (sv_undef.1 hs)
  | junk => exact sv_junk
theorem ren1s_sv (hr : RenOk f N' ρ' n ρt) {vs : List (XV T)} {as_ : List AV} (hs : SVs C n ρt vs as_) : SVs C N' ρ' (vs.map (ren1 f)) as_ := by
  induction vs generalizing as_ with
  | nil => rw [SVs_nil.1 hs]; exact .none
  | cons v vs ih => obtain ⟨a, bs, rfl, h1, h2⟩ := hs.to; exact .cons (ren1_sv hr h1) (ih h2)
theorem ren2_sv (hr : RenOk f N' ρ' n ρt) {v : XV T} {a : AV} (hs : SV C n ρt v a) : SV C N' ρ' (ren2 f v) a := by
  cases v with
  | agg l => obtain ⟨ls, rfl, hl⟩ := sv_agg.1 hs; exact sv_agg.2 ⟨ls, rfl, ren1s_sv hr hl⟩
  | _ => exact ren1_sv hr hs
theorem ren2s_sv (hr : RenOk f N' ρ' n ρt) {vs : List (XV T)} {as_ : List AV} (hs : SVs C n ρt vs as_) : SVs C N' ρ' (vs.map (ren2 f)) as_ := by
  induction vs generalizing as_ with
  | nil => rw [SVs_nil.1 hs]; exact .none
  | cons v vs ih => obtain ⟨a, bs, rfl, h1, h2⟩ := hs.to; exact .cons (ren2_sv hr h1) (ih h2)
theorem ren3_sv (hr : RenOk f N' ρ' n ρt) {v : XV T} {a : AV} (hs : SV C n ρt v a) : SV C N' ρ' (ren3 f v) a := by
  cases v with
  | tup l => obtain ⟨ls, rfl, hl⟩ := sv_tup.1 hs; exact sv_tup.2 ⟨ls, rfl, ren2s_sv hr hl⟩
  | _ => exact ren2_sv hr hs
theorem renH_sh (hr : RenOk f N' ρ' n ρt) {x : HI T} {i j : Nat} (hs : SH C n ρt τ i x) (he : ρ' j = ρt i) : SH C N' ρ' τ j (renH f x) := by
  cases x with
  | obj t cs =>
    obtain ⟨b, acs, h1, h2, h3, h4⟩ := hs
    exact ⟨b, acs, he.trans h1, h2, h3, ren1s_sv hr h4⟩
  | mmap K V es =>
    obtain ⟨b, h1, h2, h3⟩ := hs
    exact ⟨b, he.trans h1, h2, h3⟩
  | row e sz =>
    obtain ⟨m, cs, ho⟩ := hs
    exact ⟨m, cs, by rw [he]; exact ho⟩
  | gen E x =>
    show C.gsh E x τ (ρ' j)
    rw [he]; exact hs
  | arr e E kp xs =>
    rcases hs with ⟨b, K', pre, rest, h1, h2, h3, h4⟩ | ⟨h1, h2⟩
    · exact .inl ⟨b, K', pre, rest, he.trans h1, h2, h3, h4⟩
    · exact .inr ⟨he.trans h1, h2⟩
  | dead => trivial
theorem renH_alive (x : HI T) : (renH f x).alive = x.alive := by cases x <;> rfl
theorem mapFrom_get {α β : Type} (g : Nat → α → β) : ∀ (l : List α) (i j : Nat), (mapFrom g i l)[j]? = (l[j]?).map (g (i + j))
  | [], i, j => by simp [mapFrom]
  | x :: l, i, 0 => by simp [mapFrom]
  | x :: l, i, j + 1 => by
    rw [mapFrom, List.getElem?_cons_succ, mapFrom_get g l (i + 1) j, List.getElem?_cons_succ, show i + 1 + j = i + (j + 1) from by omega]
theorem mapFrom_len {α β : Type} (g : Nat → α → β) : ∀ (l : List α) (i : Nat), (mapFrom g i l).length = l.length
  | [], i => rfl
  | x :: l, i => by simp [mapFrom, mapFrom_len g l]
/-- Where an item of what was put back is from. -/
inductive From (π : Pi) (n : Nat) (h ht : List (HI T)) (j : Nat) (x : HI T) : Prop where
  | old (hx : h[j]? = some x) (hp : pinv2 π j n = none)
  | new (i : Nat) (y : HI T) (hy : ht[i]? = some y) (e : x = renH (pf π n h.length) y) (w : (j < h.length ∧ i < n ∧ plook π i = some (some j)) ∨ (n ≤ i ∧ j = h.length + (i - n)))
theorem merge_get (hn : n ≤ ht.length) {j : Nat} {x : HI T} (hx : (merge π n h ht)[j]? = some x) : From π n h ht j x := by
  unfold merge at hx
  rw [List.getElem?_append, mapFrom_len] at hx
  split at hx
  · rename_i hj
    rw [mapFrom_get, Nat.zero_add] at hx
    obtain ⟨y, hy⟩ : ∃ y, h[j]? = some y := ⟨_, List.getElem?_eq_getElem hj⟩
    rw [hy] at hx
    simp only [Option.map_some, Option.some.injEq] at hx
    unfold upd at hx
    split at hx
    · rename_i i hi
      obtain ⟨h1, h2⟩ := pinv2_some hi
      obtain ⟨w, hw⟩ : ∃ w, ht[i]? = some w := ⟨_, List.getElem?_eq_getElem (by omega)⟩
      rw [hw] at hx
      exact .new i w hw hx.symm (.inl ⟨hj, h1, h2⟩)
    · rename_i hi
      subst hx
      exact .old hy hi
  · rename_i hj
    rw [List.getElem?_map] at hx
    cases hd : (ht.drop n)[j - h.length]? with
    | none => rw [hd] at hx; cases hx
    | some y =>
      rw [hd] at hx
      simp only [Option.map_some, Option.some.injEq] at hx
      rw [List.getElem?_drop] at hd
      exact .new (n + (j - h.length)) y hd hx.symm (.inr ⟨by omega, by omega⟩)
theorem merge_len (π : Pi) (n : Nat) (h ht : List (HI T)) : (merge π n h ht).length = h.length + (ht.length - n) := by
  unfold merge
  rw [List.length_append, mapFrom_len, List.length_map, List.length_drop]
theorem lift {V : Nat → Prop} {hs : List (HI T)} (hn : hs.length = n) (hp : pok n h.length π = true) (H : Hp C ρ h σ) (Ht : Hp C ρt ht τ) (R : Rel V (pasg π ρ) hs σ ρt ht τ)
    (key : ∀ i x b, hs[i]? = some x → x.alive = true → (pasg π ρ i).owns b → ∃ j y, plook π i = some (some j) ∧ h[j]? = some y ∧ y.alive = true ∧ (ρ j).owns b) :
    ∃ ρ', RenOk (pf π n h.length) (merge π n h ht).length ρ' ht.length ρt ∧ Hp C ρ' (merge π n h ht) τ ∧ Rel (· ∈ prng π) ρ h σ ρ' (merge π n h ht) τ := by
  have hle : n ≤ ht.length := by rw [← hn]; exact R.len
  refine ⟨fun j => if j < h.length then ρ j else ρt (n + (j - h.length)), ?_⟩
  generalize hρ' : (fun j => if j < h.length then ρ j else ρt (n + (j - h.length))) = ρ'
  have r1 : ∀ j, j < h.length → ρ' j = ρ j := fun j hj => by subst hρ'; exact if_pos hj
  have r2 : ∀ i, n ≤ i → ρ' (h.length + (i - n)) = ρt i := fun i hi => by
    subst hρ'
    show (if h.length + (i - n) < h.length then _ else ρt (n + (h.length + (i - n) - h.length))) = _
    rw [if_neg (by omega)]; congr 1; omega
  have r3 : ∀ i j, i < n → plook π i = some (some j) → ρ j = ρt i := fun i j hi hl => by
    rw [R.ext i (by omega)]
    unfold pasg; rw [hl]
  have hren : RenOk (pf π n h.length) (merge π n h ht).length ρ' ht.length ρt := fun i hi j hj => by
    rw [merge_len]
    unfold pf at hj
    cases hb : Nat.blt i n
    · rw [hb] at hj
      have hin : n ≤ i := by
        refine Nat.le_of_not_lt fun hlt => ?_
        have : Nat.blt i n = true := Nat.ble_eq_true_of_le hlt
        rw [hb] at this; cases this
      injection hj with hj
      subst hj
      exact ⟨by omega, r2 i hin⟩
    · rw [hb] at hj
      have hin : i < n := Nat.le_of_ble_eq_true hb
      simp only [cond_true] at hj
      cases hl : plook π i with
      | none => rw [hl] at hj; cases hj
      | some x =>
        rw [hl] at hj
        simp only at hj
        subst hj
        have hjN := (pok_spec hp hl).2 j rfl
        exact ⟨by omega, (r1 j hjN).trans (r3 i j hin hl)⟩
  have hfrom : ∀ {i j : Nat} {y : HI T}, ht[i]? = some y → ((j < h.length ∧ i < n ∧ plook π i = some (some j)) ∨ (n ≤ i ∧ j = h.length + (i - n))) → ρ' j = ρt i := fun hy w => by
    rcases w with ⟨w1, w2, w3⟩ | ⟨w1, rfl⟩
    · exact (r1 _ w1).trans (r3 _ _ w2 w3)
    · exact r2 _ w1
  have hback : ∀ b, LivU V (pasg π ρ) hs b → ∃ i j y, plook π i = some (some j) ∧ h[j]? = some y ∧ y.alive = true ∧ (ρ j).owns b := fun b ⟨i, x, _, h2, h3, h4⟩ => (key i x b h2 h3 h4).elim fun j ⟨y, g⟩ => ⟨i, j, y, g⟩
  have hback' : ∀ b, Liv (pasg π ρ) hs b → ∃ i j y, plook π i = some (some j) ∧ h[j]? = some y ∧ y.alive = true ∧ (ρ j).owns b := fun b ⟨i, x, h2, h3, h4⟩ => (key i x b h2 h3 h4).elim fun j ⟨y, g⟩ => ⟨i, j, y, g⟩
  have hold : ∀ j x b, h[j]? = some x → x.alive = true → (ρ j).owns b → pinv2 π j n = none → ∀ i' j' y, plook π i' = some (some j') → h[j']? = some y → y.alive = true → (ρ j').owns b → False := fun j x b hx hxa hb hpi i' j' y g1 g2 g3 g4 => by
    have := H.dist j j' x y b hx g2 hxa g3 hb g4
    subst this
    exact pinv2_none hpi i' (pok_spec hp g1).1 g1
  refine ⟨hren, ⟨fun j x hx => ?_, fun j k x y b hx hy ax ay bx by_ => ?_⟩, ⟨by rw [merge_len]; omega, r1, R.but.more fun b hb => ?_, fun b hb => ?_⟩⟩
  · rcases merge_get hle hx with ⟨hx, hpi⟩ | ⟨i, y, hy, rfl, w⟩
    · have hj := lt_of_get hx
      have hN : h.length ≤ (merge π n h ht).length := by rw [merge_len]; omega
      have := H.it j x hx
      cases x with
      | obj t cs =>
        obtain ⟨b, acs, g1, g2, g3, g4⟩ := this
        refine ⟨b, acs, (r1 j hj).trans g1, R.but.keep b _ (fun hl => ?_) g2, R.but.used _ g3, g4.ext hN r1⟩
        obtain ⟨i', j', y, q1, q2, q3, q4⟩ := hback b hl
        exact hold j _ b hx rfl (by rw [g1]; rfl) hpi i' j' y q1 q2 q3 q4
      | arr e E kp xs =>
        rcases this with ⟨b, K', pre, rest, g1, g2, g3, g4⟩ | ⟨g1, g2⟩
        · refine .inl ⟨b, K', pre, rest, (r1 j hj).trans g1, R.but.keep b _ (fun hl => ?_) g2, R.but.used _ g3, g4⟩
          obtain ⟨i', j', y, q1, q2, q3, q4⟩ := hback b hl
          exact hold j _ b hx rfl (by rw [g1]; rfl) hpi i' j' y q1 q2 q3 q4
        · exact .inr ⟨(r1 j hj).trans g1, g2⟩
      | mmap K V es =>
        obtain ⟨b, g1, g2, g3⟩ := this
        refine ⟨b, (r1 j hj).trans g1, R.but.keep b _ (fun hl => ?_) g2, R.but.used _ g3⟩
        obtain ⟨i', j', y, q1, q2, q3, q4⟩ := hback b hl
        exact hold j _ b hx rfl (by rw [g1]; rfl) hpi i' j' y q1 q2 q3 q4
      | row e sz =>
        obtain ⟨m, cs, ho⟩ := this
        refine ⟨m, cs, ?_⟩
        rw [r1 j hj]
        refine ho.but' R.but fun b hb hl => ?_
        obtain ⟨i', j', y, q1, q2, q3, q4⟩ := hback b hl
        exact hold j _ b hx rfl hb hpi i' j' y q1 q2 q3 q4
      | gen E x =>
        show C.gsh E x τ (ρ' j)
        rw [r1 j hj]
        refine C.gsh_but _ _ _ _ _ _ this R.but fun b hb hl => ?_
        obtain ⟨i', j', y, q1, q2, q3, q4⟩ := hback b hl
        exact hold j _ b hx rfl hb hpi i' j' y q1 q2 q3 q4
      | dead => trivial
    · exact renH_sh hren (Ht.it i y hy) (hfrom hy w)
  · have cross : ∀ {j k : Nat} {x y : HI T} {i : Nat}, h[j]? = some x → pinv2 π j n = none → x.alive = true → (ρ' j).owns b → ht[i]? = some y → y.alive = true → (ρt i).owns b → False := fun {j k x y i} hx hpi ax bx hy ay by_ => by
      have hj := lt_of_get hx
      rw [r1 j hj] at bx
      rcases R.born b ⟨i, y, hy, ay, by_⟩ with g | g
      · obtain ⟨i', j', w, q1, q2, q3, q4⟩ := hback' b g
        exact hold j x b hx ax bx hpi i' j' w q1 q2 q3 q4
      · exact g.2 (H.used ⟨j, x, hx, ax, bx⟩)
    rcases merge_get hle hx with ⟨hx, hpi⟩ | ⟨i, x', hx', rfl, w⟩ <;> rcases merge_get hle hy with ⟨hy, hpk⟩ | ⟨i2, y', hy', rfl, w2⟩
    · rw [r1 j (lt_of_get hx)] at bx
      rw [r1 k (lt_of_get hy)] at by_
      exact H.dist j k x y b hx hy ax ay bx by_
    · rw [renH_alive] at ay
      rw [hfrom hy' w2] at by_
      exact (cross (k := k) hx hpi ax bx hy' ay by_).elim
    · rw [renH_alive] at ax
      rw [hfrom hx' w] at bx
      exact (cross (k := j) hy hpk ay by_ hx' ax bx).elim
    · rw [renH_alive] at ax ay
      rw [hfrom hx' w] at bx
      rw [hfrom hy' w2] at by_
      have := Ht.dist i i2 x' y' b hx' hy' ax ay bx by_
      subst this
      rcases w with ⟨w1, w3, w4⟩ | ⟨w1, w3⟩ <;> rcases w2 with ⟨u1, u3, u4⟩ | ⟨u1, u3⟩
      · rw [w4] at u4; injection u4 with u4; injection u4
      · omega
      · omega
      · omega
  · obtain ⟨i', j', y, q1, q2, q3, q4⟩ := hback b hb
    exact ⟨j', y, prng_mem q1, q2, q3, q4⟩
  · obtain ⟨j, x, hx, ax, bx⟩ := hb
    rcases merge_get hle hx with ⟨hx, hpi⟩ | ⟨i, y, hy, rfl, w⟩
    · rw [r1 j (lt_of_get hx)] at bx
      exact .inl ⟨j, x, hx, ax, bx⟩
    · rw [renH_alive] at ax
      rw [hfrom hy w] at bx
      rcases R.born b ⟨i, y, hy, ax, bx⟩ with g | g
      · obtain ⟨i', j', w, q1, q2, q3, q4⟩ := hback' b g
        exact .inl ⟨j', w, q2, q3, q4⟩
      · exact .inr g
/-- All of a shape, read. -/
theorem all_sound {vs : List Vs} {hs : List Hs} {xs : List (XV T)} {k : VsD T vs → HsD T hs → Pi → Option A} (hk : rdAll C vs hs xs h k = some z) : ∃ d dh π, k d dh π = some z ∧ pok hs.length h.length π = true ∧
    ∀ ρ σ as_, SVs C h.length ρ xs as_ → Hp C ρ h σ → SVs C hs.length (pasg π ρ) (stVs C vs d) as_ ∧ Hp C (pasg π ρ) (stHs C hs dh) σ ∧
      ∀ i x b, (stHs C hs dh)[i]? = some x → x.alive = true → (pasg π ρ i).owns b → ∃ j y, plook π i = some (some j) ∧ h[j]? = some y ∧ y.alive = true ∧ (ρ j).owns b := by
  unfold rdAll at hk
  obtain ⟨d, π1, h1, h2, h3, h4⟩ := vs_rds hk
  obtain ⟨dh, π2, g1, g2, g3, g4, g5⟩ := fin_sound h1
  have hI : Inj π2 := g3 (h3 fun i j x hx _ => by simp [plook] at hx)
  refine ⟨d, dh, π2, g1, g4, fun ρ σ as_ hs H => ?_⟩
  have hM : ∀ i x, plook π2 i = some x → i < _ := fun i x hx => (pok_spec g4 hx).1
  exact ⟨h4 _ _ π2 ρ as_ g2 hM hs, g5 π2 ρ σ hI (.refl _) hM H⟩
end
end Go.Proofs.YtmffcfjdacoigaaGreat
