/- Arrays: what the executor says of appending, copying, clearing, making, holds in the model. -/
import Derived.Test.YtlmmpfbdgiokmaaGreatXa
namespace Go.Proofs.YtlmmpfbdgiokmaaGreat
open Go.RowKit
set_option linter.unusedSimpArgs false
set_option maxRecDepth 100000
set_option linter.unusedVariables false
variable {T : Nat → Type} {A : Type}
section
variable {U : Nat → Prop} {C : Codec T} {ρ ρ' : Nat → AV} {h h1 : List (HI T)} {σ τ : St}
/-- One of ours is given up. -/
theorem Hp.kill (H : Hp C ρ' h1 τ) (R : Rel U ρ h σ ρ' h1 τ) (i : Nat) : Hp C ρ' (h1.set i .dead) τ ∧ Rel U ρ h σ ρ' (h1.set i .dead) τ := by
  have hl : (h1.set i HI.dead).length = h1.length := by simp
  refine ⟨⟨fun j x hx => ?_, fun j k x y c hx hy ax ay bx by_ => ?_⟩, ⟨by rw [hl]; exact R.len, R.ext, R.but, fun c ⟨j, x, hx, ax, bx⟩ => ?_⟩⟩
  · rw [hl]
    rcases get_set hx with ⟨_, rfl, _⟩ | ⟨_, hx⟩
    · trivial
    · exact H.it j x hx
  · rcases get_set hx with ⟨_, rfl, _⟩ | ⟨_, hx⟩
    · cases ax
    rcases get_set hy with ⟨_, rfl, _⟩ | ⟨_, hy⟩
    · cases ay
    exact H.dist j k x y c hx hy ax ay bx by_
  · rcases get_set hx with ⟨_, rfl, _⟩ | ⟨_, hx⟩
    · cases ax
    exact R.born c ⟨j, x, hx, ax, bx⟩
/-- A list that is none, as an array. -/
theorem Hp.newNil (H : Hp C ρ h σ) (e : TypeId) (E : Nat) (kp : Bool) : Hp C (rup ρ h.length (.lst none 0 0 [])) (h ++ [.arr e E kp []]) σ ∧ Rel U ρ h σ (rup ρ h.length (.lst none 0 0 [])) (h ++ [.arr e E kp []]) σ := by
  have hext : ∀ j, j < h.length → rup ρ h.length (.lst none 0 0 []) j = ρ j := fun j hj => rup_other (by omega)
  have hlen : h.length ≤ (h ++ [HI.arr e E kp []]).length := by simp
  refine ⟨⟨fun j x hx => ?_, fun j k x y c hx hy ax ay bx by_ => ?_⟩, ⟨hlen, hext, .refl _ _, fun c ⟨j, x, hx, ax, bx⟩ => ?_⟩⟩
  · rcases get_app hx with ⟨rfl, rfl⟩ | ⟨hj, hx⟩
    · exact .inr ⟨rup_same _ _ _, rfl⟩
    · have := H.it j x hx
      cases x with
      | obj t' cs' =>
        obtain ⟨b', acs', q1, q2, q3, q4⟩ := this
        exact ⟨b', acs', (hext j hj).trans q1, q2, q3, q4.ext hlen hext⟩
      | arr e2 E2 kp2 xs2 =>
        unfold SH at this ⊢
        rw [hext j hj]
        exact this
      | row e2 sz2 =>
        unfold SH at this ⊢
        rw [hext j hj]
        exact this
      | mmap K2 V2 es2 =>
        unfold SH at this ⊢
        rw [hext j hj]
        exact this
      | gen E2 x2 =>
        unfold SH at this ⊢
        rw [hext j hj]
        exact this
      | dead => trivial
  · rcases get_app hx with ⟨rfl, rfl⟩ | ⟨hj, hx⟩ <;> rcases get_app hy with ⟨rfl, rfl⟩ | ⟨hk, hy⟩
    · rfl
    · rw [rup_same] at bx; cases bx
    · rw [rup_same] at by_; cases by_
    · rw [hext j hj] at bx
      rw [hext k hk] at by_
      exact H.dist j k x y c hx hy ax ay bx by_
  · rcases get_app hx with ⟨rfl, rfl⟩ | ⟨hj, hx⟩
    · rw [rup_same] at bx; cases bx
    · rw [hext j hj] at bx
      exact .inl ⟨j, x, hx, ax, bx⟩
/-- An array gets a new number. -/
theorem Hp.move (H : Hp C ρ' h1 τ) (R : Rel U ρ h σ ρ' h1 τ) {i : Nat} {e : TypeId} {E : Nat} {kp : Bool} {xs : List (T E)} (hi : h1[i]? = some (.arr e E kp xs)) :
    Hp C (rup ρ' h1.length (ρ' i)) (h1.set i .dead ++ [.arr e E kp xs]) τ ∧ Rel U ρ h σ (rup ρ' h1.length (ρ' i)) (h1.set i .dead ++ [.arr e E kp xs]) τ := by
  obtain ⟨H2, R2⟩ := H.kill R i
  have hil := lt_of_get hi
  have hl : (h1.set i HI.dead).length = h1.length := by simp
  have hext : ∀ j, j < h1.length → rup ρ' h1.length (ρ' i) j = ρ' j := fun j hj => rup_other (by omega)
  have hlen : (h1.set i HI.dead).length ≤ (h1.set i HI.dead ++ [HI.arr e E kp xs]).length := by simp
  have hi0 := H.it i _ hi
  have hne : ∀ j x, (h1.set i HI.dead)[j]? = some x → x.alive = true → j ≠ i ∧ h1[j]? = some x := fun j x hx ax => by
    rcases get_set hx with ⟨_, rfl, _⟩ | ⟨hn, hx⟩
    · cases ax
    · exact ⟨hn, hx⟩
  refine ⟨⟨fun j x hx => ?_, fun j k x y c hx hy ax ay bx by_ => ?_⟩, ⟨by rw [List.length_append, hl]; have := R.len; omega, fun j hj => ?_, R.but, fun c ⟨j, x, hx, ax, bx⟩ => ?_⟩⟩
  · rcases get_app hx with ⟨rfl, rfl⟩ | ⟨hj, hx⟩
    · rw [hl]
      unfold SH at hi0 ⊢
      rw [rup_same]
      exact hi0
    · rw [hl] at hj
      have := H2.it j x hx
      cases x with
      | obj t' cs' =>
        obtain ⟨b', acs', q1, q2, q3, q4⟩ := this
        exact ⟨b', acs', (hext j hj).trans q1, q2, q3, q4.ext hlen (fun m hm => hext m (by rw [hl] at hm; exact hm))⟩
      | arr e2 E2 kp2 xs2 =>
        unfold SH at this ⊢
        rw [hext j hj]
        exact this
      | row e2 sz2 =>
        unfold SH at this ⊢
        rw [hext j hj]
        exact this
      | mmap K2 V2 es2 =>
        unfold SH at this ⊢
        rw [hext j hj]
        exact this
      | gen E2 x2 =>
        unfold SH at this ⊢
        rw [hext j hj]
        exact this
      | dead => trivial
  · rcases get_app hx with ⟨rfl, rfl⟩ | ⟨hj, hx⟩ <;> rcases get_app hy with ⟨rfl, rfl⟩ | ⟨hk, hy⟩
    · rfl
    · rw [hl] at hk bx
      rw [rup_same] at bx
      rw [hext k hk] at by_
      obtain ⟨q1, q2⟩ := hne k y hy ay
      exact absurd (H.dist k i y _ c q2 hi ay rfl by_ bx) q1
    · rw [hl] at hj by_
      rw [rup_same] at by_
      rw [hext j hj] at bx
      obtain ⟨q1, q2⟩ := hne j x hx ax
      exact absurd (H.dist j i x _ c q2 hi ax rfl bx by_) q1
    · rw [hl] at hj hk
      rw [hext j hj] at bx
      rw [hext k hk] at by_
      exact H2.dist j k x y c hx hy ax ay bx by_
  · rw [hext j (by have := R.len; omega)]
    exact R.ext j hj
  · rcases get_app hx with ⟨rfl, rfl⟩ | ⟨hj, hx⟩
    · rw [hl, rup_same] at bx
      exact R.born c ⟨i, _, hi, rfl, bx⟩
    · rw [hl] at hj
      rw [hext j hj] at bx
      exact R2.born c ⟨j, x, hx, ax, bx⟩
end
section
variable {U : Nat → Prop} {C : Codec T} {N : Nat} {ρ : Nat → AV} {P : Program} {h : List (HI T)} {d : Option Nat} {ty t : TypeId} {pos : String} {af : Array Edge} {g : Option (Nat × Bool)} {z : A} {k : XV T → List (HI T) → Option A} {vs : List (XV T)}
theorem cellsAt_drop {tb : Option Bool} {n : Option Nat} {cs : List AV} {q : Nat} {a : AV} (hq : q ≤ cs.length) (h : cellsAt tb n (cs.drop q) 0 = some a) : cellsAt tb n cs q = some a := by
  unfold cellsAt at h ⊢
  split at h
  · split at h
    · rename_i hl
      rw [List.length_drop] at hl
      rw [if_pos (by omega)]
      exact h
    · cases h
  · rw [List.getElem?_drop] at h
    exact h
  · cases h
theorem arr_at {E j : Nat} {xs : List (T E)} {x : T E} {pre rest : List AV} (hs : SVs C N ρ (xs.flatMap (C.enc E)) pre) (hj : xs[j]? = some x) : ∃ p q r, pre ++ rest = p ++ (q ++ r) ∧ p.length = j * C.sz E ∧ SVs C N ρ (C.enc E x) q := by
  have hlt := lt_of_get hj
  have hlen := hs.len
  rw [enc_len] at hlen
  have hm : (j + 1) * C.sz E ≤ xs.length * C.sz E := Nat.mul_le_mul_right _ hlt
  rw [Nat.succ_mul] at hm
  refine ⟨pre.take (j * C.sz E), (pre.drop (j * C.sz E)).take (C.sz E), (pre.drop (j * C.sz E)).drop (C.sz E) ++ rest, ?_, by rw [List.length_take]; omega, ?_⟩
  · rw [← List.append_assoc, ← List.append_assoc, List.append_assoc (pre.take _), List.take_append_drop, List.take_append_drop]
  · have := (hs.drop (j * C.sz E)).take (C.sz E)
    rw [enc_drop, List.drop_eq_getElem_cons hlt, List.flatMap_cons, List.take_append_of_le_length (by rw [C.len]; omega), List.take_of_length_le (by rw [C.len]; omega)] at this
    have hx : xs[j] = x := by rw [List.getElem?_eq_getElem hlt] at hj; injection hj
    rw [hx] at this
    exact this
theorem ptr_inj' {b c o p : Nat} (he : ptr b o = ptr c p) : b = c := by
  unfold ptr at he
  injection he with he; injection he with he; injection he with he; injection he
theorem Hp.arrAt {σ : St} {E i b : Nat} {kp : Bool} {e : TypeId} {xs : List (T E)} (H : Hp C ρ h σ) (hi : h[i]? = some (.arr e E kp xs)) {K : Nat} (hρ : ρ i = ab b K) : ∃ pre rest, σ.blk b = some (.own e (pre ++ rest)) ∧ σ.used b ∧ (∀ N' ρ', SVs C N' ρ' (xs.flatMap (C.enc E)) pre) ∧ (pre ++ rest).length = K * C.sz E ∧ K ≤ maxLen ∧ (C.full E = true → ∃ zs : List (T E), ∀ N' ρ', SVs C N' ρ' (zs.flatMap (C.enc E)) rest) := by
  rcases H.it i _ hi with ⟨b', K', pre, rest, hb1, hb2, hb3, hb4⟩ | ⟨hb1, _⟩
  · rw [hρ] at hb1
    obtain ⟨e1, e2⟩ := ab_inj hb1
    subst e1 e2
    exact ⟨pre, rest, hb2, hb3, hb4⟩
  · rw [hρ] at hb1; cases hb1
theorem obind {α β : Type} {o : Option α} {f : α → Option β} {z : β} (h : o.bind f = some z) : ∃ a, o = some a ∧ f a = some z := by
  cases o with
  | none => cases h
  | some a => exact ⟨a, rfl, h⟩
theorem splice_arr (pre rest news : List AV) {off : Nat} (ho : off ≤ pre.length) : splice (pre ++ rest) off news = (pre.take off ++ news ++ pre.drop (off + news.length)) ++ rest.drop (off + news.length - pre.length) := by
  unfold splice
  rw [List.take_append_of_le_length ho, List.drop_append, List.append_assoc, List.append_assoc, List.append_assoc]
theorem src_part {σ : St} {b sz off m : Nat} {e : TypeId} {cs : List AV} {y : AV} {ad : Addr} {c : Nat} (hy : y.val = .slice (some ad) m c) (hb : σ.blk b = some (.own e cs)) (had : 0 < m → ad = ⟨b, off, none⟩) (hsz : 0 < sz) (hl : off + m * sz ≤ cs.length) (h1 : ∀ a ∈ (cs.drop off).take (m * sz), a.one = true) :
    Src σ sz y m ((cs.drop off).take (m * sz)) := by
  refine ⟨by rw [List.length_take, List.length_drop]; omega, h1, ⟨_, _, hy, fun e => by cases e⟩, fun w Z hH hV => ⟨fun a ha => (hH.own _ _ _ hb).2.2 a (List.mem_of_mem_drop (List.mem_of_mem_take ha)), fun ad' c' hy' j u hu => ?_⟩⟩
  rw [hy] at hy'
  injection hy' with q1 _ _
  injection q1 with q1
  subst q1
  rw [List.getElem?_map, List.getElem?_take] at hu
  split at hu
  · rename_i hj
    have hm : 0 < m := by
      rcases Nat.eq_zero_or_pos m with h0 | h0
      · subst h0; omega
      · exact h0
    rw [had hm]
    cases hd : (cs.drop off)[j]? with
    | none => rw [hd] at hu; cases hu
    | some q =>
      rw [hd] at hu
      injection hu with hu
      subst hu
      rw [List.getElem?_drop] at hd
      exact own_cells hH hb off j hd
  · cases hu
theorem src_nil {σ : St} {sz : Nat} : Src σ sz (.lst none 0 0 []) 0 [] := ⟨by simp, by simp, ⟨none, 0, by simp, fun _ => rfl⟩, fun w Z hH hV => ⟨by simp, fun ad c hy j u hu => by simp at hu⟩⟩
theorem xsrc_sound {E : Nat} {v : XV T} {k : List (T E) → Option A} (hk : xsrc C E h v k = some z) : ∃ ys : List (T E), k ys = some z ∧ ∀ ρ σ a, SV C h.length ρ v a → Hp C ρ h σ → ∃ news, Src σ (C.sz E) a ys.length news ∧ ∀ N' ρ', SVs C N' ρ' (ys.flatMap (C.enc E)) news := by
  unfold xsrc at hk
  split at hk
  · refine ⟨[], hk, fun ρ σ a hs H => ⟨[], ?_, fun _ _ => .none⟩⟩
    rw [sv_nil.1 hs]
    exact src_nil
  · rename_i E' ys ow
    split at hk
    rotate_left
    · cases hk
    rename_i hE
    subst hE
    refine ⟨ys, hk, fun ρ σ a hs H => ?_⟩
    obtain ⟨B, c, cs, rest, rfl, l1, l2, l3, l4, l5⟩ := sv_list hs
    have hlen := l5.len
    rw [enc_len] at hlen
    refine ⟨cs, ⟨hlen, l5.ones fun v hv => closed_one (enc_shut ys v hv), ⟨B, c, by simp, fun e => (l4 e).1⟩, fun w Z hH hV => ?_⟩, fun N' ρ' => l5.shut (enc_shut ys)⟩
    cases B with
    | none =>
      have : ys.length = 0 := (l4 rfl).1
      have hc0 : cs = [] := List.eq_nil_of_length_eq_zero (by rw [hlen, this, Nat.zero_mul])
      subst hc0
      exact ⟨by simp, fun ad c hy j u hu => by simp at hu⟩
    | some ad =>
      unfold Valid at hV
      have hat := hV.2.2 ad rfl
      refine ⟨fun q hq => ?_, fun ad' c' hy j u hu => ?_⟩
      · obtain ⟨j, hj⟩ := List.getElem?_of_mem hq
        exact (valid_cells hat (by rw [List.getElem?_append_left (lt_of_get hj)]; exact hj)).2.2
      · rw [AV.val_lst] at hy
        injection hy with q1 _ _
        injection q1 with q1
        subst q1
        rw [List.getElem?_map] at hu
        cases hd : cs[j]? with
        | none => rw [hd] at hu; cases hu
        | some q =>
          rw [hd] at hu
          injection hu with hu
          subst hu
          exact (valid_cells hat (by rw [List.getElem?_append_left (lt_of_get hd)]; exact hd)).1
  · rename_i E' j lo m co
    split at hk
    rotate_left
    · cases hk
    rename_i e2 E2 kp xs hj
    split at hk
    rotate_left
    · cases hk
    rename_i hE
    subst hE
    split at hk
    rotate_left
    · cases hk
    rename_i hE'
    have hE' := Nat.eq_of_beq_eq_true hE'
    subst hE'
    split at hk
    rotate_left
    · cases hk
    rename_i hlm
    have hyl : ((xs.drop lo).take m).length = m := by rw [List.length_take, List.length_drop]; omega
    refine ⟨_, hk, fun ρ σ a hs H => ?_⟩
    rcases sv_as.1 hs with ⟨ad, c, rfl, hA⟩ | ⟨rfl, hn0, hiN, hρi, hco⟩
    · obtain ⟨b, q1, q2⟩ := hA.at_
      obtain ⟨pre, rest, hb2, hb3, hb4, hb5, hb6⟩ := H.arrAt hj q1
      have hpl := (hb4 h.length ρ).len
      rw [enc_len] at hpl
      have hle := hA.le
      have hm1 : (lo + m) * C.sz E' ≤ xs.length * C.sz E' := Nat.mul_le_mul_right _ hlm
      rw [Nat.add_mul] at hm1
      have hcut : ((pre ++ rest).drop (lo * C.sz E')).take (m * C.sz E') = (pre.drop (lo * C.sz E')).take (m * C.sz E') := by
        rw [List.drop_append_of_le_length (by omega), List.take_append_of_le_length (by rw [List.length_drop]; omega)]
      have hsv : ∀ N' ρ', SVs C N' ρ' (((xs.drop lo).take m).flatMap (C.enc E')) ((pre.drop (lo * C.sz E')).take (m * C.sz E')) := fun N' ρ' => by
        have := ((hb4 N' ρ').drop (lo * C.sz E')).take (m * C.sz E')
        rw [enc_drop, enc_take] at this
        exact this
      refine ⟨(pre.drop (lo * C.sz E')).take (m * C.sz E'), ?_, hsv⟩
      rw [hyl]
      have := src_part (σ := σ) (sz := C.sz E') (off := lo * C.sz E') (m := m) (c := c) (y := .raw (.slice (some ad) m c)) (by simp) hb2 (fun h0 => q2 (by omega)) (C.pos E') (by rw [List.length_append]; omega) (by
        rw [hcut]
        exact (hsv h.length ρ).ones fun v hv => closed_one (enc_shut _ v hv))
      rw [hcut] at this
      exact this
    · subst hn0
      refine ⟨[], ?_, fun _ _ => by rw [List.take_zero]; exact .none⟩
      rw [hyl]
      exact src_nil
  · cases hk
theorem xzero_sound {E sz : Nat} {zv : Value} {k : T E → Option A} (hk : xzero C E sz zv k = some z) : ∃ zt : T E, k zt = some z ∧ ∀ n N ρ, SVs C N ρ ((List.replicate n zt).flatMap (C.enc E)) ((List.replicate n ((List.range sz).map fun i => AV.ofV (zv.cells[i % sz]!))).flatten) := by
  unfold xzero at hk
  cases hd : C.dec E ((List.range sz).map fun i => .ofV (zv.cells[i % sz]!)) with
  | none => rw [hd] at hk; cases hk
  | some zt =>
    rw [hd] at hk
    refine ⟨zt, hk, fun n N ρ => ?_⟩
    have h0 : SVs C N ρ (C.enc E zt) ((List.range sz).map fun i => AV.ofV (zv.cells[i % sz]!)) := Wks.sv (C.back E _ _ hd) (rangeV_sv _ _ _)
    induction n with
    | zero => exact .none
    | succ n ih =>
      rw [List.replicate_succ, List.replicate_succ, List.flatMap_cons, List.flatten_cons]
      exact h0.app ih
theorem fullOk_sound {E sz : Nat} {zv : Value} (h : fullOk C E sz zv = true) (hf : C.full E = true) : ∃ zt : T E, ∀ n N ρ, SVs C N ρ ((List.replicate n zt).flatMap (C.enc E)) ((List.replicate n ((List.range sz).map fun i => AV.ofV (zv.cells[i % sz]!))).flatten) := by
  unfold fullOk at h
  rw [hf, Bool.not_true, Bool.false_or] at h
  obtain ⟨zt, hd⟩ := Option.isSome_iff_exists.1 h
  obtain ⟨zt', _, hz⟩ := xzero_sound (C := C) (E := E) (sz := sz) (zv := zv) (k := some) (z := zt) (by unfold xzero; rw [hd]; rfl)
  exact ⟨zt', hz⟩
end
end Go.Proofs.YtlmmpfbdgiokmaaGreat
