/- Loops over shapes. -/
import Derived.Test.YtmffcfjdacoigaaGreatX13
namespace Go.Proofs.YtmffcfjdacoigaaGreat
open Go.RowKit
set_option linter.unusedSimpArgs false
set_option maxRecDepth 100000
set_option linter.unusedVariables false
variable {T : Nat → Type} {A : Type}
section
variable {α β : Type}
/-- So many rounds. -/
def iterM (step : α → Option (α ⊕ β)) : Nat → α → Option β
  | 0, _ => none
  | n + 1, a => match step a with
    | none => none
    | some (.inl a') => iterM step n a'
    | some (.inr b) => some b
theorem iterM_more {step : α → Option (α ⊕ β)} : ∀ {n : Nat} {a : α} {b : β}, iterM step n a = some b → iterM step (n + 1) a = some b
  | 0, a, b, h => by cases h
  | n + 1, a, b, h => by
    unfold iterM at h ⊢
    split at h
    · cases h
    · exact iterM_more h
    · exact h
theorem iterM_le {step : α → Option (α ⊕ β)} {n m : Nat} (hnm : n ≤ m) {a : α} {b : β} (h : iterM step n a = some b) : iterM step m a = some b := by
  induction m with
  | zero => obtain rfl : n = 0 := by omega
            exact h
  | succ m ih =>
    rcases Nat.lt_or_ge m n with h1 | h1
    · obtain rfl : n = m + 1 := by omega
      exact h
    · exact iterM_more (ih h1)
open Classical in
/-- As many rounds as it takes. -/
noncomputable def loopM (step : α → Option (α ⊕ β)) (a : α) : Option β := if h : ∃ n b, iterM step n a = some b then some (Classical.choose (Classical.choose_spec h)) else none
theorem loopM_of {step : α → Option (α ⊕ β)} {n : Nat} {a : α} {b : β} (h : iterM step n a = some b) : loopM step a = some b := by
  unfold loopM
  have hex : ∃ n b, iterM step n a = some b := ⟨n, b, h⟩
  rw [dif_pos hex]
  have h2 := Classical.choose_spec (Classical.choose_spec hex)
  have h3 := iterM_le (Nat.le_max_left _ n) h2
  have h4 := iterM_le (Nat.le_max_right (Classical.choose hex) n) h
  rw [h4] at h3
  injection h3 with h3
  rw [h3]
theorem loopM_iter {step : α → Option (α ⊕ β)} {a : α} {b : β} (h : loopM step a = some b) : ∃ n, iterM step n a = some b := by
  unfold loopM at h
  split at h
  · rename_i hex
    injection h with h
    have h2 := Classical.choose_spec (Classical.choose_spec hex)
    rw [h] at h2
    exact ⟨_, h2⟩
  · cases h
theorem loopM_eq (step : α → Option (α ⊕ β)) (a : α) : loopM step a = match step a with
    | none => none
    | some (.inl a') => loopM step a'
    | some (.inr b) => some b := by
  have up : ∀ {b}, loopM step a = some b → (match step a with | none => none | some (.inl a') => loopM step a' | some (.inr b) => some b) = some b := fun {b} h => by
    obtain ⟨n, hn⟩ := loopM_iter h
    cases n with
    | zero => cases hn
    | succ n =>
      unfold iterM at hn
      split at hn
      · cases hn
      · exact loopM_of hn
      · exact hn
  have down : ∀ {b}, (match step a with | none => none | some (.inl a') => loopM step a' | some (.inr b) => some b) = some b → loopM step a = some b := fun {b} h => by
    split at h
    · cases h
    · rename_i a' ha
      obtain ⟨n, hn⟩ := loopM_iter h
      exact loopM_of (n := n + 1) (by unfold iterM; rw [ha]; exact hn)
    · rename_i b' hb
      exact loopM_of (n := 1) (by unfold iterM; rw [hb]; exact h)
  cases h1 : loopM step a with
  | some b => exact (up h1).symm
  | none =>
    cases h2 : (match step a with | none => none | some (.inl a') => loopM step a' | some (.inr b) => some b) with
    | none => rfl
    | some b => rw [down h2] at h1; cases h1
end
/-- A way out of a loop: how, where the values lie, their shapes. -/
structure Ou where
  ex : Exit
  slots : List Nat
  vs : List Vs
  hs : List Hs
@[reducible] def Ou.D (T : Nat → Type) (o : Ou) : Type := VsD T o.vs × HsD T o.hs
@[reducible] def OsD (T : Nat → Type) : List Ou → Type
  | [] => Empty
  | [o] => o.D T
  | o :: o' :: l => o.D T ⊕ OsD T (o' :: l)
def exEq : Exit → Exit → Bool
  | .normal, .normal => true
  | .ret, .ret => true
  | .exit a, .exit b => Nat.beq a b
  | _, _ => false
theorem exEq_eq {a b : Exit} (h : exEq a b = true) : a = b := by
  cases a <;> cases b <;> simp_all [exEq]
def isObjT (hs : List Hs) (i : Nat) : Bool := match hs[i]? with
  | some (.obj _ _) => true
  | some (.cobj _ _) => true
  | some (.arr _ _ true) => true
  | some (.mmap _ _) => true
  | some (.gen _ true) => true
  | _ => false
def outOkL (hs : List Hs) (m : Nat) (π : Pi) : Bool := Nat.ble hs.length m && π.all fun p => Nat.ble hs.length p.1 || (oeq p.2 (some p.1) && isObjT hs p.1)
/-- A state, read as one of the ways out. -/
def rdOs (C : Codec T) (hs0 : List Hs) (π0 : Pi) (ex : Exit) (env : XE T) (h : List (HI T)) : (os : List Ou) → (OsD T os → Option A) → Option A
  | [], _ => none
  | [o], k => cond (exEq ex o.ex) (rdVs C o.vs (o.slots.map (xget env)) π0 fun d π => rdFin C o.hs h π fun dh π => cond (outOkL hs0 o.hs.length π) (k (d, dh)) none) none
  | o :: o' :: l, k => cond (exEq ex o.ex) (rdVs C o.vs (o.slots.map (xget env)) π0 fun d π => rdFin C o.hs h π fun dh π => cond (outOkL hs0 o.hs.length π) (k (.inl (d, dh))) none) (rdOs C hs0 π0 ex env h (o' :: l) fun d => k (.inr d))
/-- The state of a way out. -/
def stOs (C : Codec T) : (os : List Ou) → OsD T os → (Exit → List Nat → List (XV T) → List (HI T) → Option A) → Option A
  | [], d, _ => d.elim
  | [o], d, k => k o.ex o.slots (stVs C o.vs d.1) (stHs C o.hs d.2)
  | o :: o' :: l, d, k => match d with
    | .inl d => k o.ex o.slots (stVs C o.vs d.1) (stHs C o.hs d.2)
    | .inr d => stOs C (o' :: l) d k
def zenv : List Nat → List (XV T) → XE T
  | i :: l, v :: vs => (i, v) :: zenv l vs
  | _, _ => []
/-- The ways on: another round, or out. -/
def rdLp (C : Codec T) (slots : List Nat) (vs : List Vs) (hs : List Hs) (os : List Ou) : XK T ((VsD T vs × HsD T hs) ⊕ OsD T os) := fun ex env h =>
  cond (exEq ex .normal) (rdVs C vs (slots.map (xget env)) (idPi 0 hs) fun d π => rdFin C hs h π fun dh π => some (.inl (d, dh)))
    (rdOs C hs (idPi 0 hs) ex env h os fun d => some (.inr d))
structure LE (C : Codec T) (P : Program) where
  id : Nat
  slots : List Nat
  vs : List Vs
  hs : List Hs
  os : List Ou
  step : VsD T vs × HsD T hs → Option ((VsD T vs × HsD T hs) ⊕ OsD T os)
noncomputable def runLE {C : Codec T} {P : Program} (E : LE C P) (env : XE T) (h : List (HI T)) (k : XK T A) : Option A :=
  rdAll C E.vs E.hs (E.slots.map (xget env)) h fun d dh π => (loopM E.step (d, dh)).bind fun b => stOs C E.os b fun ex slots vs ht =>
    forceL (vs.map (ren2 (pf π E.hs.length h.length))) fun vs => hforce (merge π E.hs.length h ht) fun h' => k ex (zenv slots vs) h'
def lfind {C : Codec T} {P : Program} : List (LE C P) → Nat → Option (LE C P)
  | [], _ => none
  | E :: l, i => cond (Nat.beq E.id i) (some E) (lfind l i)
noncomputable def lpsOf {C : Codec T} {P : Program} (tbl : List (LE C P)) : Lps T A := fun i env h k => match lfind tbl i with
  | some E => runLE E env h k
  | none => none
section
variable {C : Codec T} {P : Program} {ρ ρ' ρ0 : Nat → AV} {env env' : XE T} {h h0 h' : List (HI T)} {e : Env} {σ τ σ0 : St} {z : A} {n : Nat} {π0 : Pi}
/-- From a loop's start: its objects are where they were. -/
structure RelL (Kp : Nat → Bool) (ρ0 : Nat → AV) (h0 : List (HI T)) (σ0 : St) (ρ : Nat → AV) (h : List (HI T)) (σ : St) : Prop where
  ext : ∀ i, Kp i = true → ρ i = ρ0 i
  but : But (LivU (fun _ => True) ρ0 h0) σ0 σ
  born : ∀ b, Liv ρ h b → Liv ρ0 h0 b ∨ (σ0.blk b = none ∧ ¬ σ0.used b)
theorem envs_sv (hs : ∀ i, SV C n ρ (xget env i) (e i)) (l : List Nat) : SVs C n ρ (l.map (xget env)) (l.map e) := by
  induction l with
  | nil => exact .none
  | cons i l ih => exact .cons (hs i) ih
theorem zenv_sat : ∀ (slots : List Nat) (vs : List (XV T)), SVs C n ρ vs (slots.map e) → ∀ i, SV C n ρ (xget (zenv slots vs) i) (e i)
  | [], vs, hs, i => by cases vs <;> exact sv_junk
  | s :: slots, [], hs, i => sv_junk
  | s :: slots, v :: vs, hs, i => by
    have h1 := hs.head
    have h2 := hs.tail
    unfold zenv
    rw [xget_cons]
    split
    · rename_i hi; subst hi; exact h1
    · exact zenv_sat slots vs h2 i
theorem stHs_isObj : ∀ (l : List Hs) (i k : Nat), isObjT l i = true → plook (idPi k l) (k + i) = some (some (k + i))
  | [], i, k, hi => by simp [isObjT] at hi
  | x :: l, 0, k, hi => by
    cases x with
    | obj t c => unfold idPi; rw [plook_cons, if_pos (by omega), Nat.add_zero]
    | cobj t c => unfold idPi; rw [plook_cons, if_pos (by omega), Nat.add_zero]
    | mmap K V => unfold idPi; rw [plook_cons, if_pos (by omega), Nat.add_zero]
    | arr t c kp => cases kp with
      | true => unfold idPi; rw [plook_cons, if_pos (by omega), Nat.add_zero]
      | false => simp [isObjT] at hi
    | row a b => simp [isObjT] at hi
    | gen t kp => cases kp with
      | true => unfold idPi; rw [plook_cons, if_pos (by omega), Nat.add_zero]
      | false => simp [isObjT] at hi
    | lobj a b => simp [isObjT] at hi
    | lmap a b => simp [isObjT] at hi
    | dead => simp [isObjT] at hi
  | x :: l, i + 1, k, hi => by
    have hi' : isObjT l i = true := by simpa [isObjT] using hi
    have ih := stHs_isObj l i (k + 1) hi'
    rw [show k + 1 + i = k + (i + 1) from by omega] at ih
    cases x with
    | obj t c => unfold idPi; rw [plook_cons, if_neg (by omega)]; exact ih
    | cobj t c => unfold idPi; rw [plook_cons, if_neg (by omega)]; exact ih
    | mmap K V => unfold idPi; rw [plook_cons, if_neg (by omega)]; exact ih
    | arr t c kp => cases kp with
      | true => unfold idPi; rw [plook_cons, if_neg (by omega)]; exact ih
      | false => exact ih
    | row a b => exact ih
    | gen t kp => cases kp with
      | true => unfold idPi; rw [plook_cons, if_neg (by omega)]; exact ih
      | false => exact ih
    | lobj a b => exact ih
    | lmap a b => exact ih
    | dead => exact ih
theorem isObjT_lt {l : List Hs} {i : Nat} (hi : isObjT l i = true) : i < l.length := by
  unfold isObjT at hi
  split at hi
  · exact lt_of_get ‹_›
  · exact lt_of_get ‹_›
  · exact lt_of_get ‹_›
  · exact lt_of_get ‹_›
  · exact lt_of_get ‹_›
  · cases hi
theorem RelL.step {Kp : Nat → Bool} {V : Nat → Prop} (H0 : Hp C ρ0 h0 σ0) (L : RelL Kp ρ0 h0 σ0 ρ h σ) (R : Rel V ρ h σ ρ' h' τ) (hobj : ∀ i, Kp i = true → i < h.length) : RelL Kp ρ0 h0 σ0 ρ' h' τ := by
  refine ⟨fun i hi => (R.ext i (hobj i hi)).trans (L.ext i hi), L.but.ext2 (fun b hb => ?_) R.but, fun b hb => ?_⟩
  · obtain ⟨i, x, _, h2⟩ := hb
    rcases L.born b ⟨i, x, h2⟩ with ⟨j, y, h3⟩ | h3
    · exact .inl ⟨j, y, trivial, h3⟩
    · exact .inr h3.1
  · rcases R.born b hb with h1 | ⟨h1, h2⟩
    · exact L.born b h1
    · exact .inr ⟨L.but.noneOfB (fun b ⟨i, x, _, h4⟩ => H0.used ⟨i, x, h4⟩) h2 h1, fun hu => h2 (L.but.used _ hu)⟩
theorem Hp.ext (H : Hp C ρ h σ) (hρ : ∀ i, i < h.length → ρ' i = ρ i) : Hp C ρ' h σ := by
  refine ⟨fun i x hx => ?_, fun i j x y b hx hy ax ay bx by_ => ?_⟩
  · have hi := lt_of_get hx
    have := H.it i x hx
    cases x with
    | obj t cs =>
      obtain ⟨b, acs, g1, g2, g3, g4⟩ := this
      exact ⟨b, acs, (hρ i hi).trans g1, g2, g3, g4.ext (Nat.le_refl _) hρ⟩
    | mmap K V es =>
      obtain ⟨b, g1, g2, g3⟩ := this
      exact ⟨b, (hρ i hi).trans g1, g2, g3⟩
    | row e sz =>
      obtain ⟨n, cs, ho⟩ := this
      exact ⟨n, cs, by rw [hρ i hi]; exact ho⟩
    | gen E x =>
      show C.gsh E x σ (ρ' i)
      rw [hρ i hi]; exact this
    | arr e E kp xs =>
      rcases this with ⟨b, K', pre, rest, g1, g2, g3, g4⟩ | ⟨g1, g2⟩
      · exact .inl ⟨b, K', pre, rest, (hρ i hi).trans g1, g2, g3, g4⟩
      · exact .inr ⟨(hρ i hi).trans g1, g2⟩
    | dead => trivial
  · rw [hρ i (lt_of_get hx)] at bx
    rw [hρ j (lt_of_get hy)] at by_
    exact H.dist i j x y b hx hy ax ay bx by_
/-- What is seen at a way out. -/
def Seen (C : Codec T) (Kp : Nat → Bool) (env : XE T) (h : List (HI T)) (h0 : List (HI T)) (slots : List Nat) (vs : List (XV T)) (ht : List (HI T)) : Prop :=
  ∀ ρ0 σ0 ρ e σ, Sat C ρ env h e σ → RelL Kp ρ0 h0 σ0 ρ h σ → ∃ ρ', SVs C ht.length ρ' vs (slots.map e) ∧ Hp C ρ' ht σ ∧ Rel (fun _ => True) ρ0 h0 σ0 ρ' ht σ
theorem out1_sound {hs : List Hs} (dh0 : HsD T hs) {o : Ou} {k : Ou.D T o → Option A} (hk : (rdVs C o.vs (o.slots.map (xget env)) (idPi 0 hs) fun d π => rdFin C o.hs h π fun dh π => cond (outOkL hs o.hs.length π) (k (d, dh)) none) = some z) :
    ∃ d, k d = some z ∧ Seen C (isObjT hs) env h (stHs C hs dh0) o.slots (stVs C o.vs d.1) (stHs C o.hs d.2) := by
  obtain ⟨d, π1, h1, h2, h3, h4⟩ := vs_rds hk
  obtain ⟨dh, π2, g1, g2, g3, g4, g5⟩ := fin_sound h1
  cases ho : outOkL hs o.hs.length π2
  · rw [ho] at g1; cases g1
  rw [ho] at g1
  refine ⟨(d, dh), g1, fun ρ0 σ0 ρ e σ hs1 R => ?_⟩
  unfold outOkL at ho
  simp only [Bool.and_eq_true] at ho
  obtain ⟨ho1, ho2⟩ := ho
  have hnm : hs.length ≤ o.hs.length := Nat.le_of_ble_eq_true ho1
  have hbd : ∀ i x, i < hs.length → plook π2 i = some x → x = some i ∧ isObjT hs i = true := fun i x hi hx => by
    have := List.all_eq_true.1 ho2 _ (plook_mem hx)
    simp only [Bool.or_eq_true, Bool.and_eq_true] at this
    rcases this with h1 | h1
    · have := Nat.le_of_ble_eq_true h1; omega
    · exact ⟨oeq_eq h1.1, h1.2⟩
  generalize hρ1 : (fun k => if k < h.length then ρ k else ρ0 (k - h.length)) = ρ1
  have r1 : ∀ k, k < h.length → ρ1 k = ρ k := fun k hk => by subst hρ1; exact if_pos hk
  have r2 : ∀ k, ρ1 (h.length + k) = ρ0 k := fun k => by subst hρ1; show (if h.length + k < h.length then _ else ρ0 (h.length + k - h.length)) = _; rw [if_neg (by omega)]; congr 1; omega
  generalize hπ : π2 ++ (List.range hs.length).map (fun i => (i, some (h.length + i))) = π3
  have hlk : ∀ i, plook π3 i = match plook π2 i with | some x => some x | none => plook ((List.range hs.length).map (fun i => (i, some (h.length + i)))) i := fun i => by subst hπ; exact plook_app
  have hsh : ∀ (l : List Nat) i x, plook (l.map (fun i => (i, some (h.length + i)))) i = some x → i ∈ l ∧ x = some (h.length + i) := by
    intro l
    induction l with
    | nil => intro i x hx; simp [plook] at hx
    | cons j l ih =>
      intro i x hx
      rw [List.map_cons, plook_cons] at hx
      split at hx
      · rename_i e; subst e; injection hx with hx; exact ⟨List.mem_cons_self, hx.symm⟩
      · obtain ⟨a, b⟩ := ih i x hx; exact ⟨List.mem_cons_of_mem _ a, b⟩
  have hsh2 : ∀ (l : List Nat) i, i ∈ l → plook (l.map (fun i => (i, some (h.length + i)))) i = some (some (h.length + i)) := by
    intro l
    induction l with
    | nil => intro i hi; cases hi
    | cons j l ih =>
      intro i hi
      rw [List.map_cons, plook_cons]
      split
      · rename_i e; rw [e]
      · rename_i e
        rcases List.mem_cons.1 hi with rfl | hi
        · exact absurd rfl e
        · exact ih i hi
  have hle : PLe π2 π3 := fun i x hx => by rw [hlk, hx]
  have hM : ∀ i x, plook π3 i = some x → i < o.hs.length := fun i x hx => by
    rw [hlk] at hx
    cases hl : plook π2 i with
    | some y => exact (pok_spec g4 hl).1
    | none =>
      rw [hl] at hx
      have := List.mem_range.1 (hsh _ _ _ hx).1
      omega
  have hsat : ∀ i, SV C h.length ρ1 (xget env i) (e i) := fun i => (hs1.env i).ext (Nat.le_refl _) r1
  obtain ⟨q1, q2⟩ := g5 π3 ρ1 σ (g3 (h3 (idPi_Inj hs))) hle hM (hs1.hp.ext r1)
  have q3 := h4 h.length o.hs.length π3 ρ1 _ (g2.trans hle) hM (envs_sv hsat o.slots)
  refine ⟨pasg π3 ρ1, by rw [stHs_len]; exact q3, q1, ⟨by rw [stHs_len, stHs_len]; exact hnm, fun i hi => ?_, R.but, fun b hb => ?_⟩⟩
  · rw [stHs_len] at hi
    unfold pasg
    rw [hlk]
    cases hl : plook π2 i with
    | some x =>
      obtain ⟨rfl, hob⟩ := hbd i x hi hl
      have hj := (pok_spec g4 hl).2 i rfl
      show ρ1 i = ρ0 i
      rw [r1 i hj]
      exact R.ext i hob
    | none =>
      dsimp only
      rw [hsh2 _ _ (List.mem_range.2 hi)]
      exact r2 i
  · obtain ⟨i, x, e1, e2, e3⟩ := hb
    obtain ⟨j, y, w1, w2, w3, w4⟩ := q2 i x b e1 e2 e3
    rw [r1 j (lt_of_get w2)] at w4
    exact R.born b ⟨j, y, w2, w3, w4⟩
theorem os_sound {hs : List Hs} (dh0 : HsD T hs) : ∀ {os : List Ou} {ex : Exit} {k : OsD T os → Option A}, rdOs C hs (idPi 0 hs) ex env h os k = some z → ∃ d, k d = some z ∧
    ∃ slots vs ht, (∀ (B : Type) (k' : Exit → List Nat → List (XV T) → List (HI T) → Option B), stOs C os d k' = k' ex slots vs ht) ∧ Seen C (isObjT hs) env h (stHs C hs dh0) slots vs ht
  | [], ex, k, hk => by cases hk
  | [o], ex, k, hk => by
    unfold rdOs at hk
    cases hx : exEq ex o.ex
    · rw [hx] at hk; cases hk
    rw [hx] at hk
    simp only [cond_true] at hk
    obtain ⟨d, h1, h2⟩ := out1_sound dh0 hk
    exact ⟨d, h1, _, _, _, fun B k' => by rw [exEq_eq hx]; rfl, h2⟩
  | o :: o' :: l, ex, k, hk => by
    unfold rdOs at hk
    cases hx : exEq ex o.ex
    · rw [hx] at hk
      simp only [cond_false] at hk
      obtain ⟨d, h1, slots, vs, ht, h2, h3⟩ := os_sound dh0 hk
      exact ⟨.inr d, h1, slots, vs, ht, fun B k' => h2 B k', h3⟩
    · rw [hx] at hk
      simp only [cond_true] at hk
      obtain ⟨d, h1, h2⟩ := out1_sound (k := fun d => k (.inl d)) dh0 hk
      exact ⟨.inl d, h1, _, _, _, fun B k' => by rw [exEq_eq hx]; rfl, h2⟩
theorem stOs_const : ∀ (os : List Ou) (d : OsD T os), ∃ ex slots vs ht, ∀ (B : Type) (k' : Exit → List Nat → List (XV T) → List (HI T) → Option B), stOs C os d k' = k' ex slots vs ht
  | [], d => d.elim
  | [o], d => ⟨_, _, _, _, fun B k' => rfl⟩
  | o :: o' :: l, .inl d => ⟨_, _, _, _, fun B k' => rfl⟩
  | o :: o' :: l, .inr d => (stOs_const (o' :: l) d)
/-- A loop's entry is right, if each round is as told. -/
theorem le_ok {E : LE C P} {c : Code} {tou : Tou T} {orc : Orc T ((VsD T E.vs × HsD T E.hs) ⊕ OsD T E.os)} {dr : Nat → Nat → DrA} {lps : Lps T ((VsD T E.vs × HsD T E.hs) ⊕ OsD T E.os)} (hO : orc.Ok C P tou) (hL : ∀ l ∈ loopsOf c, lps.Ok C P l)
    (hstep : ∀ a, xcode C P tou orc dr lps c (zenv E.slots (stVs C E.vs a.1)) (stHs C E.hs a.2) (rdLp C E.slots E.vs E.hs E.os) = E.step a) (env : XE T) (h : List (HI T)) (k : XK T A) (z : A) (hk : runLE E env h k = some z) :
    ∃ ex env' h', k ex env' h' = some z ∧ CodeTr C P (.loop c) env h ex env' h' := by
  unfold runLE at hk
  rw [all_nat] at hk
  obtain ⟨⟨d, dh, π⟩, h1, h2⟩ := bind_some' hk
  dsimp only at h2
  obtain ⟨b, h3, h4⟩ := bind_some' h2
  obtain ⟨d', dh', π', e1, hp, hS⟩ := all_sound h1
  injection e1 with e1
  injection e1 with e1 e2
  injection e2 with e2 e3
  subst e1 e2 e3
  obtain ⟨n0, hn0⟩ := loopM_iter h3
  obtain ⟨ex, slots, vs, ht, hb⟩ := stOs_const (C := C) E.os b
  rw [hb, forceL_eq, hforce_eq] at h4
  refine ⟨ex, _, _, h4, fun O ρ e σ hs => ?_⟩
  obtain ⟨s1, s2, s3⟩ := hS ρ σ _ (envs_sv hs.env E.slots) hs.hp
  have hlen : (stHs C E.hs dh').length = E.hs.length := stHs_len _ _
  -- the loop, over the shape
  have hloop : aCode P O (.loop c) (fun ex' e' σ' => ex' = ex ∧ ∃ ρ', SVs C ht.length ρ' vs (slots.map e') ∧ Hp C ρ' ht σ' ∧ Rel (fun _ => True) (pasg π' ρ) (stHs C E.hs dh') σ ρ' ht σ') e σ := by
    refine ⟨fun n e1 σ1 => ∃ (a : VsD T E.vs × HsD T E.hs) (ρ1 : Nat → AV), iterM E.step n a = some b ∧ Sat C ρ1 (zenv E.slots (stVs C E.vs a.1)) (stHs C E.hs a.2) e1 σ1 ∧ RelL (isObjT E.hs) (pasg π' ρ) (stHs C E.hs dh') σ ρ1 (stHs C E.hs a.2) σ1, n0, ⟨(d', dh'), pasg π' ρ, hn0, ⟨zenv_sat _ _ (by rw [hlen]; exact s1), s2⟩, ⟨fun _ _ => rfl, .refl _ _, fun _ hb => .inl hb⟩⟩, ?_⟩
    rintro n e1 σ1 ⟨a, ρ1, hn, hs1, hR⟩
    cases n with
    | zero => cases hn
    | succ n =>
      have hobj : ∀ i, isObjT E.hs i = true → i < (stHs C E.hs a.2).length := fun i hi => by
        have := isObjT_lt hi
        rw [stHs_len]
        exact this
      have hst := hstep a
      unfold iterM at hn
      split at hn
      · cases hn
      · -- another round
        rename_i a' ha'
        rw [ha'] at hst
        obtain ⟨ex1, env1, h1', k1, t1⟩ := xcode_sound hO c _ _ _ hL hst
        refine aCode_mono ?_ (t1 O ρ1 e1 σ1 hs1)
        rintro ex' e2 σ2 ⟨rfl, ρ2, hs2, hR2⟩
        have hR3 := hR.step s2 hR2 hobj
        unfold rdLp at k1
        cases hx : exEq ex' .normal
        · rw [hx] at k1
          simp only [cond_false] at k1
          obtain ⟨q, q1, _⟩ := os_sound dh' k1
          injection q1 with q1; cases q1
        · rw [hx] at k1
          have := exEq_eq hx
          subst this
          simp only [cond_true] at k1
          obtain ⟨d2, π1, g1, g2, g3, g4⟩ := vs_rds k1
          obtain ⟨dh2, π2, w1, w2, w3, w4, w5⟩ := fin_sound g1
          injection w1 with w1
          injection w1 with w1
          subst w1
          have hI2 := w3 (g3 (idPi_Inj E.hs))
          have hM2 : ∀ i x, plook π2 i = some x → i < E.hs.length := fun i x hx => (pok_spec w4 hx).1
          obtain ⟨u1, u2⟩ := w5 π2 ρ2 σ2 hI2 (.refl _) hM2 hs2.hp
          have u3 := g4 h1'.length E.hs.length π2 ρ2 _ w2 hM2 (envs_sv hs2.env E.slots)
          refine ⟨n, Nat.lt_succ_self n, (d2, dh2), pasg π2 ρ2, hn, ⟨zenv_sat _ _ (by rw [stHs_len]; exact u3), u1⟩, ⟨fun i hi => ?_, hR3.but, fun b' hb' => ?_⟩⟩
          · have hl := stHs_isObj E.hs i 0 hi
            rw [Nat.zero_add] at hl
            have hl2 := w2 _ _ (g2 _ _ hl)
            have : pasg π2 ρ2 i = ρ2 i := by unfold pasg; rw [hl2]
            rw [this]
            exact hR3.ext i hi
          · obtain ⟨i, x, e1', e2', e3'⟩ := hb'
            obtain ⟨j, y, v1, v2, v3, v4⟩ := u2 i x b' e1' e2' e3'
            exact hR3.born b' ⟨j, y, v2, v3, v4⟩
      · -- out
        rename_i b' hb'
        injection hn with hn
        subst hn
        rw [hb'] at hst
        obtain ⟨ex1, env1, h1', k1, t1⟩ := xcode_sound hO c _ _ _ hL hst
        refine aCode_mono ?_ (t1 O ρ1 e1 σ1 hs1)
        rintro ex' e2 σ2 ⟨rfl, ρ2, hs2, hR2⟩
        have hR3 := hR.step s2 hR2 hobj
        unfold rdLp at k1
        cases hx : exEq ex' .normal
        · rw [hx] at k1
          simp only [cond_false] at k1
          obtain ⟨q, q1, slots2, vs2, ht2, q2, q3⟩ := os_sound dh' k1
          injection q1 with q1
          injection q1 with q1
          subst q1
          have e4 := (q2 _ (fun a b c d => some (a, b, c, d))).symm.trans (hb _ (fun a b c d => some (a, b, c, d)))
          injection e4 with e4
          injection e4 with e4 e5
          injection e5 with e5 e6
          injection e6 with e6 e7
          subst e4 e5 e6 e7
          have := q3 (pasg π' ρ) σ ρ2 e2 σ2 hs2 hR3
          cases ex' with
          | normal => cases hx
          | _ => exact ⟨rfl, this⟩
        · rw [hx] at k1
          simp only [cond_true] at k1
          obtain ⟨d2, π1, g1, g2, g3, g4⟩ := vs_rds k1
          obtain ⟨dh2, π2, w1, _⟩ := fin_sound g1
          injection w1 with w1; cases w1
  refine aCode_mono ?_ hloop
  rintro ex' e' σ' ⟨rfl, ρ1, g1, g2, g3⟩
  obtain ⟨ρ', q1, q2, q3⟩ := lift hlen hp hs.hp g2 g3 s3
  exact ⟨rfl, ρ', ⟨zenv_sat _ _ (ren2s_sv q1 g1), q2⟩, q3.mono fun _ _ => trivial⟩
end
end Go.Proofs.YtmffcfjdacoigaaGreat
