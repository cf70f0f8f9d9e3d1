/- Regions that draw their order: one order serves for all. -/
import Derived.Test.YtnmimignbgdfgaaAv7
import Derived.Orders
import Derived.Deep.LoopGhost
namespace Go.Proofs.Ytnmimignbgdfgaa
open Go.RowKit
set_option maxRecDepth 100000
set_option linter.unusedVariables false

def Keeps (Pres : Nat → Prop) (σ σ' : St) : Prop := ∀ b t cs, Pres b → σ.blk b = some (.own t cs) → σ'.blk b = some (.own t cs)
def aOpD (P : Program) (ops : Array Oper) (Pres : Nat → Prop) (lf cf : Bool) (o : Oper) (env : Env) (σ : St) (K : AV → St → Prop) : Prop :=
  if Region.wanted o (yieldedA ops env) then
    ((lf && kindOf o == .load) = true → ∀ b o', o.op.operands.toList.map (ev env) = [ptr b o'] → Pres b) ∧
    aVal P o (o.op.operands.toList.map (ev env)) σ (fun r σ' => ((cf && effects o) = true → Keeps Pres σ σ') ∧ K r σ')
  else K (.raw undef) σ
def aRunD (P : Program) (ops : Array Oper) (Pres : Nat → Prop) (lf cf : Nat → Bool) : List Nat → Env → St → (Env → St → Prop) → Prop
  | [], env, σ, K => K env σ
  | i :: rest, env, σ, K => match ops[i]? with
    | none => aRunD P ops Pres lf cf rest env σ K
    | some o => aOpD P ops Pres (lf i) (cf i) o env σ fun r σ' => aRunD P ops Pres lf cf rest (env.put o.dst r) σ' K

section
variable {P : Program} {ops : Array Oper} {Pres : Nat → Prop} {o p q : Oper} {env : Env} {σ : St} {lf cf lf' cf' : Bool}
theorem CallsA.mono {f : FuncId} {args : List AV} {K K' : AV → St → Prop} (h : CallsA P f args σ K) (hk : ∀ r σ', K r σ' → K' r σ') : CallsA P f args σ K' :=
  ⟨h.1, fun w Z hH hV => (h.2 w Z hH hV).mono fun e w' ⟨r, σ', h1, h2, h3⟩ => ⟨r, σ', h1, hk _ _ h2, h3⟩⟩
theorem ExecA.mono {vs : List AV} {K K' : AV → St → Prop} (h : ExecA P o vs σ K) (hk : ∀ r σ', K r σ' → K' r σ') : ExecA P o vs σ K' := fun ρ hρ w Z hH hV => by
  obtain ⟨r, σ', w', h1, h2, h3⟩ := h ρ hρ w Z hH hV
  exact ⟨r, σ', w', h1, hk _ _ h2, h3⟩
theorem aVal_mono {vs : List AV} {K K' : AV → St → Prop} (hk : ∀ r σ', K r σ' → K' r σ') (h : aVal P o vs σ K) : aVal P o vs σ K' := by
  unfold aVal at h ⊢
  split at h
  · exact hk _ _ h
  · exact hk _ _ h
  · obtain ⟨t, h1, h2⟩ := h; exact ⟨t, h1, hk _ _ h2⟩
  · obtain ⟨z, h1, h2⟩ := h; exact ⟨z, h1, fun b h3 h4 => hk _ _ (h2 b h3 h4)⟩
  · exact fun b h3 h4 => hk _ _ (h b h3 h4)
  · obtain ⟨z, pl, cells, h1, h2, h3, h4⟩ := h; exact ⟨z, pl, cells, h1, h2, h3, hk _ _ h4⟩
  · obtain ⟨e, sz, z, cells, h1, h2, h3, h4, h5, h6, h7⟩ := h; exact ⟨e, sz, z, cells, h1, h2, h3, h4, h5, h6, fun b g1 g2 => hk _ _ (h7 b g1 g2)⟩
  · obtain ⟨r, h1, h2⟩ := h; exact ⟨r, h1, hk _ _ h2⟩
  · obtain ⟨σ', h1, h2⟩ := h; exact ⟨σ', h1, hk _ _ h2⟩
  · exact ⟨h.1, hk _ _ h.2⟩
  · obtain ⟨r, h1, h2⟩ := h; exact ⟨r, h1, hk _ _ h2⟩
  · obtain ⟨l, off, n, g, h1, h2, h3⟩ := h; exact ⟨l, off, n, g, h1, h2, hk _ _ h3⟩
  · obtain ⟨l, off, n, g, h1, h2, h3⟩ := h; exact ⟨l, off, n, g, h1, h2, hk _ _ h3⟩
  · obtain ⟨l, off, n, g, r, h1, h2, h3, h4⟩ := h; exact ⟨l, off, n, g, r, h1, h2, h3, hk _ _ h4⟩
  · obtain ⟨e, sz, k, j, h1, h2, h3, h4, h5⟩ := h; exact ⟨e, sz, k, j, h1, h2, h3, h4, hk _ _ h5⟩
  · split at h
    · obtain ⟨e, sz, h1, h2, l, h', m, h3, h4, h5, h6, h7⟩ := h; exact ⟨e, sz, h1, h2, l, h', m, h3, h4, h5, h6, hk _ _ h7⟩
    · obtain ⟨v, h1, h2⟩ := h; exact ⟨v, h1, hk _ _ h2⟩
  · split at h
    · obtain ⟨g, first, cap, h1, h2⟩ := h; exact ⟨g, first, cap, h1, h2.mono hk⟩
    · exact h.imp (fun ⟨v, h1, h2⟩ => ⟨v, h1, hk _ _ h2⟩) (fun ⟨h1, h2⟩ => ⟨h1, h2.mono hk⟩)
  · exact h.imp (fun ⟨v, h1, h2⟩ => ⟨v, h1, hk _ _ h2⟩) (fun ⟨h1, h2⟩ => ⟨h1, h2.mono hk⟩)
theorem aOpD_mono {K K' : AV → St → Prop} (hk : ∀ r σ', K r σ' → K' r σ') (h : aOpD P ops Pres lf cf o env σ K) : aOpD P ops Pres lf cf o env σ K' := by
  unfold aOpD at h ⊢
  split
  · rename_i hw
    rw [if_pos hw] at h
    exact ⟨h.1, aVal_mono (fun r σ' h' => ⟨h'.1, hk _ _ h'.2⟩) h.2⟩
  · rename_i hw
    rw [if_neg hw] at h
    exact hk _ _ h
theorem aOpD_weak {K : AV → St → Prop} (h : aOpD P ops Pres lf cf o env σ K) : aOp P ops o env σ (fun env' σ' => ∃ r, env' = env.put o.dst r ∧ K r σ') := by
  unfold aOpD at h
  unfold aOp
  split
  · rename_i hw
    rw [if_pos hw] at h
    exact aVal_mono (fun r σ' h' => ⟨r, rfl, h'.2⟩) h.2
  · rename_i hw
    rw [if_neg hw] at h
    exact ⟨_, rfl, h⟩
/-- The four forms. -/
def PureF (M : St → (AV → St → Prop) → Prop) : Prop := ∃ F : AV → Prop, ∀ σ K, M σ K ↔ ∃ r, F r ∧ K r σ
def LoadF (Pres : Nat → Prop) (fl : Bool) (M : St → (AV → St → Prop) → Prop) : Prop := ∃ F : St → AV → Prop, (∀ σ K, M σ K ↔ ∃ r, F σ r ∧ K r σ) ∧
  (∀ σ b k r, F σ r → σ.blk b = none → F (σ.put b k) r) ∧ (fl = true → ∀ σ σ' r, F σ r → Keeps Pres σ σ' → F σ' r)
def NoF (M : St → (AV → St → Prop) → Prop) : Prop := ∀ σ K, M σ K ↔ K (.raw undef) σ
def AllocF (M : St → (AV → St → Prop) → Prop) : Prop := ∃ (C : Prop) (mk : Nat → AV) (k : Bk), ∀ σ K, M σ K ↔ C ∧ ∀ b, ¬ σ.used b → σ.blk b = none → K (mk b) (σ.put b k)
/-- What a fresh block of ours does not disturb. -/
def Framed (M0 : St → (AV → St → Prop) → Prop) : Prop := ∀ σ b t cs K, ¬ σ.used b → σ.blk b = none → M0 σ K → M0 (σ.put b (.own t cs)) fun r τ => ∃ σ', ¬ σ'.used b ∧ σ'.blk b = none ∧ τ = σ'.put b (.own t cs) ∧ K r σ'
def EffF (Pres : Nat → Prop) (fl : Bool) (M : St → (AV → St → Prop) → Prop) : Prop := ∃ M0 : St → (AV → St → Prop) → Prop, (∀ σ K K', (∀ r σ', K r σ' → K' r σ') → M0 σ K → M0 σ K') ∧ ∀ σ K, M σ K ↔ M0 σ (fun r σ' => (fl = true → Keeps Pres σ σ') ∧ K r σ')
def FrF (Pres : Nat → Prop) (fl : Bool) (M : St → (AV → St → Prop) → Prop) : Prop := ∃ M0 : St → (AV → St → Prop) → Prop, Framed M0 ∧ (∀ σ K K', (∀ r σ', K r σ' → K' r σ') → M0 σ K → M0 σ K') ∧ ∀ σ K, M σ K ↔ M0 σ (fun r σ' => (fl = true → Keeps Pres σ σ') ∧ K r σ')
theorem noF (hw : ¬ Region.wanted o (yieldedA ops env) = true) : NoF (aOpD P ops Pres lf cf o env) := fun σ K => by unfold aOpD; rw [if_neg hw]
theorem pureF_of_val (hk : kindOf o = .pure) (vs : List AV) : ∃ F : AV → Prop, ∀ σ K, aVal P o vs σ K ↔ ∃ r, F r ∧ K r σ := by
  have hne : ¬ kindOf o = .exec := by rw [hk]; simp
  unfold kindOf at hk
  unfold aVal
  split
  · rename_i x _
    exact ⟨fun r => r = x, fun σ K => by simp⟩
  · rename_i x _
    exact ⟨fun r => r = x, fun σ K => by simp⟩
  · rename_i c a b _
    refine ⟨fun r => ∃ t, c.val = .bool t ∧ r = if t then a else b, fun σ K => ⟨fun ⟨t, h1, h2⟩ => ⟨_, ⟨t, h1, rfl⟩, h2⟩, fun ⟨r, ⟨t, h1, h2⟩, h3⟩ => ⟨t, h1, h2 ▸ h3⟩⟩⟩
  · rename_i ho; rw [ho] at hk; cases hk
  · rename_i ho; rw [ho] at hk; cases hk
  · rename_i vs _ _ t parts _
    refine ⟨fun r => ∃ z pl cells, zeroA P t = some z ∧ placesB P t = some pl ∧ aFill (fun i => pl[i]?) (AV.ofV z).cells ((parts.toList.map (·.1)).zip vs) = some cells ∧ r = .agg cells, fun σ K => ⟨fun ⟨z, pl, cells, h1, h2, h3, h4⟩ => ⟨_, ⟨z, pl, cells, h1, h2, h3, rfl⟩, h4⟩, fun ⟨r, ⟨z, pl, cells, h1, h2, h3, h5⟩, h4⟩ => ⟨z, pl, cells, h1, h2, h3, h5 ▸ h4⟩⟩⟩
  · rename_i ho; rw [ho] at hk; cases hk
  · rename_i ho; rw [ho] at hk; cases hk
  · rename_i ho; rw [ho] at hk; cases hk
  · rename_i x _
    exact ⟨fun r => isSome' x = true ∧ r = x, fun σ K => ⟨fun ⟨h1, h2⟩ => ⟨_, ⟨h1, rfl⟩, h2⟩, fun ⟨r, ⟨h1, h2⟩, h3⟩ => ⟨h1, h2 ▸ h3⟩⟩⟩
  · exact ⟨_, fun σ K => Iff.rfl⟩
  · rename_i t _ f ad cells _
    exact ⟨fun r => ∃ l off n g, structA P t = some l ∧ l[f]? = some (off, some (n + 1), g) ∧ r = (.eptr (ad.add off) (cells.drop off)), fun σ K => ⟨fun ⟨l, off, n, g, h1, h2, h3⟩ => ⟨_, ⟨l, off, n, g, h1, h2, rfl⟩, h3⟩, fun ⟨r, ⟨l, off, n, g, h1, h2, h4⟩, h3⟩ => ⟨l, off, n, g, h1, h2, h4 ▸ h3⟩⟩⟩
  · rename_i t _ f ad _
    exact ⟨fun r => ∃ l off n g, structA P t = some l ∧ l[f]? = some (off, some (n + 1), g) ∧ r = (.raw (.pointer (some (ad.add off)))), fun σ K => ⟨fun ⟨l, off, n, g, h1, h2, h3⟩ => ⟨_, ⟨l, off, n, g, h1, h2, rfl⟩, h3⟩, fun ⟨r, ⟨l, off, n, g, h1, h2, h4⟩, h3⟩ => ⟨l, off, n, g, h1, h2, h4 ▸ h3⟩⟩⟩
  · rename_i t _ f cells _
    exact ⟨fun r => ∃ l off n g, structA P t = some l ∧ l[f]? = some (off, n, g) ∧ cellsAt g n cells off = some r, fun σ K => ⟨fun ⟨l, off, n, g, r, h1, h2, h3, h4⟩ => ⟨r, ⟨l, off, n, g, h1, h2, h3⟩, h4⟩, fun ⟨r, ⟨l, off, n, g, h1, h2, h3⟩, h4⟩ => ⟨l, off, n, g, r, h1, h2, h3, h4⟩⟩⟩
  · rename_i t _ _ ad n c cells i _
    exact ⟨fun r => ∃ (e : TypeId) (sz : Nat) (k : IntKind) (j : Nat), sliceA P t = some e ∧ sizeA P e = some sz ∧ i.val = .int k j ∧ j < n ∧ r = (.eptr (ad.add (j * sz)) (cells.drop (j * sz))), fun σ K => ⟨fun ⟨e, sz, k, j, h1, h2, h3, h4, h5⟩ => ⟨_, ⟨e, sz, k, j, h1, h2, h3, h4, rfl⟩, h5⟩, fun ⟨r, ⟨e, sz, k, j, h1, h2, h3, h4, h6⟩, h5⟩ => ⟨e, sz, k, j, h1, h2, h3, h4, h6 ▸ h5⟩⟩⟩
  · rename_i t _ lo hi mx x ix _
    split
    · rename_i A n c cells
      exact ⟨fun r => ∃ e sz, sliceA P t = some e ∧ sizeA P e = some sz ∧ ∃ l h m, sliceEnds n c lo.isSome hi.isSome mx.isSome ix l h m ∧ l ≤ h ∧ h ≤ m ∧ m ≤ c ∧ r = (.lst (if m = l then A else A.map (·.add (l * sz))) (h - l) (m - l) (if m = l then [] else cells.drop (l * sz))),
        fun σ K => ⟨fun ⟨e, sz, h1, h2, l, h, m, h3, h4, h5, h6, h7⟩ => ⟨_, ⟨e, sz, h1, h2, l, h, m, h3, h4, h5, h6, rfl⟩, h7⟩, fun ⟨r, ⟨e, sz, h1, h2, l, h, m, h3, h4, h5, h6, h8⟩, h7⟩ => ⟨e, sz, h1, h2, l, h, m, h3, h4, h5, h6, h8 ▸ h7⟩⟩⟩
    · exact ⟨fun r => ∃ v, PureRun P o _ v ∧ r = .raw v, fun σ K => ⟨fun ⟨v, h1, h2⟩ => ⟨_, ⟨v, h1, rfl⟩, h2⟩, fun ⟨r, ⟨v, h1, h3⟩, h2⟩ => ⟨v, h1, h3 ▸ h2⟩⟩⟩
  · rename_i c vs ho
    rw [ho] at hk
    dsimp only at hk
    split
    · rename_i hc
      rw [hc] at hk
      cases hk
    · exact ⟨fun r => ∃ v, PureRun P o _ v ∧ r = .raw v, fun σ K => ⟨fun h => h.elim (fun ⟨v, h1, h2⟩ => ⟨_, ⟨v, h1, rfl⟩, h2⟩) (fun h => absurd h.1 hne), fun ⟨r, ⟨v, h1, h3⟩, h2⟩ => .inl ⟨v, h1, h3 ▸ h2⟩⟩⟩
  · exact ⟨fun r => ∃ v, PureRun P o _ v ∧ r = .raw v, fun σ K => ⟨fun h => h.elim (fun ⟨v, h1, h2⟩ => ⟨_, ⟨v, h1, rfl⟩, h2⟩) (fun h => absurd h.1 hne), fun ⟨r, ⟨v, h1, h3⟩, h2⟩ => .inl ⟨v, h1, h3 ▸ h2⟩⟩⟩
theorem pureF (hk : kindOf o = .pure) (hw : Region.wanted o (yieldedA ops env) = true) : PureF (aOpD P ops Pres lf cf o env) := by
  obtain ⟨F, hF⟩ := pureF_of_val (P := P) hk (o.op.operands.toList.map (ev env))
  refine ⟨F, fun σ K => ?_⟩
  unfold aOpD
  rw [if_pos hw, hF]
  simp [hk, effects]
theorem aLoad_put {t : TypeId} {a r : AV} {b : Nat} {k : Bk} (h : aLoad P t σ a = some r) (hb : σ.blk b = none) : aLoad P t (σ.put b k) a = some r := by
  unfold aLoad at h ⊢
  split at h
  · rename_i b' o'
    have hne : b' ≠ b := by
      rintro rfl
      rw [hb] at h
      cases h
    have : (σ.put b k).blk b' = σ.blk b' := by
      show (if b' = b then _ else σ.blk b') = _
      rw [if_neg hne]
    rw [this]
    exact h
  · exact h
  · cases h
theorem aLoad_keeps {t : TypeId} {a r : AV} {σ' : St} (h : aLoad P t σ a = some r) (hp : ∀ b o', a = ptr b o' → Pres b) (hk : Keeps Pres σ σ') : aLoad P t σ' a = some r := by
  unfold aLoad at h ⊢
  split at h
  · rename_i b' o'
    split at h
    · rename_i e cs hb
      rw [hk b' e cs (hp b' o' rfl) hb]
      exact h
    · cases h
  · exact h
  · cases h
theorem loadF (hk : kindOf o = .load) (hw : Region.wanted o (yieldedA ops env) = true) : LoadF Pres lf (aOpD P ops Pres lf cf o env) := by
  obtain ⟨t, x, ho⟩ : ∃ t x, o.op = .load t x := by
    unfold kindOf at hk
    split at hk <;> first | (cases hk; done) | skip
    · exact ⟨_, _, ‹_›⟩
    · split at hk <;> cases hk
  have hvs : o.op.operands.toList.map (ev env) = [ev env x] := by rw [ho]; simp [Op.operands]
  have hM : ∀ σ K, aOpD P ops Pres lf cf o env σ K ↔ ∃ r, ((lf = true → ∀ b o', ev env x = ptr b o' → Pres b) ∧ aLoad P t σ (ev env x) = some r) ∧ K r σ := by
    intro σ K
    unfold aOpD
    rw [if_pos hw, hvs]
    unfold aVal
    rw [ho]
    dsimp only
    simp only [hk, effects]
    constructor
    · rintro ⟨h1, r, h2, h3⟩
      exact ⟨r, ⟨fun hl b o' e => h1 (by simp [hl]) b o' (by rw [e]), h2⟩, h3.2⟩
    · rintro ⟨r, ⟨h1, h2⟩, h3⟩
      exact ⟨fun hl b o' e => h1 (by simpa using hl) b o' (by simpa using e), r, h2, by simp, h3⟩
  refine ⟨_, hM, fun σ b k r h hb => ⟨h.1, aLoad_put h.2 hb⟩, fun hl σ σ' r h hkp => ⟨h.1, aLoad_keeps h.2 (h.1 hl) hkp⟩⟩
theorem allocF (hk : kindOf o = .alloc ∨ kindOf o = .row) (hw : Region.wanted o (yieldedA ops env) = true) : AllocF (aOpD P ops Pres lf cf o env) := by
  have hnl : (lf && kindOf o == .load) = false := by rcases hk with hk | hk <;> simp [hk]
  have hnc : (cf && effects o) = false := by rcases hk with hk | hk <;> simp [hk, effects]
  have hM : ∀ σ K, aOpD P ops Pres lf cf o env σ K ↔ aVal P o (o.op.operands.toList.map (ev env)) σ K := by
    intro σ K
    unfold aOpD
    rw [if_pos hw, hnl, hnc]
    simp
  have h3 : (∃ e, o.op = .alloc e) ∨ (∃ e x, o.op = .box e x) ∨ ∃ t n parts, o.op = .buildSlice t n parts := by
    unfold kindOf at hk
    split at hk <;> first | (rcases hk with hk | hk <;> cases hk; done) | skip
    · exact .inl ⟨_, ‹_›⟩
    · exact .inr (.inl ⟨_, _, ‹_›⟩)
    · exact .inr (.inr ⟨_, _, _, ‹_›⟩)
    · split at hk <;> (rcases hk with hk | hk <;> cases hk)
  rcases h3 with ⟨e, ho⟩ | ⟨e, x, ho⟩ | ⟨t, n, parts, ho⟩
  · have hvs : o.op.operands.toList.map (ev env) = [] := by rw [ho]; simp [Op.operands]
    refine ⟨∃ z, zeroA P e = some z, fun b => ptr b 0, .own e (AV.ofV ((zeroA P e).getD undef)).cells, fun σ K => ?_⟩
    rw [hM, hvs]
    unfold aVal
    rw [ho]
    dsimp only
    constructor
    · rintro ⟨z, h1, h2⟩
      exact ⟨⟨z, h1⟩, by rw [h1]; exact h2⟩
    · rintro ⟨⟨z, h1⟩, h2⟩
      rw [h1] at h2
      exact ⟨z, h1, h2⟩
  · have hvs : o.op.operands.toList.map (ev env) = [ev env x] := by rw [ho]; simp [Op.operands]
    refine ⟨True, fun b => ptr b 0, .own e (ev env x).cells, fun σ K => ?_⟩
    rw [hM, hvs]
    unfold aVal
    rw [ho]
    simp
  · generalize hvs : o.op.operands.toList.map (ev env) = vs at hM
    by_cases hC : ∃ e sz z cells, sliceA P t = some e ∧ sizeA P e = some sz ∧ zeroA P e = some z ∧ z.cells.size = sz ∧ n * sz ≤ 16777216 ∧ aFill (fun i => some (i * sz, sz)) ((List.range (n * sz)).map fun i => .ofV (z.cells[i % sz]!)) ((parts.toList.map (·.1)).zip vs) = some cells
    · obtain ⟨e, sz, z, cells, h1, h2, h3, h4, h5, h6⟩ := hC
      refine ⟨True, fun b => .lst (some ⟨b, 0, none⟩) n n cells, .tail e (n * sz) (n * sz), fun σ K => ?_⟩
      rw [hM]
      unfold aVal
      rw [ho]
      dsimp only
      constructor
      · rintro ⟨e', sz', z', cells', g1, g2, g3, g4, g5, g6, g7⟩
        rw [h1] at g1; injection g1 with g1; subst g1
        rw [h2] at g2; injection g2 with g2; subst g2
        rw [h3] at g3; injection g3 with g3; subst g3
        rw [h6] at g6; injection g6 with g6; subst g6
        exact ⟨trivial, g7⟩
      · rintro ⟨_, g7⟩
        exact ⟨e, sz, z, cells, h1, h2, h3, h4, h5, h6, g7⟩
    · refine ⟨False, fun _ => .raw undef, .own 0 [], fun σ K => ?_⟩
      rw [hM]
      unfold aVal
      rw [ho]
      dsimp only
      constructor
      · rintro ⟨e', sz', z', cells', g1, g2, g3, g4, g5, g6, g7⟩
        exact absurd ⟨e', sz', z', cells', g1, g2, g3, g4, g5, g6⟩ hC
      · rintro ⟨h, _⟩
        exact h.elim
theorem put_same (σ : St) (b : Nat) (k : Bk) : (σ.put b k).blk b = some k := by show (if b = b then some k else σ.blk b) = some k; rw [if_pos rfl]
theorem put_other (σ : St) {b x : Nat} (k : Bk) (h : x ≠ b) : (σ.put b k).blk x = σ.blk x := by show (if x = b then some k else σ.blk x) = _; rw [if_neg h]
theorem free_put {σ : St} {Z : Nat → Prop} {b : Nat} {t : TypeId} {cs : List AV} (x o : Nat) : (σ.put b (.own t cs)).free Z x o ↔ σ.free (fun x => Z x ∨ x = b) x o := by
  unfold St.free
  by_cases hx : x = b
  · subst hx
    rw [put_same]
    simp
  · rw [put_other _ _ hx]
    have : (σ.put b (.own t cs)).used x ↔ σ.used x := by show (σ.used x ∨ x = b) ↔ _; simp [hx]
    simp [hx, this]
/-- A fresh block of ours may be there ahead of a step, as behind it. -/
theorem frame_pre {w : World} {Z : Nat → Prop} {b : Nat} {t : TypeId} {cs : List AV} (hu : ¬ σ.used b) (hb : σ.blk b = none) (hH : HeapOk w (σ.put b (.own t cs)) Z) :
    HeapOk w σ (fun x => Z x ∨ x = b) ∧ (∀ c, Valid w ((σ.put b (.own t cs)).free Z) c → Valid w (σ.free (fun x => Z x ∨ x = b)) c) ∧
    ∀ (K : AV → St → Prop) w' r σ', K r σ' → HeapOk w' σ' (fun x => Z x ∨ x = b) → Valid w' (σ'.free (fun x => Z x ∨ x = b)) r → Grow w σ w' σ' →
      ∃ τ, (∃ σ', ¬ σ'.used b ∧ σ'.blk b = none ∧ τ = σ'.put b (.own t cs) ∧ K r σ') ∧ HeapOk w' τ Z ∧ Valid w' (τ.free Z) r ∧ Grow w (σ.put b (.own t cs)) w' τ := by
  have sub : ∀ {τ : St} {w : World} {c : AV}, Valid w ((τ.put b (.own t cs)).free Z) c → Valid w (τ.free (fun x => Z x ∨ x = b)) c := fun hv => hv.sub fun x o hx => (free_put x o).1 hx
  have bus : ∀ {τ : St} {w : World} {c : AV}, Valid w (τ.free (fun x => Z x ∨ x = b)) c → Valid w ((τ.put b (.own t cs)).free Z) c := fun hv => hv.sub fun x o hx => (free_put x o).2 hx
  have blt : b < w.heap.size := hH.used b (.inr rfl)
  obtain ⟨_, hbh, hbv⟩ := hH.own b t cs (put_same _ _ _)
  have hne : ∀ x y, σ.blk x = some y → x ≠ b := fun x y hx e => by rw [e, hb] at hx; cases hx
  have hH0 : HeapOk w σ (fun x => Z x ∨ x = b) := by
    refine ⟨fun x hx => hH.used x (.inl hx), fun x hx => ?_, fun x t' cs' hx => ?_, fun x t' k' s' hx => ?_⟩
    · rcases hx with hx | rfl
      · obtain ⟨h1, h2⟩ := hH.z x hx
        refine ⟨h1, ?_⟩
        by_cases hxb : x = b
        · subst hxb; exact hb
        · rwa [put_other _ _ hxb] at h2
      · exact ⟨blt, hb⟩
    · have hxb := hne _ _ hx
      obtain ⟨h1, h2, h3⟩ := hH.own x t' cs' (by rw [put_other _ _ hxb]; exact hx)
      exact ⟨h1.resolve_right hxb, h2, fun c hc => sub (h3 c hc)⟩
    · have hxb := hne _ _ hx
      obtain ⟨h1, h2⟩ := hH.tail x t' k' s' (by rw [put_other _ _ hxb]; exact hx)
      exact ⟨h1.resolve_right hxb, h2⟩
  refine ⟨hH0, fun c hc => sub hc, fun K w' r σ' hK hH' hV' hG => ?_⟩
  have hnu : ¬ σ'.used b := fun hx => hu (hG.used b blt hx)
  obtain ⟨hb1, hb2⟩ := hG.rest b blt hb
  have hne' : ∀ x y, σ'.blk x = some y → x ≠ b := fun x y hx e => by rw [e, hb2] at hx; cases hx
  refine ⟨σ'.put b (.own t cs), ⟨σ', hnu, hb2, rfl, hK⟩, ?_, bus hV', ?_⟩
  · refine ⟨fun x hx => ?_, fun x hx => ?_, fun x t' cs' hx => ?_, fun x t' k' s' hx => ?_⟩
    · rcases hx with hx | rfl
      · exact hH'.used x hx
      · exact Nat.lt_of_lt_of_le blt hG.size
    · obtain ⟨h1, h2⟩ := hH'.z x (.inl hx)
      refine ⟨h1, ?_⟩
      have hxb : x ≠ b := by
        rintro rfl
        have := (hH.z x hx).2
        rw [put_same] at this
        cases this
      rw [put_other _ _ hxb]; exact h2
    · by_cases hxb : x = b
      · subst hxb
        rw [put_same] at hx
        injection hx with hx
        injection hx with e1 e2
        subst e1 e2
        exact ⟨.inr rfl, hb1.trans hbh, fun c hc => bus (hG.valid (sub (hbv c hc)))⟩
      · rw [put_other _ _ hxb] at hx
        obtain ⟨h1, h2, h3⟩ := hH'.own x t' cs' hx
        exact ⟨.inl h1, h2, fun c hc => bus (h3 c hc)⟩
    · by_cases hxb : x = b
      · subst hxb
        rw [put_same] at hx
        injection hx with hx
        cases hx
      · rw [put_other _ _ hxb] at hx
        obtain ⟨h1, h2⟩ := hH'.tail x t' k' s' hx
        exact ⟨.inl h1, h2⟩
  · refine ⟨hG.os, hG.tape, hG.output, hG.size, fun x hx hu' => ?_, fun x hx hn => ?_, fun x t' k' s' hx ht => ?_, fun x hx => hx.elim (fun hx => .inl (hG.more x hx)) .inr⟩
    · rcases hu' with hu' | rfl
      · exact .inl (hG.used x hx hu')
      · exact .inr rfl
    · have hxb : x ≠ b := by
        rintro rfl
        rw [put_same] at hn
        cases hn
      rw [put_other _ _ hxb] at hn ⊢
      exact hG.rest x hx hn
    · have hxb : x ≠ b := by
        rintro rfl
        rw [put_same] at ht
        cases ht
      rw [put_other _ _ hxb] at ht
      simp only [put_other _ _ hxb]
      exact hG.tail x t' k' s' hx ht
theorem CallsA.framed (f : FuncId) (args : List AV) : Framed (CallsA P f args) := by
  intro σ b t cs K hu hb h
  refine ⟨h.1, fun w Z hH hV => ?_⟩
  obtain ⟨h1, h2, h3⟩ := frame_pre hu hb hH
  refine (h.2 w _ h1 (fun a ha => h2 _ (hV a ha))).mono ?_
  rintro e w' ⟨r, σ', rfl, hK, hH', hV', hG⟩
  obtain ⟨τ, g1, g2, g3, g4⟩ := h3 K w' r σ' hK hH' hV' hG
  exact ⟨r, τ, rfl, g1, g2, g3, g4⟩
theorem ExecA.framed (o : Oper) (vs : List AV) : Framed (ExecA P o vs) := by
  intro σ b t cs K hu hb h ρ hρ w Z hH hV
  obtain ⟨h1, h2, h3⟩ := frame_pre hu hb hH
  obtain ⟨r, σ', w', hr, hK, hH', hV', hG⟩ := h ρ hρ w _ h1 (fun a ha => h2 _ (hV a ha))
  obtain ⟨τ, g1, g2, g3, g4⟩ := h3 K w' r σ' hK hH' hV' hG
  exact ⟨r, τ, w', hr, g1, g2, g3, g4⟩
theorem effM (hk : effects o = true) (hw : Region.wanted o (yieldedA ops env) = true) (K : AV → St → Prop) : aOpD P ops Pres lf cf o env σ K ↔ aVal P o (o.op.operands.toList.map (ev env)) σ (fun r σ' => (cf = true → Keeps Pres σ σ') ∧ K r σ') := by
  have hnl : (lf && kindOf o == .load) = false := by
    unfold effects at hk
    split at hk <;> first | (cases hk; done) | (rename_i h; simp [h])
  unfold aOpD
  rw [if_pos hw, hnl, hk]
  simp
theorem effF (hk : effects o = true) (hw : Region.wanted o (yieldedA ops env) = true) : EffF Pres cf (aOpD P ops Pres lf cf o env) :=
  ⟨fun σ K => aVal P o (o.op.operands.toList.map (ev env)) σ K, fun σ K K' h => aVal_mono h, fun σ K => effM hk hw K⟩
theorem put_put {b1 b2 : Nat} (k1 k2 : Bk) (h : b1 ≠ b2) : (σ.put b1 k1).put b2 k2 = (σ.put b2 k2).put b1 k1 := by
  refine St.ext' (fun x => ?_) (fun x => ?_)
  · by_cases h1 : x = b1
    · subst h1
      rw [put_same, put_other _ _ h, put_same]
    · by_cases h2 : x = b2
      · subst h2
        rw [put_same, put_other _ _ h1, put_same]
      · rw [put_other _ _ h2, put_other _ _ h1, put_other _ _ h1, put_other _ _ h2]
  · show ((σ.used x ∨ x = b1) ∨ x = b2) ↔ ((σ.used x ∨ x = b2) ∨ x = b1)
    constructor <;> rintro ((h | h) | h) <;> simp [h]
theorem used_put {b1 b2 : Nat} {k : Bk} : ¬ (σ.put b1 k).used b2 ↔ ¬ σ.used b2 ∧ b2 ≠ b1 := by
  show ¬ (σ.used b2 ∨ b2 = b1) ↔ _
  simp
theorem set_put {b b' : Nat} (k k' : Bk) (h : b' ≠ b) : (σ.put b k).set b' k' = (σ.set b' k').put b k := by
  refine St.ext' (fun x => ?_) (fun x => Iff.rfl)
  show (if x = b' then some k' else if x = b then some k else σ.blk x) = (if x = b then some k else if x = b' then some k' else σ.blk x)
  by_cases h1 : x = b'
  · subst h1; rw [if_pos rfl, if_neg h, if_pos rfl]
  · rw [if_neg h1, if_neg h1]
theorem framed_val (vs : List AV) : Framed (aVal P o vs) := by
  intro σ b t cs K hu hb h
  have now : ∀ {r : AV}, K r σ → ∃ σ', ¬ σ'.used b ∧ σ'.blk b = none ∧ σ.put b (.own t cs) = σ'.put b (.own t cs) ∧ K r σ' := fun hk => ⟨σ, hu, hb, rfl, hk⟩
  have new : ∀ {b' : Nat} {r : AV} {k : Bk}, ¬ (σ.put b (.own t cs)).used b' → (σ.put b (.own t cs)).blk b' = none → (¬ σ.used b' → σ.blk b' = none → K r (σ.put b' k)) →
      ∃ σ', ¬ σ'.used b ∧ σ'.blk b = none ∧ (σ.put b (.own t cs)).put b' k = σ'.put b (.own t cs) ∧ K r σ' := by
    intro b' r k h1 h2 h3
    obtain ⟨h1, hne⟩ := used_put.1 h1
    rw [put_other _ _ hne] at h2
    exact ⟨σ.put b' k, used_put.2 ⟨hu, Ne.symm hne⟩, by rw [put_other _ _ (Ne.symm hne)]; exact hb, put_put _ _ (Ne.symm hne), h3 h1 h2⟩
  unfold aVal at h ⊢
  split at h
  · exact now h
  · exact now h
  · obtain ⟨t, h1, h2⟩ := h; exact ⟨t, h1, now h2⟩
  · obtain ⟨z, h1, h2⟩ := h; exact ⟨z, h1, fun b' h3 h4 => new h3 h4 (h2 b')⟩
  · exact fun b' h3 h4 => new h3 h4 (h b')
  · obtain ⟨z, pl, cells, h1, h2, h3, h4⟩ := h; exact ⟨z, pl, cells, h1, h2, h3, now h4⟩
  · obtain ⟨e, sz, z, cells, h1, h2, h3, h4, h5, h6, h7⟩ := h; exact ⟨e, sz, z, cells, h1, h2, h3, h4, h5, h6, fun b' g1 g2 => new g1 g2 (h7 b')⟩
  · obtain ⟨r, h1, h2⟩ := h; exact ⟨r, aLoad_put h1 hb, now h2⟩
  · obtain ⟨σ', h1, h2⟩ := h
    unfold aStore at h1
    split at h1
    · rename_i b0 o0
      unfold aStoreAt at h1
      split at h1
      · rename_i e' cs' n hb0 hn
        have hne : b0 ≠ b := fun e => by rw [e, hb] at hb0; cases hb0
        split at h1
        · rename_i hc
          injection h1 with h1
          subst h1
          refine ⟨_, ?_, σ.set b0 (.own e' (splice cs' o0 _)), hu, ?_, set_put _ _ hne, h2⟩
          · unfold aStore aStoreAt
            dsimp only
            rw [put_other _ _ hne, hb0, hn]
            dsimp only
            rw [if_pos hc]
          · show (if b = b0 then _ else σ.blk b) = none
            rw [if_neg (Ne.symm hne)]
            exact hb
        · cases h1
      · cases h1
    · cases h1
  · exact ⟨h.1, now h.2⟩
  · obtain ⟨r, h1, h2⟩ := h; exact ⟨r, h1, now h2⟩
  · obtain ⟨l, off, n, g, h1, h2, h3⟩ := h; exact ⟨l, off, n, g, h1, h2, now h3⟩
  · obtain ⟨l, off, n, g, h1, h2, h3⟩ := h; exact ⟨l, off, n, g, h1, h2, now h3⟩
  · obtain ⟨l, off, n, g, r, h1, h2, h3, h4⟩ := h; exact ⟨l, off, n, g, r, h1, h2, h3, now h4⟩
  · obtain ⟨e, sz, k, j, h1, h2, h3, h4, h5⟩ := h; exact ⟨e, sz, k, j, h1, h2, h3, h4, now h5⟩
  · split at h
    · obtain ⟨e, sz, h1, h2, l, h', m, h3, h4, h5, h6, h7⟩ := h; exact ⟨e, sz, h1, h2, l, h', m, h3, h4, h5, h6, now h7⟩
    · obtain ⟨v, h1, h2⟩ := h; exact ⟨v, h1, now h2⟩
  · split at h
    · obtain ⟨g, first, cap, h1, h2⟩ := h; exact ⟨g, first, cap, h1, CallsA.framed g _ σ b t cs K hu hb h2⟩
    · exact h.imp (fun ⟨v, h1, h2⟩ => ⟨v, h1, now h2⟩) (fun ⟨h1, h2⟩ => ⟨h1, ExecA.framed o _ σ b t cs K hu hb h2⟩)
  · exact h.imp (fun ⟨v, h1, h2⟩ => ⟨v, h1, now h2⟩) (fun ⟨h1, h2⟩ => ⟨h1, ExecA.framed o _ σ b t cs K hu hb h2⟩)
theorem frF (he : effects o = true) (hw : Region.wanted o (yieldedA ops env) = true) : FrF Pres cf (aOpD P ops Pres lf cf o env) := by
  exact ⟨fun σ K => aVal P o (o.op.operands.toList.map (ev env)) σ K, framed_val _, fun σ K K' h => aVal_mono h, fun σ K => effM he hw K⟩
theorem fresh_ex (σ : St) : ∃ b, ¬ σ.used b ∧ σ.blk b = none := by
  obtain ⟨n, h⟩ := σ.fin
  exact ⟨n, h n (Nat.le_refl _)⟩
end
section
variable {P : Program} {Pres : Nat → Prop} {σ : St} {M N : St → (AV → St → Prop) → Prop} {G : AV → AV → St → Prop} {fl fc : Bool}
abbrev Mono (M : St → (AV → St → Prop) → Prop) : Prop := ∀ σ K K', (∀ r σ', K r σ' → K' r σ') → M σ K → M σ K'
theorem swap_no_left (hM : NoF M) (hN : Mono N) (h : M σ fun r σ1 => N σ1 fun s σ2 => G r s σ2) : N σ fun s σ1 => M σ1 fun r σ2 => G r s σ2 := by
  rw [hM] at h
  exact hN _ _ _ (fun s σ2 hg => (hM _ _).2 hg) h
theorem swap_no_right (hN : NoF N) (hM : Mono M) (h : M σ fun r σ1 => N σ1 fun s σ2 => G r s σ2) : N σ fun s σ1 => M σ1 fun r σ2 => G r s σ2 := by
  rw [hN]
  exact hM _ _ _ (fun r σ1 hg => (hN _ _).1 hg) h
theorem swap_pure (hM : PureF M) (hN : Mono N) (h : M σ fun r σ1 => N σ1 fun s σ2 => G r s σ2) : N σ fun s σ1 => M σ1 fun r σ2 => G r s σ2 := by
  obtain ⟨F, hF⟩ := hM
  rw [hF] at h
  obtain ⟨r, h1, h2⟩ := h
  exact hN _ _ _ (fun s σ2 hg => (hF _ _).2 ⟨r, h1, hg⟩) h2
theorem swap_load_pure (hM : LoadF Pres fl M) (hN : PureF N) (h : M σ fun r σ1 => N σ1 fun s σ2 => G r s σ2) : N σ fun s σ1 => M σ1 fun r σ2 => G r s σ2 := by
  obtain ⟨F, hF, _⟩ := hM
  obtain ⟨F', hF'⟩ := hN
  rw [hF] at h
  obtain ⟨r, h1, h2⟩ := h
  rw [hF'] at h2
  obtain ⟨s, h3, h4⟩ := h2
  exact (hF' _ _).2 ⟨s, h3, (hF _ _).2 ⟨r, h1, h4⟩⟩
theorem swap_load_load (hM : LoadF Pres fl M) (hN : LoadF Pres fc N) (h : M σ fun r σ1 => N σ1 fun s σ2 => G r s σ2) : N σ fun s σ1 => M σ1 fun r σ2 => G r s σ2 := by
  obtain ⟨F, hF, _⟩ := hM
  obtain ⟨F', hF', _⟩ := hN
  rw [hF] at h
  obtain ⟨r, h1, h2⟩ := h
  rw [hF'] at h2
  obtain ⟨s, h3, h4⟩ := h2
  exact (hF' _ _).2 ⟨s, h3, (hF _ _).2 ⟨r, h1, h4⟩⟩
theorem swap_load_alloc (hM : LoadF Pres fl M) (hN : AllocF N) (h : M σ fun r σ1 => N σ1 fun s σ2 => G r s σ2) : N σ fun s σ1 => M σ1 fun r σ2 => G r s σ2 := by
  obtain ⟨F, hF, hS, _⟩ := hM
  obtain ⟨C, mk, k, hN⟩ := hN
  rw [hF] at h
  obtain ⟨r, h1, h2⟩ := h
  rw [hN] at h2
  exact (hN _ _).2 ⟨h2.1, fun b hu hb => (hF _ _).2 ⟨r, hS _ _ _ _ h1 hb, h2.2 b hu hb⟩⟩
theorem swap_load_eff (hM : LoadF Pres true M) (hN : EffF Pres true N) (h : M σ fun r σ1 => N σ1 fun s σ2 => G r s σ2) : N σ fun s σ1 => M σ1 fun r σ2 => G r s σ2 := by
  obtain ⟨F, hF, _, hS⟩ := hM
  rw [hF] at h
  obtain ⟨r, h1, h2⟩ := h
  obtain ⟨M0, hm, hN⟩ := hN
  rw [hN] at h2 ⊢
  exact hm _ _ _ (fun s σ2 ⟨g1, g2⟩ => ⟨g1, (hF _ _).2 ⟨r, hS rfl _ _ _ h1 (g1 rfl), g2⟩⟩) h2
theorem swap_alloc_alloc (hM : AllocF M) (hN : AllocF N) (h : M σ fun r σ1 => N σ1 fun s σ2 => G r s σ2) : N σ fun s σ1 => M σ1 fun r σ2 => G r s σ2 := by
  obtain ⟨C, mk, k, hM⟩ := hM
  obtain ⟨C', mk', k', hN⟩ := hN
  rw [hM] at h
  obtain ⟨hc, h⟩ := h
  obtain ⟨b0, hb0, hb0'⟩ := fresh_ex σ
  have hc' : C' := ((hN _ _).1 (h b0 hb0 hb0')).1
  refine (hN _ _).2 ⟨hc', fun b2 hu2 hn2 => (hM _ _).2 ⟨hc, fun b1 hu1 hn1 => ?_⟩⟩
  obtain ⟨hu1, hne⟩ := used_put.1 hu1
  rw [put_other _ _ hne] at hn1
  have := ((hN _ _).1 (h b1 hu1 hn1)).2 b2 (used_put.2 ⟨hu2, Ne.symm hne⟩) (by rw [put_other _ _ (Ne.symm hne)]; exact hn2)
  rw [put_put _ _ hne] at this
  exact this
theorem swap_eff_alloc {C : Prop} {mk : Nat → AV} {t : TypeId} {cs : List AV} (hC : C) (hM : FrF Pres fl M) (hN : ∀ σ K, N σ K ↔ C ∧ ∀ b, ¬ σ.used b → σ.blk b = none → K (mk b) (σ.put b (.own t cs))) (h : M σ fun r σ1 => N σ1 fun s σ2 => G r s σ2) : N σ fun s σ1 => M σ1 fun r σ2 => G r s σ2 := by
  obtain ⟨M0, hfr, hm, hM⟩ := hM
  rw [hM] at h
  refine (hN _ _).2 ⟨hC, fun b hu hb => (hM _ _).2 ?_⟩
  refine hm _ _ _ ?_ (hfr _ b t cs _ hu hb h)
  rintro r τ ⟨σ', h1, h2, rfl, h3, h4⟩
  refine ⟨fun hfl x t' cs' hp hx => ?_, ((hN _ _).1 h4).2 b h1 h2⟩
  by_cases hxb : x = b
  · subst hxb; rw [put_same] at hx ⊢; exact hx
  · rw [put_other _ _ hxb] at hx ⊢
    exact h3 hfl x t' cs' hp hx
end
end Go.Proofs.Ytnmimignbgdfgaa
