/- Sameness of structs of numbers, truths, texts; of pointers and nil. -/
import Derived.Test.YtnmimignbgdfgaaAvD
import Derived.Laws.StructEq
import Derived.Laws.Pointers
namespace Go.Proofs.Ytnmimignbgdfgaa
open Go.RowKit
set_option maxRecDepth 100000
set_option linter.unusedVariables false
inductive SK where
  | i (k : IntKind)
  | b
  | s
def SK.fit : SK → Value → Prop
  | .i k, v => ∃ n, v = .int k n
  | .b, v => ∃ x, v = .bool x
  | .s, v => ∃ x, v = .string x
def fitL : List SK → List Value → Prop
  | [], [] => True
  | k :: ks, v :: vs => k.fit v ∧ fitL ks vs
  | _, _ => False
theorem fitL.len : ∀ {ks : List SK} {vs : List Value}, fitL ks vs → vs.length = ks.length
  | [], [], _ => rfl
  | k :: ks, v :: vs, h => by simp [fitL.len h.2]
theorem fitL.split : ∀ {ks ls : List SK} {vs : List Value}, fitL (ks ++ ls) vs → fitL ks (vs.take ks.length) ∧ fitL ls (vs.drop ks.length)
  | [], ls, vs, h => by simpa [fitL] using h
  | k :: ks, ls, v :: vs, h => by
    obtain ⟨h1, h2⟩ := h
    obtain ⟨h3, h4⟩ := fitL.split h2
    exact ⟨⟨h1, by simpa using h3⟩, by simpa using h4⟩
def fieldsK (g : TypeId → Option (List SK)) (sz : TypeId → Option Nat) : List Field → Nat → Option (List SK)
  | [], _ => some []
  | f :: fs, off => if f.name = "_" ∨ f.offset ≠ off then none else match g f.type with
    | some ks => if sz f.type = some ks.length then (fieldsK g sz fs (off + ks.length)).map (ks ++ ·) else none
    | none => none
def kindsA (P : Program) : Nat → TypeId → Option (List SK)
  | 0, _ => none
  | d + 1, t => match P.underlying t with
    | some .bool => some [.b]
    | some (.int q) => some [.i q]
    | some .string => some [.s]
    | some (.struct fs) => if P.stoodInHeld t then none else fieldsK (kindsA P d) (sizeA P) fs.toList 0
    | _ => none
def fitV (P : Program) (t : TypeId) (ks : List SK) (a : Value) : Prop :=
  (∃ xs : Array Value, a = .agg xs ∧ aggA P t = some true ∧ fitL ks xs.toList) ∨ (aggA P t = some false ∧ fitL ks [a])
section
variable {P : Program} {w : World}
theorem run_part_fit {t : TypeId} {ks : List SK} {xs : Array Value} {off : Nat} (hs : sizeA P t = some ks.length) (hg : ∃ g, aggA P t = some g) (h1 : aggA P t = some false → ks.length = 1) (hf : fitL ks ((xs.toList.drop off).take ks.length)) :
    ∃ a, (part t xs off).run P w = .ok a w ∧ fitV P t ks a ∧ a.cells.toList = (xs.toList.drop off).take ks.length := by
  obtain ⟨g, hg⟩ := hg
  unfold part
  rw [Sem.run_bind, run_isAgg' hg]
  simp only [Result.andThen_ok]
  have hlen := hf.len
  cases g with
  | true =>
    refine ⟨.agg (xs.extract off (off + ks.length)), ?_, .inl ⟨_, rfl, hg, ?_⟩, ?_⟩
    · simp [run_sizeOf' hs]
    · simpa [List.extract_eq_take_drop] using hf
    · simp [Value.cells]
  | false =>
    have hk := h1 hg
    rw [hk] at hf hlen
    simp only [List.length_take, List.length_drop, Array.length_toList] at hlen
    have hlt : off < xs.size := by omega
    have hx : xs[off]? = some xs[off] := by simp [hlt]
    have ht : (xs.toList.drop off).take 1 = [xs[off]] := by
      rw [List.drop_eq_getElem_cons (by simpa using hlt)]
      simp
    rw [ht] at hf
    refine ⟨xs[off], by simp [hx], .inr ⟨hg, hf⟩, ?_⟩
    rw [hk, ht]
    match ks, hk, hf with
    | [k], _, hf =>
      have := hf.1
      cases k with
      | i q => obtain ⟨n, hn⟩ := this; rw [hn]; simp [Value.cells]
      | b => obtain ⟨n, hn⟩ := this; rw [hn]; simp [Value.cells]
      | s => obtain ⟨n, hn⟩ := this; rw [hn]; simp [Value.cells]
def EqOk (P : Program) (e : Nat) (t : TypeId) (ks : List SK) : Prop := ∀ (w : World) (a b : Value), fitV P t ks a → fitV P t ks b → ∃ r : Bool, (Op.equalIn e t a b).run P w = .ok r w ∧ (r = true ↔ a.cells.toList = b.cells.toList)
theorem kinds_agg {d : Nat} {t : TypeId} {ks : List SK} (h : kindsA P d t = some ks) : (∃ g, aggA P t = some g) ∧ (aggA P t = some false → ks.length = 1) := by
  cases d with
  | zero => simp [kindsA] at h
  | succ d =>
    unfold kindsA at h
    unfold aggA
    split at h
    · rename_i hu; rw [hu]; injection h with h; subst h; exact ⟨⟨_, rfl⟩, fun _ => rfl⟩
    · rename_i hu; rw [hu]; injection h with h; subst h; exact ⟨⟨_, rfl⟩, fun _ => rfl⟩
    · rename_i hu; rw [hu]; injection h with h; subst h; exact ⟨⟨_, rfl⟩, fun _ => rfl⟩
    · rename_i hu
      rw [hu]
      refine ⟨⟨_, rfl⟩, fun h => ?_⟩
      simp at h
    · cases h
theorem run_fields {e : Nat} {g : TypeId → Option (List SK)} (hg : ∀ t ks, g t = some ks → EqOk P e t ks ∧ (∃ g, aggA P t = some g) ∧ (aggA P t = some false → ks.length = 1)) (xs ys : Array Value) :
    ∀ (fs : List Field) (off : Nat) (ks : List SK), fieldsK g (sizeA P) fs off = some ks → fitL ks (xs.toList.drop off) → fitL ks (ys.toList.drop off) →
    ∃ r : Bool, (Op.eqFields e xs ys fs).run P w = .ok r w ∧ (r = true ↔ xs.toList.drop off = ys.toList.drop off)
  | [], off, ks, h, hx, hy => by
    simp [fieldsK] at h
    subst h
    refine ⟨true, by simp [Op.eqFields], ?_⟩
    have h1 := hx.len
    have h2 := hy.len
    simp only [List.length_nil, List.length_eq_zero_iff] at h1 h2
    rw [h1, h2]
    simp
  | f :: fs, off, ks, h, hx, hy => by
    unfold fieldsK at h
    split at h
    · cases h
    rename_i hn
    simp only [not_or, ne_eq, Decidable.not_not] at hn
    obtain ⟨hn1, hn2⟩ := hn
    split at h
    · rename_i k1 hk1
      split at h
      · rename_i hsz
        simp only [Option.map_eq_some_iff] at h
        obtain ⟨k2, hk2, rfl⟩ := h
        obtain ⟨hE, hA, hB⟩ := hg _ _ hk1
        obtain ⟨x1, x2⟩ := hx.split
        obtain ⟨y1, y2⟩ := hy.split
        rw [List.drop_drop] at x2 y2
        obtain ⟨a, pa, fa, ca⟩ := run_part_fit (w := w) hsz hA hB x1
        obtain ⟨b, pb, fb, cb⟩ := run_part_fit (w := w) hsz hA hB y1
        obtain ⟨r, hr, hiff⟩ := hE w a b fa fb
        obtain ⟨r', hr', hiff'⟩ := run_fields hg xs ys fs (off + k1.length) k2 hk2 x2 y2
        rw [ca, cb] at hiff
        have hd : ∀ (l m : List Value) (n : Nat), l = m ↔ l.take n = m.take n ∧ l.drop n = m.drop n := fun l m n => ⟨fun e => by subst e; exact ⟨rfl, rfl⟩, fun ⟨h1, h2⟩ => by rw [← List.take_append_drop n l, h1, h2, List.take_append_drop]⟩
        rw [hd _ _ k1.length, ← hiff, List.drop_drop, List.drop_drop, ← hiff']
        unfold Op.eqFields
        rw [if_pos (by simpa using hn1), hn2]
        simp only [Sem.run_bind, pa, pb, hr, Result.andThen_ok]
        cases r
        · exact ⟨false, by simp, by simp⟩
        · exact ⟨r', by simpa using hr', by simp⟩
      · cases h
    · cases h
theorem run_equalA (e : Nat) : ∀ (d : Nat) (t : TypeId) (ks : List SK), kindsA P d t = some ks → EqOk P (e + d) t ks
  | 0, t, ks, h => by simp [kindsA] at h
  | d + 1, t, ks, h => by
    intro w a b ha hb
    have hag := kinds_agg h
    unfold kindsA at h
    split at h
    · rename_i hu
      injection h with h
      subst h
      have hA : aggA P t = some false := by unfold aggA; rw [hu]; rfl
      rcases ha with ⟨_, _, ha, _⟩ | ⟨_, ha⟩
      · rw [hA] at ha; cases ha
      rcases hb with ⟨_, _, hb, _⟩ | ⟨_, hb⟩
      · rw [hA] at hb; cases hb
      obtain ⟨x, rfl⟩ := ha.1
      obtain ⟨y, rfl⟩ := hb.1
      exact ⟨x == y, run_equalIn_bool' w (e + d) t x y hu, by simp [Value.cells]⟩
    · rename_i q hu
      injection h with h
      subst h
      have hA : aggA P t = some false := by unfold aggA; rw [hu]; rfl
      rcases ha with ⟨_, _, ha, _⟩ | ⟨_, ha⟩
      · rw [hA] at ha; cases ha
      rcases hb with ⟨_, _, hb, _⟩ | ⟨_, hb⟩
      · rw [hA] at hb; cases hb
      obtain ⟨x, rfl⟩ := ha.1
      obtain ⟨y, rfl⟩ := hb.1
      exact ⟨x == y, run_equalIn_int w (e + d) t q q x y hu, by simp [Value.cells]⟩
    · rename_i hu
      injection h with h
      subst h
      have hA : aggA P t = some false := by unfold aggA; rw [hu]; rfl
      rcases ha with ⟨_, _, ha, _⟩ | ⟨_, ha⟩
      · rw [hA] at ha; cases ha
      rcases hb with ⟨_, _, hb, _⟩ | ⟨_, hb⟩
      · rw [hA] at hb; cases hb
      obtain ⟨x, rfl⟩ := ha.1
      obtain ⟨y, rfl⟩ := hb.1
      refine ⟨x.toList == y.toList, run_equalIn_string w (e + d) t x y hu, ?_⟩
      rw [← beq_toListBytes]
      have : (x == y) = true ↔ x = y := by
        obtain ⟨⟨x⟩⟩ := x
        obtain ⟨⟨y⟩⟩ := y
        show ((⟨x⟩ : Array UInt8) == ⟨y⟩) = true ↔ _
        simp
      simp [Value.cells, this]
    · rename_i fs hu
      split at h
      · cases h
      rename_i hst
      have hA : aggA P t = some true := by unfold aggA; rw [hu]; rfl
      rcases ha with ⟨xs, rfl, _, ha⟩ | ⟨ha, _⟩
      rotate_left
      · rw [hA] at ha; cases ha
      rcases hb with ⟨ys, rfl, _, hb⟩ | ⟨hb, _⟩
      rotate_left
      · rw [hA] at hb; cases hb
      have hfs : P.fieldsOf t = fs := by simp [Program.fieldsOf, hu]
      obtain ⟨r, hr, hiff⟩ := run_fields (w := w) (e := e + d) (g := kindsA P d) (fun t ks hk => ⟨run_equalA e d t ks hk, kinds_agg hk⟩) xs ys fs.toList 0 ks h (by simpa using ha) (by simpa using hb)
      refine ⟨r, ?_, by simpa [Value.cells] using hiff⟩
      rw [show e + (d + 1) = (e + d) + 1 from rfl, run_equalIn_struct w (e + d) t xs ys (by rw [hfs]; exact hu) (by simpa using hst), hfs]
      exact hr
    · cases h
variable {ops : Array Oper} {env : Env} {σ : St} {K : Env → St → Prop} {d : Option Nat} {ty ty' t e : TypeId} {pos : String} {af : Array Edge} {x y z : Operand}
theorem s_eqlS {m : Nat} {ks : List SK} {xs ys : List AV} (hk : kindsA P m t = some ks) (hm : m ≤ 10000) (hg : P.eqGuardType P.depth t = false) (ha : aggA P t = some true) (hx : ev env x = .agg xs) (hy : ev env y = .agg ys) (fx : fitL ks (xs.map AV.val)) (fy : fitL ks (ys.map AV.val))
    (h : ∀ r : Bool, (r = true ↔ xs.map AV.val = ys.map AV.val) → K (env.put d (.raw (.bool r))) σ) : aOp P ops ⟨d, .binOp .eql t x y ty', ty, pos, af, none⟩ env σ K := by
  have key : ∃ r : Bool, (∀ w, (Op.equalIn 10000 t (.agg (xs.map AV.val).toArray) (.agg (ys.map AV.val).toArray)).run P w = .ok r w) ∧ (r = true ↔ xs.map AV.val = ys.map AV.val) := by
    have hE := run_equalA (10000 - m) m t ks hk
    rw [Nat.sub_add_cancel hm] at hE
    classical
    refine ⟨decide (xs.map AV.val = ys.map AV.val), fun w => ?_, by simp⟩
    obtain ⟨r, hr, hiff⟩ := hE w (.agg (xs.map AV.val).toArray) (.agg (ys.map AV.val).toArray) (.inl ⟨_, rfl, ha, by simpa using fx⟩) (.inl ⟨_, rfl, ha, by simpa using fy⟩)
    rw [hr]
    congr 1
    simp only [Value.cells] at hiff
    cases r <;> simp_all
  obtain ⟨r, hr, hiff⟩ := key
  exact s_bin hx hy (fun w _ _ => by simp [run_eqGuard_agg w .eql t _ _ _ _ hg, run_eql_struct, hr]) (h r hiff)
theorem s_neqS {m : Nat} {ks : List SK} {xs ys : List AV} (hk : kindsA P m t = some ks) (hm : m ≤ 10000) (hg : P.eqGuardType P.depth t = false) (ha : aggA P t = some true) (hx : ev env x = .agg xs) (hy : ev env y = .agg ys) (fx : fitL ks (xs.map AV.val)) (fy : fitL ks (ys.map AV.val))
    (h : ∀ r : Bool, (r = true ↔ ¬ xs.map AV.val = ys.map AV.val) → K (env.put d (.raw (.bool r))) σ) : aOp P ops ⟨d, .binOp .neq t x y ty', ty, pos, af, none⟩ env σ K := by
  have key : ∃ r : Bool, (∀ w, (Op.equalIn 10000 t (.agg (xs.map AV.val).toArray) (.agg (ys.map AV.val).toArray)).run P w = .ok r w) ∧ (r = true ↔ xs.map AV.val = ys.map AV.val) := by
    have hE := run_equalA (10000 - m) m t ks hk
    rw [Nat.sub_add_cancel hm] at hE
    classical
    refine ⟨decide (xs.map AV.val = ys.map AV.val), fun w => ?_, by simp⟩
    obtain ⟨r, hr, hiff⟩ := hE w (.agg (xs.map AV.val).toArray) (.agg (ys.map AV.val).toArray) (.inl ⟨_, rfl, ha, by simpa using fx⟩) (.inl ⟨_, rfl, ha, by simpa using fy⟩)
    rw [hr]
    congr 1
    simp only [Value.cells] at hiff
    cases r <;> simp_all
  obtain ⟨r, hr, hiff⟩ := key
  exact s_bin hx hy (fun w _ _ => by simp [run_eqGuard_agg w .neq t _ _ _ _ hg, run_neq_struct, hr]) (h (!r) (by rw [← hiff]; cases r <;> simp))
theorem s_eqlptr {p : Option Addr} {v : AV} (hp : P.underlying t = some (.pointer (P.pointee t))) (hx : ev env x = v) (hv : v.val = .pointer p) (hy : ev env y = .raw (.pointer none)) (h : K (env.put d (.raw (.bool p.isNone))) σ) : aOp P ops ⟨d, .binOp .eql t x y ty', ty, pos, af, none⟩ env σ K :=
  s_bin hx hy (fun w _ _ => by simp [hv, eqGuard_at_pointer, run_eql_pointer_nil w t p hp]) h
theorem s_neqptr {p : Option Addr} {v : AV} (hp : P.underlying t = some (.pointer (P.pointee t))) (hx : ev env x = v) (hv : v.val = .pointer p) (hy : ev env y = .raw (.pointer none)) (h : K (env.put d (.raw (.bool (!p.isNone)))) σ) : aOp P ops ⟨d, .binOp .neq t x y ty', ty, pos, af, none⟩ env σ K :=
  s_bin hx hy (fun w _ _ => by simp [hv, eqGuard_at_pointer, run_neq_pointer_nil w t p hp]) h
end
end Go.Proofs.Ytnmimignbgdfgaa
