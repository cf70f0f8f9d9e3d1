/- Operations over typed values: numbers, truths, texts, places. -/
import Derived.Test.YtlmmpfbdgiokmaaGreatX3
import Derived.Laws.Concat
import Derived.Laws.Cover1
namespace Go.Proofs.YtlmmpfbdgiokmaaGreat
open Go.RowKit
set_option maxRecDepth 100000
set_option linter.unusedVariables false
variable {T : Nat → Type} {A : Type}
def xint (op : BinOp) (ka : IntKind) (a : Int) (kb : IntKind) (b : Int) (k : XV T → Option A) : Option A := match op with
  | .shl => if b < 0 then none else k (.int ka (ka.wrap (a * 2 ^ min b.toNat ka.bits)))
  | .shr => if b < 0 then none else k (.int ka (a.fdiv (2 ^ min b.toNat ka.bits)))
  | op => if ka = kb then match op with
    | .add => k (.int ka (ka.wrap (a + b)))
    | .sub => k (.int ka (ka.wrap (a - b)))
    | .mul => k (.int ka (ka.wrap (a * b)))
    | .quo => if b = 0 then none else k (.int ka (ka.wrap (a.tdiv b)))
    | .rem => if b = 0 then none else k (.int ka (a.tmod b))
    | .and => k (.int ka (ka.wrap (BitVec.ofInt ka.bits a &&& BitVec.ofInt ka.bits b).toNat))
    | .or => k (.int ka (ka.wrap (BitVec.ofInt ka.bits a ||| BitVec.ofInt ka.bits b).toNat))
    | .xor => k (.int ka (ka.wrap (BitVec.ofInt ka.bits a ^^^ BitVec.ofInt ka.bits b).toNat))
    | .eql => k (.bool (decide (a = b)))
    | .neq => k (.bool (decide (a ≠ b)))
    | .lss => k (.bool (decide (a < b)))
    | .leq => k (.bool (decide (a ≤ b)))
    | .gtr => k (.bool (decide (b < a)))
    | .geq => k (.bool (decide (b ≤ a)))
    | _ => none
    else none
def xstr (op : BinOp) (a b : List UInt8) (k : XV T → Option A) : Option A := match op with
  | .add => if a.length + b.length ≤ 140737488355328 then k (.str (a ++ b)) else none
  | .eql => k (.bool (decide (a = b)))
  | .neq => k (.bool (decide (a ≠ b)))
  | .lss => k (.bool (decide (a < b)))
  | .leq => k (.bool (decide (a < b) || decide (a = b)))
  | .gtr => k (.bool (!(decide (a < b) || decide (a = b))))
  | .geq => k (.bool (!decide (a < b)))
  | _ => none
def isBoolT (P : Program) (t : TypeId) : Bool := match P.underlying t with
  | some .bool => true
  | _ => false
def isPtrT (P : Program) (t : TypeId) : Bool := match P.underlying t with
  | some (.pointer e) => Nat.beq e (P.pointee t)
  | _ => false
def isMapT (P : Program) (t : TypeId) : Bool := match P.underlying t with
  | some (.map _ _) => true
  | _ => false
def fitX : List SK → List (XV T) → Bool
  | [], [] => true
  | .i k :: ks, .int k' _ :: l => decide (k = k') && fitX ks l
  | .b :: ks, .bool _ :: l => fitX ks l
  | .s :: ks, .str _ :: l => fitX ks l
  | _, _ => false
def eqB : List (XV T) → List (XV T) → Bool
  | [], [] => true
  | .int _ a :: l, .int _ b :: m => decide (a = b) && eqB l m
  | .bool a :: l, .bool b :: m => decide (a = b) && eqB l m
  | .str a :: l, .str b :: m => decide (a = b) && eqB l m
  | _, _ => false
def xeqs (P : Program) (t : TypeId) (l m : List (XV T)) : Bool := match kindsA P 8 t with
  | some ks => fitX ks l && fitX ks m && (match aggA P t with | some true => true | _ => false) && !(P.eqGuardType P.depth t)
  | none => false
def xbin (P : Program) (op : BinOp) (t : TypeId) (x y : XV T) (k : XV T → Option A) : Option A := match x, y with
  | .int ka a, .int kb b => xint op ka a kb b k
  | .bool a, .bool b => if isBoolT P t = true then match op with
    | .eql => k (.bool (decide (a = b)))
    | .neq => k (.bool (decide (a ≠ b)))
    | _ => none
    else none
  | .str a, .str b => xstr op a b k
  | .ptr _ _, .nilptr => if isPtrT P t = true then match op with
    | .eql => k (.bool false)
    | .neq => k (.bool true)
    | _ => none
    else none
  | .nilptr, .nilptr => if isPtrT P t = true then match op with
    | .eql => k (.bool true)
    | .neq => k (.bool false)
    | _ => none
    else none
  | .mo _, .nmap => if isMapT P t = true then match op with
    | .eql => k (.bool false)
    | .neq => k (.bool true)
    | _ => none
    else none
  | .nmap, .nmap => if isMapT P t = true then match op with
    | .eql => k (.bool true)
    | .neq => k (.bool false)
    | _ => none
    else none
  | .agg l, .agg m => if xeqs P t l m = true then match op with
    | .eql => k (.bool (eqB l m))
    | .neq => k (.bool (!eqB l m))
    | _ => none
    else none
  | _, _ => none
def BinVal (P : Program) (op : BinOp) (t : TypeId) (a b v : Value) : Prop := ∀ (w : World) (x y : Operand), (do eqGuard op t x y a b; binOp op t a b : Sem Value).run P w = .ok v w
section
variable {P : Program} {op : BinOp} {t : TypeId} {ka kb : IntKind} {a b : Int} {k : XV T → Option A} {z : A}
theorem xint_sound (h : xint op ka a kb b k = some z) : ∃ r : XV T, k r = some z ∧ ∃ v, BinVal P op t (.int ka a) (.int kb b) v ∧ ∀ (C : Codec T) N ρ, SV C N ρ r (.raw v) := by
  unfold xint at h
  cases op
  case shl =>
    simp only at h; split at h
    · cases h
    · exact ⟨_, h, .int ka (ka.wrap (a * 2 ^ min b.toNat ka.bits)), fun w x y => by rw [eqGuard_at_int, pure_bind, binOp_shl]; unfold Op.shift; rw [if_neg ‹_›]; rfl, fun C N ρ => sv_int.2 rfl⟩
  case shr =>
    simp only at h; split at h
    · cases h
    · exact ⟨_, h, .int ka (a.fdiv (2 ^ min b.toNat ka.bits)), fun w x y => by rw [eqGuard_at_int, pure_bind, binOp_shr]; unfold Op.shift; rw [if_neg ‹_›]; rfl, fun C N ρ => sv_int.2 rfl⟩
  case quo =>
    simp only at h
    split at h
    · rename_i e; subst e
      split at h
      · cases h
      · rename_i hb
        exact ⟨_, h, .int ka (ka.wrap (a.tdiv b)), fun w x y => by simp [eqGuard_at_int, binOp, Op.intDiv, hb], fun C N ρ => sv_int.2 rfl⟩
    · cases h
  case rem =>
    simp only at h
    split at h
    · rename_i e; subst e
      split at h
      · cases h
      · rename_i hb
        exact ⟨_, h, .int ka (a.tmod b), fun w x y => by simp [eqGuard_at_int, binOp, Op.intDiv, hb], fun C N ρ => sv_int.2 rfl⟩
    · cases h
  case neq =>
    simp only at h
    split at h
    · rename_i e; subst e
      exact ⟨_, h, .bool (decide (a ≠ b)), fun w x y => by simp [eqGuard_at_int, binOp, Op.intCmp]; rfl, fun C N ρ => sv_bool.2 rfl⟩
    · cases h
  all_goals
    simp only at h
    split at h
    · rename_i e; subst e
      first
        | (cases h; done)
        | exact ⟨_, h, _, fun w x y => by simp [eqGuard_at_int, binOp, Op.intArith, Op.intCmp, Op.intBits]; try rfl, fun C N ρ => by first | exact sv_int.2 rfl | exact sv_bool.2 rfl⟩
    · cases h
theorem bytesLess_dec : ∀ (x y : List UInt8), Op.bytesLess x y = decide (x < y)
  | [], [] => by simp [Op.bytesLess]
  | _ :: _, [] => by simp [Op.bytesLess]
  | [], _ :: _ => by simp [Op.bytesLess]
  | a :: x, b :: y => by
    rw [Op.bytesLess, bytesLess_dec x y]
    simp only [List.cons_lt_cons_iff]
    by_cases h1 : a < b <;> by_cases h2 : a = b <;> by_cases h3 : x < y <;> simp [h1, h2, h3]
theorem List_beq (a b : List UInt8) : (a == b) = decide (a = b) := by by_cases h : a = b <;> simp [h]
theorem toList_mk (l : List UInt8) : (ByteArray.mk l.toArray).toList = l := by rw [ByteArray.toList_eq]
theorem xstr_sound {a b : List UInt8} (h : xstr op a b k = some z) : ∃ r : XV T, k r = some z ∧ ∃ v, BinVal P op t (.string ⟨a.toArray⟩) (.string ⟨b.toArray⟩) v ∧ ∀ (C : Codec T) N ρ, SV C N ρ r (.raw v) := by
  unfold xstr at h
  cases op
  case add =>
    simp only at h
    split at h
    · rename_i hl
      refine ⟨_, h, .string ⟨(a ++ b).toArray⟩, fun w x y => ?_, fun C N ρ => sv_str.2 rfl⟩
      have hs : (ByteArray.mk a.toArray).size + (ByteArray.mk b.toArray).size ≤ 9223372036854775807 := by
        show a.toArray.size + b.toArray.size ≤ (9223372036854775807 : Nat)
        simp only [List.size_toArray]
        omega
      rw [eqGuard_at_string, pure_bind, binOp_string_add, run_string_add_sum w _ _ hs]
      rw [ByteArray.mk_append_mk]
    · cases h
  all_goals
    simp only at h
    first
      | (cases h; done)
      | exact ⟨_, h, _, fun w x y => by
          rw [eqGuard_at_string, pure_bind]
          simp only [binOp_string_eql, binOp_string_neq, binOp_string_lss, binOp_string_leq, binOp_string_gtr, binOp_string_geq, toList_mk, bytesLess_dec]
          rfl, fun C N ρ => by first | exact sv_bool.2 rfl | (refine sv_bool.2 ?_; congr 2; simp only [List_beq, decide_not])⟩
theorem fitX_sound {C : Codec T} {N : Nat} {ρ : Nat → AV} : ∀ {ks : List SK} {l : List (XV T)} {as_ : List AV}, fitX ks l = true → SVs C N ρ l as_ → fitL ks (as_.map AV.val)
  | [], [], as_, _, hs => by rw [SVs_nil.1 hs]; trivial
  | .i k :: ks, .int k' n :: l, as_, hf, hs => by
    obtain ⟨a, bs, rfl, h1, h2⟩ := hs.to
    simp only [fitX, Bool.and_eq_true, decide_eq_true_eq] at hf
    rw [sv_int.1 h1]
    exact ⟨⟨n, by simp [hf.1]⟩, fitX_sound hf.2 h2⟩
  | .b :: ks, .bool n :: l, as_, hf, hs => by
    obtain ⟨a, bs, rfl, h1, h2⟩ := hs.to
    rw [sv_bool.1 h1]
    exact ⟨⟨n, by simp⟩, fitX_sound hf h2⟩
  | .s :: ks, .str n :: l, as_, hf, hs => by
    obtain ⟨a, bs, rfl, h1, h2⟩ := hs.to
    rw [sv_str.1 h1]
    exact ⟨⟨_, by simp; rfl⟩, fitX_sound hf h2⟩
  | [], _ :: _, _, hf, _ => by simp [fitX] at hf
  | .i _ :: _, [], _, hf, _ => by simp [fitX] at hf
  | .b :: _, [], _, hf, _ => by simp [fitX] at hf
  | .s :: _, [], _, hf, _ => by simp [fitX] at hf
  | .i _ :: _, .bool _ :: _, _, hf, _ | .i _ :: _, .str _ :: _, _, hf, _ | .i _ :: _, .sl _ _ _ :: _, _, hf, _ | .i _ :: _, .slx _ _ _ :: _, _, hf, _ | .i _ :: _, .nil :: _, _, hf, _ | .i _ :: _, .ptr _ _ :: _, _, hf, _ | .i _ :: _, .nilptr :: _, _, hf, _ | .i _ :: _, .el _ _ _ :: _, _, hf, _ | .i _ :: _, .agg _ :: _, _, hf, _ | .i _ :: _, .tup _ :: _, _, hf, _ | .i _ :: _, .fn _ :: _, _, hf, _ | .i _ :: _, .junk :: _, _, hf, _ | .i _ :: _, .undef :: _, _, hf, _ => by simp [fitX] at hf
  | .b :: _, .int _ _ :: _, _, hf, _ | .b :: _, .str _ :: _, _, hf, _ | .b :: _, .sl _ _ _ :: _, _, hf, _ | .b :: _, .slx _ _ _ :: _, _, hf, _ | .b :: _, .nil :: _, _, hf, _ | .b :: _, .ptr _ _ :: _, _, hf, _ | .b :: _, .nilptr :: _, _, hf, _ | .b :: _, .el _ _ _ :: _, _, hf, _ | .b :: _, .agg _ :: _, _, hf, _ | .b :: _, .tup _ :: _, _, hf, _ | .b :: _, .fn _ :: _, _, hf, _ | .b :: _, .junk :: _, _, hf, _ | .b :: _, .undef :: _, _, hf, _ => by simp [fitX] at hf
  | .s :: _, .int _ _ :: _, _, hf, _ | .s :: _, .bool _ :: _, _, hf, _ | .s :: _, .sl _ _ _ :: _, _, hf, _ | .s :: _, .slx _ _ _ :: _, _, hf, _ | .s :: _, .nil :: _, _, hf, _ | .s :: _, .ptr _ _ :: _, _, hf, _ | .s :: _, .nilptr :: _, _, hf, _ | .s :: _, .el _ _ _ :: _, _, hf, _ | .s :: _, .agg _ :: _, _, hf, _ | .s :: _, .tup _ :: _, _, hf, _ | .s :: _, .fn _ :: _, _, hf, _ | .s :: _, .junk :: _, _, hf, _ | .s :: _, .undef :: _, _, hf, _ => by simp [fitX] at hf
theorem eqB_sound {C : Codec T} {N : Nat} {ρ : Nat → AV} : ∀ {ks : List SK} {l m : List (XV T)} {as_ bs : List AV}, fitX ks l = true → fitX ks m = true → SVs C N ρ l as_ → SVs C N ρ m bs → (eqB l m = true ↔ as_.map AV.val = bs.map AV.val) := by
  intro ks
  induction ks with
  | nil =>
    intro l m as_ bs hl hm sl sm
    cases l <;> simp [fitX] at hl
    cases m <;> simp [fitX] at hm
    rw [SVs_nil.1 sl, SVs_nil.1 sm]; simp [eqB]
  | cons k ks ih =>
    intro l m as_ bs hl hm sl sm
    cases l with
    | nil => cases k <;> simp [fitX] at hl
    | cons x l => cases m with
      | nil => cases k <;> simp [fitX] at hm
      | cons y m =>
        obtain ⟨a, as1, rfl, h1, h2⟩ := sl.to
        obtain ⟨b, bs1, rfl, h3, h4⟩ := sm.to
        cases k <;> cases x <;> simp [fitX] at hl <;> cases y <;> simp [fitX] at hm
        · rw [sv_int.1 h1, sv_int.1 h3]; simp [eqB, ih hl.2 hm.2 h2 h4, ← hl.1, ← hm.1]
        · rw [sv_bool.1 h1, sv_bool.1 h3]; simp [eqB, ih hl hm h2 h4]
        · rw [sv_str.1 h1, sv_str.1 h3]; simp [eqB, ih hl hm h2 h4]
theorem beq_dec (a b : Bool) : (a == b) = decide (a = b) := by cases a <;> cases b <;> rfl
theorem bne_dec (a b : Bool) : (!(a == b)) = decide (a ≠ b) := by cases a <;> cases b <;> rfl
theorem xbin_sound {x y : XV T} (h : xbin P op t x y k = some z) : ∃ r, k r = some z ∧ ∀ (C : Codec T) N ρ a b, SV C N ρ x a → SV C N ρ y b → ∃ v, BinVal P op t a.val b.val v ∧ SV C N ρ r (.raw v) := by
  unfold xbin at h
  split at h
  · obtain ⟨r, h1, v, h2, h3⟩ := xint_sound (P := P) (t := t) h
    exact ⟨r, h1, fun C N ρ a b ha hb => by rw [sv_int.1 ha, sv_int.1 hb]; exact ⟨v, by simpa using h2, h3 C N ρ⟩⟩
  · split at h
    · rename_i hT
      have ht : P.underlying t = some .bool := by unfold isBoolT at hT; split at hT <;> simp_all
      cases op
      all_goals
        simp only at h
        first
          | (cases h; done)
          | exact ⟨_, h, fun C N ρ a b ha hb => by
              rw [sv_bool.1 ha, sv_bool.1 hb]
              exact ⟨_, fun w x y => by simp only [AV.val_raw, eqGuard_at_bool, pure_bind, binOp]; simp [run_eq_bool ht]; rfl, sv_bool.2 (by first | exact congrArg (fun c => AV.raw (Value.bool c)) (bne_dec _ _) | exact congrArg (fun c => AV.raw (Value.bool c)) (beq_dec _ _))⟩⟩
    · cases h
  · obtain ⟨r, h1, v, h2, h3⟩ := xstr_sound (P := P) (t := t) h
    exact ⟨r, h1, fun C N ρ a b ha hb => by rw [sv_str.1 ha, sv_str.1 hb]; exact ⟨v, by simpa using h2, h3 C N ρ⟩⟩
  · split at h
    · rename_i hT
      have ht : P.underlying t = some (.pointer (P.pointee t)) := by
        unfold isPtrT at hT; split at hT
        · rename_i e he; rw [he, Nat.eq_of_beq_eq_true hT]
        · cases hT
      cases op
      all_goals
        simp only at h
        first
          | (cases h; done)
          | exact ⟨_, h, fun C N ρ a b ha hb => by
              obtain ⟨q, rfl, _⟩ := sv_ptr.1 ha
              rw [sv_nilptr.1 hb]
              exact ⟨_, fun w x y => by simp [ptr, eqGuard_at_pointer, run_eql_pointer_nil w t _ ht, run_neq_pointer_nil w t _ ht], sv_bool.2 rfl⟩⟩
    · cases h
  · split at h
    · rename_i hT
      have ht : P.underlying t = some (.pointer (P.pointee t)) := by
        unfold isPtrT at hT; split at hT
        · rename_i e he; rw [he, Nat.eq_of_beq_eq_true hT]
        · cases hT
      cases op
      all_goals
        simp only at h
        first
          | (cases h; done)
          | exact ⟨_, h, fun C N ρ a b ha hb => by
              rw [sv_nilptr.1 ha, sv_nilptr.1 hb]
              exact ⟨_, fun w x y => by simp [eqGuard_at_pointer, run_eql_pointer_nil w t _ ht, run_neq_pointer_nil w t _ ht], sv_bool.2 rfl⟩⟩
    · cases h
  · split at h
    · rename_i hT
      obtain ⟨kt, et, ht⟩ : ∃ kt et, P.underlying t = some (.map kt et) := by
        unfold isMapT at hT; split at hT
        · exact ⟨_, _, ‹_›⟩
        · cases hT
      cases op
      all_goals
        simp only at h
        first
          | (cases h; done)
          | exact ⟨_, h, fun C N ρ a b ha hb => by
              obtain ⟨q, rfl, _⟩ := sv_mo.1 ha
              rw [sv_nmap.1 hb]
              exact ⟨_, fun w x y => by simp [mapv, eqGuard_at_map, run_eql_map_nil w t _ _ _ ht, run_neq_map_nil w t _ _ _ ht], sv_bool.2 rfl⟩⟩
    · cases h
  · split at h
    · rename_i hT
      obtain ⟨kt, et, ht⟩ : ∃ kt et, P.underlying t = some (.map kt et) := by
        unfold isMapT at hT; split at hT
        · exact ⟨_, _, ‹_›⟩
        · cases hT
      cases op
      all_goals
        simp only at h
        first
          | (cases h; done)
          | exact ⟨_, h, fun C N ρ a b ha hb => by
              rw [sv_nmap.1 ha, sv_nmap.1 hb]
              exact ⟨_, fun w x y => by simp [eqGuard_at_map, run_eql_map_nil w t _ _ _ ht, run_neq_map_nil w t _ _ _ ht], sv_bool.2 rfl⟩⟩
    · cases h
  · split at h
    · rename_i l m hT
      unfold xeqs at hT
      split at hT
      · rename_i ks hk
        simp only [Bool.and_eq_true, Bool.not_eq_true'] at hT
        obtain ⟨⟨⟨hl, hm⟩, hg⟩, hgt⟩ := hT
        have ha' : aggA P t = some true := by split at hg <;> simp_all
        have key : ∀ (C : Codec T) N ρ as_ bs, SVs C N ρ l as_ → SVs C N ρ m bs → ∀ w, (Op.equalIn 10000 t (.agg (as_.map AV.val).toArray) (.agg (bs.map AV.val).toArray)).run P w = .ok (eqB l m) w := fun C N ρ as_ bs hx hy w => by
          have hE := run_equalA (P := P) (10000 - 8) 8 t ks hk
          obtain ⟨r, hr, hiff⟩ := hE w (.agg (as_.map AV.val).toArray) (.agg (bs.map AV.val).toArray) (.inl ⟨_, rfl, ha', by simpa using fitX_sound hl hx⟩) (.inl ⟨_, rfl, ha', by simpa using fitX_sound hm hy⟩)
          rw [show (10000 - 8 + 8 : Nat) = 10000 from rfl] at hr
          rw [hr]
          congr 1
          have h2 := eqB_sound hl hm hx hy
          simp only [Value.cells] at hiff
          cases r <;> cases hq : eqB l m <;> simp_all
        cases op
        all_goals
          simp only at h
          first
            | (cases h; done)
            | exact ⟨_, h, fun C N ρ a b ha hb => by
                obtain ⟨as_, rfl, hx⟩ := sv_agg.1 ha
                obtain ⟨bs, rfl, hy⟩ := sv_agg.1 hb
                exact ⟨_, fun w x y => by simp [run_eqGuard_agg w _ t _ _ _ _ hgt, run_eql_struct, run_neq_struct, key C N ρ as_ bs hx hy], sv_bool.2 rfl⟩⟩
      · cases hT
    · cases h
  · cases h
end
end Go.Proofs.YtlmmpfbdgiokmaaGreat
