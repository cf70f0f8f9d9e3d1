/- Regions and codes over typed values. -/
import Derived.Test.YtmffcfjdacoigaaGreatX7
namespace Go.Proofs.YtmffcfjdacoigaaGreat
open Go.RowKit
set_option maxRecDepth 100000
set_option linter.unusedVariables false
variable {T : Nat → Type} {A : Type}
abbrev XE (T : Nat → Type) := List (Nat × XV T)
def xput (env : XE T) (d : Option Nat) (v : XV T) : XE T := match d with
  | some d => (d, v) :: env
  | none => env
def xwant (ops : Array Oper) (env : XE T) (o : Oper) (k : XE T → Bool → Option A) : Option A := match o.guard with
  | none => k env true
  | some (j, want) => match (ops[j]?).bind (·.dst) with
    | none => none
    | some t => match xget env t with
      | .bool c => cond c (k ((t, .bool true) :: env) want) (k ((t, .bool false) :: env) (!want))
      | .undef => k env false
      | _ => none
structure DrA where
  order : List Nat
  anc : List (List Nat)
  lf : List Nat
  cf : List Nat
  keep : List Nat
  am : Bool
  ow : List Nat
section
variable (C : Codec T) (P : Program) (tou : Tou T) (orc : Orc T A)
/-- A list that is built, as an array. -/
def xbarr (t : TypeId) (n : Nat) (parts : Array (Nat × Operand)) (vs : List (XV T)) (h : List (HI T)) (k : XV T → List (HI T) → Option A) : Option A := match sliceA P t with
  | some e => match sizeA P e, zeroA P e, C.code e with
    | some sz, some z, some E => if Nat.beq sz (C.sz E) = true ∧ Nat.beq z.cells.size sz = true ∧ n * sz ≤ 16777216 then
        match xFill (fun i => some (i * sz, sz)) ((List.range (n * sz)).map fun i => .ofV (z.cells[i % sz]!)) ((parts.toList.map (·.1)).zip vs) with
        | some cells => decs C E n cells fun xs => hforce (h ++ [.arr e E false xs]) fun h' => k (.as E h.length 0 n (some n)) h'
        | none => none
      else none
    | _, _, _ => none
  | none => none
/-- A list that is made, and told: nobody will write over it. -/
def xmakeR (t : TypeId) (x y : XV T) (h : List (HI T)) (k : XV T → List (HI T) → Option A) : Option A := match sliceA P t with
  | none => none
  | some e => match sizeA P e, zeroA P e, bytesA P e, C.code e with
    | some sz, some z, some by_, some E => if (Nat.beq z.cells.size sz && Nat.beq sz (C.sz E)) = true then match x, y with
      | .int _ l, .int _ c => if l = c ∧ 0 ≤ c ∧ c ≤ 140737488355328 ∧ (by_ : Int) * c ≤ 140737488355328 then xzero C E sz z fun zt => k (.sl E (List.replicate c.toNat zt) none) h else none
      | _, _ => none
      else none
    | _, _, _, _ => none
/-- A text as bytes. -/
def xconvS (t t' : TypeId) (s : List UInt8) (h : List (HI T)) (k : XV T → List (HI T) → Option A) (d : Unit → Option A) : Option A := match P.underlying t, P.underlying t' with
  | some .string, some (.slice e) => match P.underlying e, C.code e with
    | some (.int .u8), some E => if s.length ≤ 140737488355328 then (C.unb E s).bind fun xs => k (.sl E xs none) h else none
    | _, _ => none
  | _, _ => d ()
def xopA (am : Bool) (op : Op) (vs : List (XV T)) (h : List (HI T)) (k : XV T → List (HI T) → Option A) : Option A := match op, vs with
  | .convert t t' x, [.str s] => xconvS C P t t' s h k fun _ => xop C P orc (.convert t t' x) [.str s] h k
  | .call c, [.mo i] => if Nat.beq c.args.size 1 = true then xmlen P c i h k else none
  | op, vs => match am with
    | false => xop C P orc op vs h k
    | true => match op with
      | .buildSlice t n parts => xbarr C P t n parts vs h k
      | .makeSlice t ox oy => match vs with
        | [x, y] => xmakeR C P t x y h k
        | _ => none
      | op => xop C P orc op vs h k
/-- A list that is built in a region that draws its order, as an array. -/
def xopW (ow : Bool) (op : Op) (vs : List (XV T)) (h : List (HI T)) (k : XV T → List (HI T) → Option A) : Option A := match ow with
  | false => xop C P orc op vs h k
  | true => match op with
    | .buildSlice t n parts => xbarr C P t n parts vs h k
    | _ => none
def xlist (ops : Array Oper) (am : Bool) : List Oper → XE T → List (HI T) → (XE T → List (HI T) → Option A) → Option A
  | [], env, h, k => k env h
  | o :: l, env, h, k => xwant ops env o fun env w => cond w (forceL (o.op.operands.toList.map (xev env)) fun vs => xopA C P orc am o.op vs h fun r h => xlist ops am l (xput env o.dst r) h k) (xlist ops am l (xput env o.dst .undef) h k)
def isObj (h : List (HI T)) (i : Nat) : Bool := match h[i]? with
  | some (.obj _ _) => true
  | some (.arr _ _ _ _) => true
  | some (.mmap _ _ _) => true
  | some (.gen _ _) => true
  | _ => false
def lfOk (D : DrA) (i : Nat) (o : Oper) (vs : List (XV T)) : Bool := cond (D.lf.contains i && kindOf o == .load) (match vs with
  | [.ptr j _] => D.keep.contains j
  | [.ap _ j _ _] => D.keep.contains j
  | [.gv j _ _] => D.keep.contains j
  | [.el _ _ _] => true
  | [.ce _] => true
  | _ => false) true
def cfOk (D : DrA) (i : Nat) (o : Oper) (vs : List (XV T)) (h : List (HI T)) : Bool := cond (D.cf.contains i && effects o) (D.keep.all (isObj h) && (xtouch tou o.op vs h).all fun u => !D.keep.contains u) true
def xrunD (ops : Array Oper) (D : DrA) : List Nat → XE T → List (HI T) → (XE T → List (HI T) → Option A) → Option A
  | [], env, h, k => k env h
  | i :: l, env, h, k => match ops[i]? with
    | none => xrunD ops D l env h k
    | some o => xwant ops env o fun env w => cond w (forceL (o.op.operands.toList.map (xev env)) fun vs => cond (lfOk D i o vs && cfOk tou D i o vs h) (xopW C P orc (D.ow.contains i) o.op vs h fun r h => xrunD ops D l (xput env o.dst r) h k) none) (xrunD ops D l (xput env o.dst .undef) h k)
/-- What is kept, of what is an object where the region begins. -/
def DrA.at_ (D : DrA) (h : List (HI T)) : DrA := ⟨D.order, D.anc, D.lf, D.cf, D.keep.filter (isObj h), D.am, D.ow⟩
def xdrawn (D : DrA) (ops : Array Oper) (env : XE T) (h : List (HI T)) (k : XE T → List (HI T) → Option A) : Option A :=
  cond (drawOk P ops D.order (D.anc.getD · []) D.lf.contains D.cf.contains D.ow.contains && D.keep.all fun i => Nat.blt i h.length) (xrunD C P tou orc ops D D.order env h k) none
def headId : Code → Nat
  | .region id _ _ => id
  | .seq a b => match a with
    | .skip => headId b
    | a => headId a
  | .block _ c => headId c
  | .loop c => headId c
  | .scope c => headId c
  | .cond _ a _ => headId a
  | _ => 0
abbrev XK (T : Nat → Type) (A : Type) := Exit → XE T → List (HI T) → Option A
abbrev Lps (T : Nat → Type) (A : Type) := Nat → XE T → List (HI T) → XK T A → Option A
def xsub (env : XE T) (c : Operand) (b : Bool) : XE T := match c with
  | .tmp t => (t, .bool b) :: env
  | _ => env
def xcode (dr : Nat → Nat → DrA) (lps : Lps T A) : Code → XE T → List (HI T) → XK T A → Option A
  | .skip, env, h, k => k .normal env h
  | .region id ops draw, env, h, k => match draw with
    | false => xlist C P orc ops (dr id h.length).am ops.toList env h (k .normal)
    | true => xdrawn C P tou orc ((dr id h.length).at_ h) ops env h (k .normal)
  | .seq a b, env, h, k => xcode dr lps a env h fun ex env h => match ex with
    | .normal => xcode dr lps b env h k
    | ex => k ex env h
  | .cond c a b, env, h, k => match xev env c with
    | .bool t => cond t (xcode dr lps a (xsub env c true) h k) (xcode dr lps b (xsub env c false) h k)
    | _ => none
  | .block id c, env, h, k => xcode dr lps c env h fun ex env h => match ex with
    | .exit id' => cond (Nat.beq id' id) (k .normal env h) (k (.exit id') env h)
    | ex => k ex env h
  | .loop c, env, h, k => lps (headId c) env h k
  | .exit id, env, h, k => k (.exit id) env h
  | .scope c, env, h, k => xcode dr lps c env h fun ex env h => match ex with
    | .goto _ => none
    | ex => k ex env h
  | .ret, env, h, k => k .ret env h
  | _, _, _, _ => none
end
def loopsOf : Code → List Code
  | .seq a b => loopsOf a ++ loopsOf b
  | .cond _ a b => loopsOf a ++ loopsOf b
  | .block _ c => loopsOf c
  | .loop c => [c]
  | .scope c => loopsOf c
  | _ => []
structure Sat (C : Codec T) (ρ : Nat → AV) (env : XE T) (h : List (HI T)) (e : Env) (σ : St) : Prop where
  env : ∀ i, SV C h.length ρ (xget env i) (e i)
  hp : Hp C ρ h σ
def CodeTr (C : Codec T) (P : Program) (c : Code) (env : XE T) (h : List (HI T)) (ex : Exit) (env' : XE T) (h' : List (HI T)) : Prop :=
  ∀ O ρ e σ, Sat C ρ env h e σ → aCode P O c (fun ex' e' σ' => ex' = ex ∧ ∃ ρ', Sat C ρ' env' h' e' σ' ∧ Rel (fun _ => True) ρ h σ ρ' h' σ') e σ
def Lps.Ok (C : Codec T) (P : Program) (lps : Lps T A) (c : Code) : Prop := ∀ env h k z, lps (headId c) env h k = some z → ∃ ex env' h', k ex env' h' = some z ∧ CodeTr C P (.loop c) env h ex env' h'
section
variable {C : Codec T} {P : Program} {tou : Tou T} {orc : Orc T A} {ops : Array Oper} {env env' : XE T} {h h' : List (HI T)} {ρ ρ' : Nat → AV} {e : Env} {σ τ : St} {z : A} {U : Nat → Prop}
theorem xev_sv (hs : ∀ i, SV C h.length ρ (xget env i) (e i)) (x : Operand) : SV C h.length ρ (xev env x) (ev e x) := by
  cases x with
  | tmp t => exact hs t
  | const v => exact ofV_sv v
  | global g => exact sv_junk
  | func f => exact sv_fn.2 rfl
theorem xevs_sv (hs : ∀ i, SV C h.length ρ (xget env i) (e i)) (l : List Operand) : SVs C h.length ρ (l.map (xev env)) (l.map (ev e)) := by
  induction l with
  | nil => exact .none
  | cons x l ih => exact .cons (xev_sv hs x) ih
theorem xget_cons (t : Nat) (v : XV T) (env : XE T) (i : Nat) : xget ((t, v) :: env) i = if t = i then v else xget env i := by
  show (bif Nat.beq t i then v else xget env i) = _
  by_cases hi : t = i
  · subst hi; simp
  · have : Nat.beq t i = false := by cases hb : Nat.beq t i <;> simp_all
    rw [this, if_neg hi]; rfl
theorem Sat.put (hs : Sat C ρ env h e σ) (hr : Rel U ρ h σ ρ' h' τ) (H : Hp C ρ' h' τ) {d : Option Nat} {v : XV T} {a : AV} (hv : SV C h'.length ρ' v a) : Sat C ρ' (xput env d v) h' (e.put d a) τ := by
  refine ⟨fun i => ?_, H⟩
  have hi := (hs.env i).ext hr.len hr.ext
  cases d with
  | none => exact hi
  | some t =>
    show SV C h'.length ρ' (xget ((t, v) :: env) i) (if i = t then a else e i)
    rw [xget_cons]
    by_cases ht : i = t
    · subst ht; rw [if_pos rfl, if_pos rfl]; exact hv
    · rw [if_neg ht, if_neg (fun x => ht x.symm)]; exact hi
theorem Sat.sub (hs : Sat C ρ env h e σ) {t : Nat} {b : Bool} (ht : xget env t = .bool b) : Sat C ρ ((t, .bool b) :: env) h e σ := by
  refine ⟨fun i => ?_, hs.hp⟩
  rw [xget_cons]
  split
  · rename_i hi
    subst hi
    rw [← ht]; exact hs.env t
  · exact hs.env i
theorem xwant_sound {o : Oper} {k : XE T → Bool → Option A} (hk : xwant ops env o k = some z) : ∃ env' w, k env' w = some z ∧ ∀ ρ h e σ, Sat C ρ env h e σ → Sat C ρ env' h e σ ∧ Region.wanted o (yieldedA ops e) = w := by
  unfold xwant at hk
  split at hk
  · rename_i hg
    exact ⟨env, true, hk, fun ρ h e σ hs => ⟨hs, by simp [Region.wanted, hg]⟩⟩
  · rename_i j want hg
    split at hk
    · cases hk
    · rename_i t ht
      split at hk
      · rename_i c hc
        cases c
        · refine ⟨_, _, hk, fun ρ h e σ hs => ⟨hs.sub hc, ?_⟩⟩
          have := hs.env t
          rw [hc, sv_bool] at this
          have hy : yieldedA ops e j = some false := by unfold yieldedA; rw [ht]; simp [this]
          simp [Region.wanted, hg, hy]
        · refine ⟨_, _, hk, fun ρ h e σ hs => ⟨hs.sub hc, ?_⟩⟩
          have := hs.env t
          rw [hc, sv_bool] at this
          have hy : yieldedA ops e j = some true := by unfold yieldedA; rw [ht]; simp [this]
          simp [Region.wanted, hg, hy]
      · rename_i hc
        refine ⟨_, _, hk, fun ρ h e σ hs => ⟨hs, ?_⟩⟩
        have := hs.env t
        rw [hc, sv_undef] at this
        have hy : yieldedA ops e j = none := by unfold yieldedA; rw [ht]; simp [this, Go.undef]
        simp [Region.wanted, hg, hy]
      · cases hk
theorem xbarr_sound {t : TypeId} {n : Nat} {parts : Array (Nat × Operand)} {vs : List (XV T)} {d : Option Nat} {ty : TypeId} {pos : String} {af : Array Edge} {g : Option (Nat × Bool)} {k : XV T → List (HI T) → Option A} (hk : xbarr C P t n parts vs h k = some z) :
    ∃ r h', k r h' = some z ∧ ∀ ρ σ as_, SVs C h.length ρ vs as_ → Hp C ρ h σ → aOwnV P ⟨d, .buildSlice t n parts, ty, pos, af, g⟩ as_ σ fun rv τ => ∃ ρ', SV C h'.length ρ' r rv ∧ Hp C ρ' h' τ ∧ Rel (fun _ => True) ρ h σ ρ' h' τ := by
  unfold xbarr at hk
  split at hk
  rotate_left
  · cases hk
  rename_i e he
  split at hk
  rotate_left
  · cases hk
  rename_i sz v E hsz hz hE
  split at hk
  rotate_left
  · cases hk
  rename_i h1
  split at hk
  rotate_left
  · cases hk
  rename_i cells hf
  obtain ⟨e1, e2, e3⟩ := h1
  have e1 := Nat.eq_of_beq_eq_true e1
  have e2 := Nat.eq_of_beq_eq_true e2
  obtain ⟨xs, d1, d2, d3, d4⟩ := decs_sound hk
  rw [hforce_eq] at d1
  refine ⟨_, _, d1, fun ρ σ as_ hs H => ?_⟩
  obtain ⟨bs, h1, h2⟩ := zip_fst_snd (l := parts.toList.map (·.1)) hs
  obtain ⟨rs, h3, h4⟩ := xFill_sound hf (rangeV_sv _ _ _) h1
  rw [h2] at h3
  refine ⟨n, e, rs, ⟨t, parts, sz, v, rfl, he, hsz, hz, e2, e3, h3⟩, fun b hb hn => ?_⟩
  have hl := h4.len
  have hpos := C.pos E
  have hn1 : n ≤ 16777216 := Nat.le_trans (Nat.le_mul_of_pos_right n (by omega)) e3
  obtain ⟨g1, g2⟩ := H.newArr (U := fun _ => True) false hb hn e (E := E) (K := n) (xs := xs) (pre := rs) (rest := []) (fun N ρ' => (d4 _ _ _ h4).shut (enc_shut xs)) (by rw [List.append_nil, hl, d3]) (by unfold maxLen; omega) (fun _ => ⟨[], fun _ _ => .none⟩)
  rw [List.append_nil] at g1 g2
  refine ⟨_, ?_, g1, g2⟩
  exact sv_as.2 (.inl ⟨_, _, rfl, by simp, Nat.le_refl _, by unfold maxLen; omega, by omega, ⟨b, by rw [Nat.zero_add]; exact rup_same _ _ _, fun _ => by rw [Nat.zero_mul]⟩, fun c' hc => by injection hc⟩)
theorem xmakeR_sound {t : TypeId} {x y : XV T} {ox oy : Operand} {d : Option Nat} {ty : TypeId} {pos : String} {af : Array Edge} {g : Option (Nat × Bool)} {k : XV T → List (HI T) → Option A} (hk : xmakeR C P t x y h k = some z) :
    ∃ r h', k r h' = some z ∧ ∀ ρ σ as_, SVs C h.length ρ [x, y] as_ → Hp C ρ h σ → aVal P ⟨d, .makeSlice t ox oy, ty, pos, af, g⟩ as_ σ fun rv τ => ∃ ρ', SV C h'.length ρ' r rv ∧ Hp C ρ' h' τ ∧ Rel (fun _ => True) ρ h σ ρ' h' τ := by
  unfold xmakeR at hk
  split at hk
  · cases hk
  rename_i e he
  split at hk
  rotate_left
  · cases hk
  rename_i sz zv by_ E hsz hz hby hE
  split at hk
  rotate_left
  · cases hk
  rename_i hc
  simp only [Bool.and_eq_true] at hc
  have hzs := Nat.eq_of_beq_eq_true hc.1
  have e1 := Nat.eq_of_beq_eq_true hc.2
  split at hk
  rotate_left
  · cases hk
  rename_i kl l kc c
  split at hk
  rotate_left
  · cases hk
  rename_i hb
  obtain ⟨b1, b2, b3, b4⟩ := hb
  obtain ⟨zt, hk2, hzt⟩ := xzero_sound hk
  clear hk
  subst b1
  have hpos := C.pos E
  refine ⟨_, _, hk2, fun ρ σ as_ hs H => ?_⟩
  obtain ⟨a, b, rfl, h3, h4⟩ := svs2.1 hs
  rw [sv_int.1 h3, sv_int.1 h4]
  refine .inr ⟨rfl, fun ρv hρ w Z hH hV => ?_⟩
  have hρ' := hρ
  simp [Op.operands] at hρ'
  have hty := run_slice' he
  obtain ⟨i, hi, hsi⟩ := infoA hsz
  have hzi : i.zero = some zv := by unfold zeroA at hz; rw [hi] at hz; simpa using hz
  have hbi : i.bytes = by_ := by unfold bytesA at hby; rw [hi] at hby; simpa using hby
  have hr := run_make (P := P) w t e i zv hty hi hzi kl kc l l b2 (by omega) (by rw [hbi]; omega) (by omega)
  have hv := zeros_val zv l.toNat (by omega)
  rw [hzs] at hv
  have harr : madeCells zv.cells (l.toNat * i.size) = ((((List.replicate l.toNat ((List.range sz).map fun i => AV.ofV (zv.cells[i % sz]!))).flatten)).map AV.val).toArray := by
    rw [hv]
    simp [madeCells, Builtin.zeroCells, hsi, hzs]
    apply Array.ext'
    simp
  rw [harr] at hr
  obtain ⟨f1, f2⟩ := hH.fresh
  have hcs : ∀ B, ∀ a ∈ (List.replicate l.toNat ((List.range sz).map fun i => AV.ofV (zv.cells[i % sz]!))).flatten, Valid w B a := fun B a ha => by
    obtain ⟨l, hl, hal⟩ := List.mem_flatten.1 ha
    have hl := (List.mem_replicate.1 hl).2
    subst hl
    obtain ⟨j, _, rfl⟩ := List.mem_map.1 hal
    exact ofV_valid _
  have hlen : ((List.replicate l.toNat ((List.range sz).map fun i => AV.ofV (zv.cells[i % sz]!))).flatten).length = l.toNat * sz := by rw [flat_rep_len, List.length_map, List.length_range]
  have hzl := fun N (ρ : Nat → AV) => hzt l.toNat N ρ
  generalize (List.replicate l.toNat ((List.range sz).map fun i => AV.ofV (zv.cells[i % sz]!))).flatten = cells at hr hzl hcs hlen
  have hX : Ext σ (σ.put w.heap.size (.tail e cells.length cells.length)) := Ext.put _ f2
  refine ⟨.lst (some ⟨w.heap.size, 0, none⟩) l.toNat l.toNat cells, _, _, .inl ?_, ⟨ρ, ?_, H.toExt0 hX, Rel.toExt0 hX⟩, hH.alloc_tail e cells cells.length (Nat.le_refl _), ?_, Grow.alloc hH _ _⟩
  · simp [execOp, hρ', hr]
  · have := sv_sl (C := C) (N := h.length) (ρ := ρ) (E := E) (xs := List.replicate l.toNat zt) (a := .lst (some ⟨w.heap.size, 0, none⟩) l.toNat l.toNat cells)
    rw [List.length_replicate] at this
    exact this.2 ⟨_, l.toNat, cells, [], by rw [List.append_nil], Nat.le_refl _, by unfold maxLen; omega, by omega, (fun q => by cases q), hzl _ _⟩
  · unfold Valid
    refine ⟨Nat.le_refl _, (fun q => by cases q), fun ad had => ?_⟩
    injection had with had
    subst had
    exact valid_new_row hH e cells _ (hcs _) (Nat.le_refl _) _
theorem ints_sv {N : Nat} {ρ : Nat → AV} : ∀ bs : List UInt8, SVs C N ρ (bs.map fun b => XV.int .u8 (b.toNat : Int)) (bs.map fun u => AV.raw (.int .u8 (u.toNat : Int)))
  | [] => .none
  | b :: bs => .cons (sv_int.2 rfl) (ints_sv bs)
theorem xopA_sound (hO : orc.Ok C P tou) {am : Bool} {op : Op} {vs : List (XV T)} {d : Option Nat} {ty : TypeId} {pos : String} {af : Array Edge} {g : Option (Nat × Bool)} {k : XV T → List (HI T) → Option A} (hn : op.operands.size = vs.length) (hk : xopA C P orc am op vs h k = some z) :
    ∃ r h', k r h' = some z ∧ ((∀ ρ σ as_, SVs C h.length ρ vs as_ → Hp C ρ h σ → aVal P ⟨d, op, ty, pos, af, g⟩ as_ σ fun rv τ => ∃ ρ', SV C h'.length ρ' r rv ∧ Hp C ρ' h' τ ∧ Rel (fun _ => True) ρ h σ ρ' h' τ) ∨
      (∃ t n parts, op = .buildSlice t n parts ∧ ∀ ρ σ as_, SVs C h.length ρ vs as_ → Hp C ρ h σ → ∃ e sz z cells, sliceA P t = some e ∧ sizeA P e = some sz ∧ zeroA P e = some z ∧ z.cells.size = sz ∧ n * sz ≤ 16777216 ∧
        aFill (fun i => some (i * sz, sz)) ((List.range (n * sz)).map fun i => .ofV (z.cells[i % sz]!)) ((parts.toList.map (·.1)).zip as_) = some cells ∧
        ∀ b, ¬ σ.used b → σ.blk b = none → ∃ ρ', SV C h'.length ρ' r (.raw (.slice (some ⟨b, 0, none⟩) n n)) ∧ Hp C ρ' h' (σ.put b (.own e cells)) ∧ Rel (fun _ => True) ρ h σ ρ' h' (σ.put b (.own e cells))) ∨
      (∃ (t t' : TypeId) (x : Operand) (e : TypeId) (bs : List UInt8), op = .convert t t' x ∧ P.underlying t = some .string ∧ P.underlying t' = some (.slice e) ∧ P.underlying e = some (.int .u8) ∧ bs.length ≤ 140737488355328 ∧ ∀ ρ σ as_, SVs C h.length ρ vs as_ → Hp C ρ h σ → as_ = [.raw (.string ⟨bs.toArray⟩)] ∧
        ∀ b c, ¬ σ.used b → σ.blk b = none → bs.length ≤ c → c ≤ maxLen → ∃ ρ', SV C h'.length ρ' r (.lst (some ⟨b, 0, none⟩) bs.length c (bs.map fun u => AV.raw (.int .u8 (u.toNat : Int)))) ∧ Hp C ρ' h' (σ.use b) ∧ Rel (fun _ => True) ρ h σ ρ' h' (σ.use b)) ∨
      (∀ ρ σ as_, SVs C h.length ρ vs as_ → Hp C ρ h σ → ExecA P ⟨d, op, ty, pos, af, g⟩ as_ σ fun rv τ => ∃ ρ', SV C h'.length ρ' r rv ∧ Hp C ρ' h' τ ∧ Rel (fun _ => True) ρ h σ ρ' h' τ)) := by
  have plain : xop C P orc op vs h k = some z → ∃ r h', k r h' = some z ∧ ∀ ρ σ as_, SVs C h.length ρ vs as_ → Hp C ρ h σ → aVal P ⟨d, op, ty, pos, af, g⟩ as_ σ fun rv τ => ∃ ρ', SV C h'.length ρ' r rv ∧ Hp C ρ' h' τ ∧ Rel (fun _ => True) ρ h σ ρ' h' τ := fun hk =>
    xop_sound (d := d) (ty := ty) (pos := pos) (af := af) (g := g) (U := fun _ => True) hO (fun _ _ => trivial) hn hk
  unfold xopA at hk
  split at hk
  · rename_i t t' x s
    unfold xconvS at hk
    split at hk
    · rename_i e ht ht'
      split at hk
      · rename_i E he hE
        split at hk
        · rename_i hl
          obtain ⟨xs, hx, hk⟩ := obind hk
          have hxl := C.unb_len E s xs hx
          refine ⟨_, _, hk, .inr (.inr (.inl ⟨t, t', x, e, s, rfl, ht, ht', he, hl, fun ρ σ as_ hs H => ?_⟩))⟩
          obtain ⟨a, rfl, h1⟩ := svs1.1 hs
          rw [sv_str.1 h1]
          refine ⟨rfl, fun b c hb hn hc hm => ?_⟩
          have hX : Ext σ (σ.use b) := ⟨fun c x hx => hx, fun c hu => .inl hu⟩
          refine ⟨ρ, sv_sl.2 ⟨some ⟨b, 0, none⟩, c, s.map fun u => AV.raw (.int .u8 (u.toNat : Int)), [], by rw [hxl]; simp, by omega, hm, by omega, (fun e => by cases e), ?_⟩, H.toExt0 hX, Rel.toExt0 hX⟩
          rw [C.unb_ok E s xs hx]
          exact ints_sv s
        · cases hk
      · cases hk
    · obtain ⟨r, h', h1, h2⟩ := plain hk
      exact ⟨r, h', h1, .inl h2⟩
  · split at hk
    · rename_i hc1
      obtain ⟨r, h', h1, h2⟩ := snd_mlen (U := fun _ => True) (d := d) (ty := ty) (pos := pos) (af := af) (g := g) (Nat.eq_of_beq_eq_true hc1) hk
      exact ⟨r, h', h1, .inr (.inr (.inr h2))⟩
    · cases hk
  split at hk
  · obtain ⟨r, h', h1, h2⟩ := plain hk
    exact ⟨r, h', h1, .inl h2⟩
  split at hk
  rotate_left
  · split at hk
    · obtain ⟨r, h', h1, h2⟩ := xmakeR_sound (d := d) (ty := ty) (pos := pos) (af := af) (g := g) hk
      exact ⟨r, h', h1, .inl h2⟩
    · cases hk
  · obtain ⟨r, h', h1, h2⟩ := plain hk
    exact ⟨r, h', h1, .inl h2⟩
  clear plain
  rename_i t n parts _ _
  obtain ⟨r, h', h1, h2⟩ := xbarr_sound (d := d) (ty := ty) (pos := pos) (af := af) (g := g) hk
  refine ⟨r, h', h1, .inr (.inl ⟨t, n, parts, rfl, fun ρ σ as_ hs H => ?_⟩)⟩
  obtain ⟨n', e, cells, ⟨t', parts', sz, zv, g1, g2, g3, g4, g5, g6, g7⟩, g8⟩ := h2 ρ σ as_ hs H
  injection g1 with e1 e2 e3
  subst e1 e2 e3
  exact ⟨e, sz, zv, cells, g2, g3, g4, g5, g6, g7, g8⟩
theorem xlist_sound (hO : orc.Ok C P tou) {am : Bool} : ∀ (l : List Oper) (env : XE T) (h : List (HI T)) (k : XE T → List (HI T) → Option A), xlist C P orc ops am l env h k = some z →
    ∃ env' h', k env' h' = some z ∧ ∀ ρ e σ, Sat C ρ env h e σ → ∀ K : Env → St → Prop, (∀ ρ' e' σ', Sat C ρ' env' h' e' σ' → Rel (fun _ => True) ρ h σ ρ' h' σ' → K e' σ') → aList P ops l e σ K
  | [], env, h, k, hk => ⟨env, h, hk, fun ρ e σ hs K hK => hK ρ e σ hs (.refl _ _ _ _)⟩
  | o :: l, env, h, k, hk => by
    unfold xlist at hk
    obtain ⟨env1, w, hk, h1⟩ := xwant_sound (C := C) hk
    cases w
    · obtain ⟨env', h', h2, h3⟩ := xlist_sound hO l _ _ _ hk
      refine ⟨env', h', h2, fun ρ e σ hs K hK => ?_⟩
      obtain ⟨hs1, hw⟩ := h1 ρ h e σ hs
      unfold aList
      refine .inl ?_
      unfold aOp
      rw [if_neg (by rw [hw]; exact Bool.false_ne_true)]
      exact h3 ρ _ σ (hs1.put (.refl (fun _ => True) _ _ _) hs1.hp (sv_undef.2 rfl)) K hK
    · change forceL _ _ = some z at hk
      rw [forceL_eq] at hk
      obtain ⟨d, op, ty, pos, af, g⟩ := o
      obtain ⟨r, h', h2, h3⟩ := xopA_sound (d := d) (ty := ty) (pos := pos) (af := af) (g := g) hO (by simp) hk
      obtain ⟨env', h'', h4, h5⟩ := xlist_sound hO l _ _ _ h2
      refine ⟨env', h'', h4, fun ρ e σ hs K hK => ?_⟩
      obtain ⟨hs1, hw⟩ := h1 ρ h e σ hs
      unfold aList
      rcases h3 with h3 | ⟨t, n, parts, rfl, h3⟩ | ⟨t, t', x, te, bs, rfl, q1, q2, q3, q4, h3⟩ | h3
      · refine .inl ?_
        unfold aOp
        rw [if_pos hw]
        refine aVal_mono ?_ (h3 ρ σ _ (xevs_sv hs1.env _) hs1.hp)
        rintro rv τ ⟨ρ', g1, g2, g3⟩
        exact h5 ρ' _ τ (hs1.put g3 g2 g1) K fun ρ'' e' σ' g4 g5 => hK ρ'' e' σ' g4 (g3.trans hs.hp g5)
      · obtain ⟨te, sz, zv, cells, q1, q2, q3, q4, q5, q6, q7⟩ := h3 ρ σ _ (xevs_sv hs1.env _) hs1.hp
        refine .inr (.inl ⟨hw, t, n, parts, te, sz, zv, cells, rfl, q1, q2, q3, q4, q5, q6, fun b hb hn => ?_⟩)
        obtain ⟨ρ', g1, g2, g3⟩ := q7 b hb hn
        exact h5 ρ' _ _ (hs1.put g3 g2 g1) K fun ρ'' e' σ' g4 g5 => hK ρ'' e' σ' g4 (g3.trans hs.hp g5)
      · obtain ⟨q5, q6⟩ := h3 ρ σ _ (xevs_sv hs1.env _) hs1.hp
        refine .inr (.inr (.inl ⟨hw, t, t', x, te, bs, rfl, q1, q2, q3, ?_, q4, fun b c hb hn hc hm => ?_⟩))
        · have : (Op.convert t t' x).operands.toList.map (ev _) = [AV.raw (.string ⟨bs.toArray⟩)] := q5
          simp [Op.operands] at this
          rw [this]
          simp
        · obtain ⟨ρ', g1, g2, g3⟩ := q6 b c hb hn hc hm
          exact h5 ρ' _ _ (hs1.put g3 g2 g1) K fun ρ'' e' σ' g4 g5 => hK ρ'' e' σ' g4 (g3.trans hs.hp g5)
      · refine .inr (.inr (.inr ⟨hw, (h3 ρ σ _ (xevs_sv hs1.env _) hs1.hp).mono ?_⟩))
        rintro rv τ ⟨ρ', g1, g2, g3⟩
        exact h5 ρ' _ τ (hs1.put g3 g2 g1) K fun ρ'' e' σ' g4 g5 => hK ρ'' e' σ' g4 (g3.trans hs.hp g5)
end
end Go.Proofs.YtmffcfjdacoigaaGreat
