/- Steps of a walk: memory as a letter with facts. -/
import Derived.Test.YtnmimignbgdfgaaAvI
namespace Go.Proofs.Ytnmimignbgdfgaa
open Go.RowKit
set_option maxRecDepth 100000
set_option linter.unusedVariables false
@[simp] theorem AV.cells_agg (l : List AV) : (AV.agg l).cells = l := rfl
@[simp] theorem AV.cells_lst (A : Option Addr) (n c : Nat) (l : List AV) : (AV.lst A n c l).cells = [.lst A n c l] := rfl
@[simp] theorem AV.cells_int (k : IntKind) (n : Int) : (AV.raw (.int k n)).cells = [.raw (.int k n)] := rfl
@[simp] theorem AV.cells_bool (x : Bool) : (AV.raw (.bool x)).cells = [.raw (.bool x)] := rfl
@[simp] theorem AV.cells_string (x : ByteArray) : (AV.raw (.string x)).cells = [.raw (.string x)] := rfl
@[simp] theorem AV.cells_pointer (x : Option Addr) : (AV.raw (.pointer x)).cells = [.raw (.pointer x)] := rfl
@[simp] theorem notTup_agg (l : List AV) : notTup (AV.agg l) = true := rfl
@[simp] theorem notTup_lst (A : Option Addr) (n c : Nat) (l : List AV) : notTup (AV.lst A n c l) = true := rfl
@[simp] theorem notTup_raw (v : Value) : notTup (AV.raw v) = true := rfl
@[simp] theorem one_int (k : IntKind) (n : Int) : (AV.raw (.int k n)).one = true := rfl
@[simp] theorem one_bool (x : Bool) : (AV.raw (.bool x)).one = true := rfl
@[simp] theorem one_string (x : ByteArray) : (AV.raw (.string x)).one = true := rfl
@[simp] theorem one_pointer (x : Option Addr) : (AV.raw (.pointer x)).one = true := rfl
@[simp] theorem one_lst (A : Option Addr) (n c : Nat) (l : List AV) : (AV.lst A n c l).one = true := rfl
/-- Values of the common kinds. -/
def vI (x : Int) : AV := .raw (.int .i64 x)
def vU (x : UInt8) : AV := .raw (.int .u8 (x.toNat : Int))
def vK (x : Int) : AV := .raw (.int .u8 x)
def vT (x : Bool) : AV := .raw (.bool x)
@[simp] theorem vI_cells (x : Int) : (vI x).cells = [vI x] := rfl
@[simp] theorem vU_cells (x : UInt8) : (vU x).cells = [vU x] := rfl
@[simp] theorem vK_cells (x : Int) : (vK x).cells = [vK x] := rfl
@[simp] theorem vT_cells (x : Bool) : (vT x).cells = [vT x] := rfl
@[simp] theorem vI_notTup (x : Int) : notTup (vI x) = true := rfl
@[simp] theorem vU_notTup (x : UInt8) : notTup (vU x) = true := rfl
@[simp] theorem vK_notTup (x : Int) : notTup (vK x) = true := rfl
@[simp] theorem vT_notTup (x : Bool) : notTup (vT x) = true := rfl
@[simp] theorem vI_one (x : Int) : (vI x).one = true := rfl
@[simp] theorem vU_one (x : UInt8) : (vU x).one = true := rfl
@[simp] theorem vK_one (x : Int) : (vK x).one = true := rfl
@[simp] theorem vT_one (x : Bool) : (vT x).one = true := rfl
@[simp] theorem vI_val (x : Int) : (vI x).val = .int .i64 x := rfl
@[simp] theorem vU_val (x : UInt8) : (vU x).val = .int .u8 (x.toNat : Int) := rfl
@[simp] theorem vK_val (x : Int) : (vK x).val = .int .u8 x := rfl
@[simp] theorem vT_val (x : Bool) : (vT x).val = .bool x := rfl
/-- Closed lists of rules for 'simp only'. -/
theorem CL {α : Type} : (∀ (a : α) l, (a :: l).length = l.length + 1) ∧ ([] : List α).length = 0 ∧ (∀ (a : α) l n, (a :: l).drop (n + 1) = l.drop n) ∧ (∀ l : List α, l.drop 0 = l) ∧ (∀ (a : α) l n, (a :: l).take (n + 1) = a :: l.take n) ∧ (∀ l : List α, l.take 0 = []) ∧
    (∀ (a : α) l n, (a :: l)[n + 1]? = l[n]?) ∧ (∀ (a : α) l, (a :: l)[0]? = some a) ∧ (∀ n : Nat, 0 + n = n) ∧ (∀ n : Nat, n + 0 = n) ∧ (∀ (a : α) l m, (a :: l) ++ m = a :: (l ++ m)) ∧ (∀ m : List α, [] ++ m = m) ∧ (∀ m : List α, m ++ [] = m) ∧ (∀ n, ([] : List α).drop n = []) ∧ (∀ n, ([] : List α).take n = []) := by simp
theorem ZL : (∀ (a : Nat) (b : AV) l m, List.zip (a :: l) (b :: m) = (a, b) :: List.zip l m) ∧ (∀ l : List Nat, List.zip l ([] : List AV) = []) ∧ (∀ m : List AV, List.zip ([] : List Nat) m = []) ∧ (∀ (a : Nat × Operand) l, List.map (fun p : Nat × Operand => p.1) (a :: l) = a.1 :: List.map (fun p : Nat × Operand => p.1) l) ∧ List.map (fun p : Nat × Operand => p.1) [] = [] := by simp
theorem CV : (∀ l, (AV.agg l).cells = l) ∧ (∀ A n c l, (AV.lst A n c l).cells = [.lst A n c l]) ∧ (∀ k n, (AV.raw (.int k n)).cells = [.raw (.int k n)]) ∧ (∀ x, (AV.raw (.bool x)).cells = [.raw (.bool x)]) ∧ (∀ x, (AV.raw (.string x)).cells = [.raw (.string x)]) ∧ (∀ x, (AV.raw (.pointer x)).cells = [.raw (.pointer x)]) ∧
    (∀ l, notTup (AV.agg l) = true) ∧ (∀ A n c l, notTup (AV.lst A n c l) = true) ∧ (∀ v, notTup (AV.raw v) = true) ∧ (!true) = false ∧ (∀ b, (false || b) = b) ∧
    (∀ x, (vI x).cells = [vI x]) ∧ (∀ x, (vU x).cells = [vU x]) ∧ (∀ x, (vK x).cells = [vK x]) ∧ (∀ x, (vT x).cells = [vT x]) ∧ (∀ x, notTup (vI x) = true) ∧ (∀ x, notTup (vU x) = true) ∧ (∀ x, notTup (vK x) = true) ∧ (∀ x, notTup (vT x) = true) := by simp
theorem EV : (∀ (env : Env) t, ev env (.tmp t) = env t) ∧ (∀ (env : Env) v, ev env (.const v) = .ofV v) ∧ (∀ (env : Env) d v i, env.put (some d) v i = if i = d then v else env i) ∧ (∀ (env : Env) v, env.put none v = env) ∧ (∀ k n, AV.ofV (.int k n) = .raw (.int k n)) ∧ (∀ x, AV.ofV (.bool x) = .raw (.bool x)) ∧ (∀ x, AV.ofV (.string x) = .raw (.string x)) ∧ (∀ x, AV.ofV (.pointer x) = .raw (.pointer x)) ∧ AV.ofV (.slice none 0 0) = .lst none 0 0 [] ∧ (∀ x, AV.ofV (.agg x) = .agg (x.toList.map AV.ofV1)) :=
  ⟨fun _ _ => rfl, fun _ _ => rfl, fun _ _ _ _ => rfl, fun _ _ => rfl, fun _ _ => rfl, fun _ => rfl, fun _ => rfl, fun _ => rfl, rfl, fun _ => rfl⟩
/-- More is known; what was known stands. -/
structure Ext (σ τ : St) : Prop where
  keep : ∀ b k, σ.blk b = some k → τ.blk b = some k
  used : ∀ b, σ.used b → τ.used b
theorem Ext.refl (σ : St) : Ext σ σ := ⟨fun _ _ h => h, fun _ h => h⟩
theorem Ext.trans {σ τ υ : St} (h : Ext σ τ) (k : Ext τ υ) : Ext σ υ := ⟨fun b x hx => k.keep _ _ (h.keep _ _ hx), fun b hx => k.used _ (h.used _ hx)⟩
theorem Ext.noneOf {σ τ : St} (h : Ext σ τ) {b : Nat} (hb : τ.blk b = none) : σ.blk b = none := by
  cases hx : σ.blk b with
  | none => rfl
  | some k => rw [h.keep _ _ hx] at hb; cases hb
theorem Ext.unused {σ τ : St} (h : Ext σ τ) {b : Nat} (hb : ¬ τ.used b) : ¬ σ.used b := fun hx => hb (h.used _ hx)
theorem Ext.put {σ : St} {b : Nat} (k : Bk) (hb : σ.blk b = none) : Ext σ (σ.put b k) :=
  ⟨fun x y hx => by rw [put_other _ _ (fun e => by rw [e, hb] at hx; cases hx)]; exact hx, fun x hx => .inl hx⟩
theorem ne_of {σ : St} {b c : Nat} {k : Bk} (h : σ.blk c = some k) (hb : σ.blk b = none) : c ≠ b := fun e => by rw [e, hb] at h; cases h
/-- All but these blocks stand. -/
structure But (S : Nat → Prop) (σ τ : St) : Prop where
  keep : ∀ c k, ¬ S c → σ.blk c = some k → τ.blk c = some k
  used : ∀ c, σ.used c → τ.used c
theorem But.ext {S : Nat → Prop} {σ τ υ : St} (h : Ext σ τ) (hS : ∀ b, S b → σ.blk b = none) (k : But S τ υ) : Ext σ υ :=
  ⟨fun c x hx => k.keep _ _ (fun hc => by rw [hS c hc] at hx; cases hx) (h.keep _ _ hx), fun c hx => k.used _ (h.used _ hx)⟩
theorem But.refl (S : Nat → Prop) (σ : St) : But S σ σ := ⟨fun _ _ _ h => h, fun _ h => h⟩
theorem But.trans {S : Nat → Prop} {σ τ υ : St} (h : But S σ τ) (k : But S τ υ) : But S σ υ := ⟨fun c x hc hx => k.keep _ _ hc (h.keep _ _ hc hx), fun c hx => k.used _ (h.used _ hx)⟩
theorem Ext.but {S : Nat → Prop} {σ τ : St} (h : Ext σ τ) : But S σ τ := ⟨fun c x _ hx => h.keep _ _ hx, h.used⟩
theorem But.noneOfB {S : Nat → Prop} {σ τ : St} (h : But S σ τ) (hS : ∀ b, S b → σ.used b) {b : Nat} (hu : ¬ τ.used b) (hb : τ.blk b = none) : σ.blk b = none := by
  cases hx : σ.blk b with
  | none => rfl
  | some k =>
    by_cases hs : S b
    · exact absurd (h.used _ (hS b hs)) hu
    · rw [h.keep _ _ hs hx] at hb; cases hb
/-- Changes at blocks that were not there ahead, or that may be changed. -/
theorem But.ext2 {S T : Nat → Prop} {σ τ υ : St} (h : But S σ τ) (hS : ∀ b, T b → S b ∨ σ.blk b = none) (k : But T τ υ) : But S σ υ := by
  refine ⟨fun c x hc hx => k.keep _ _ (fun e => ?_) (h.keep _ _ hc hx), fun c hx => k.used _ (h.used _ hx)⟩
  rcases hS c e with h1 | h1
  · exact hc h1
  · rw [h1] at hx; cases hx
section
variable {P : Program} {O : Nat → Prop} {ops : Array Oper} {env : Env} {σ : St} {K : Env → St → Prop} {d : Option Nat} {ty ty' t : TypeId} {pos : String} {af : Array Edge} {x y z : Operand}
theorem r_box {e : TypeId} {v : AV} {cs : List AV} (hx : ev env x = v) (hc : v.cells = cs) (h : ∀ b τ, σ.blk b = none → ¬ σ.used b → τ.blk b = some (.own e cs) → τ.used b → Ext σ τ → K (env.put d (ptr b 0)) τ) : aOp P ops ⟨d, .box e x, ty, pos, af, none⟩ env σ K :=
  s_box hx fun b hu hb => h b _ hb hu (by rw [put_same, hc]) (.inr rfl) (Ext.put _ hb)
theorem r_alloc {e : TypeId} {v : Value} {cs : List AV} (hz : zeroA P e = some v) (hc : (AV.ofV v).cells = cs) (h : ∀ b τ, σ.blk b = none → ¬ σ.used b → τ.blk b = some (.own e cs) → τ.used b → Ext σ τ → K (env.put d (ptr b 0)) τ) : aOp P ops ⟨d, .alloc e, ty, pos, af, none⟩ env σ K :=
  s_alloc hz fun b hu hb => h b _ hb hu (by rw [put_same, hc]) (.inr rfl) (Ext.put _ hb)
theorem r_load {b o n : Nat} {T : TypeId} {cs : List AV} {g : Bool} {r : AV} (hx : ev env x = ptr b o) (hb : σ.blk b = some (.own T cs)) (ha : aggA P t = some g) (hn : sizeA P t = some n) (hr : cellsAt (some g) (some n) cs o = some r) (h : K (env.put d r) σ) : aOp P ops ⟨d, .load t x, ty, pos, af, none⟩ env σ K :=
  s_load hx (by unfold aLoad ptr; dsimp only; rw [hb]; dsimp only; rw [ha, hn]; exact hr) h
theorem r_load_e {n : Nat} {ad : Addr} {cells : List AV} {g : Bool} {r : AV} (hx : ev env x = .eptr ad cells) (ha : aggA P t = some g) (hn : sizeA P t = some n) (hr : cellsAt (some g) (some n) cells 0 = some r) (h : K (env.put d r) σ) : aOp P ops ⟨d, .load t x, ty, pos, af, none⟩ env σ K :=
  s_load hx (by unfold aLoad; dsimp only; rw [ha, hn]; exact hr) h
theorem r_store {b o n : Nat} {T : TypeId} {cs cs' : List AV} {u : AV} (hx : ev env x = ptr b o) (hy : ev env y = u) (hb : σ.blk b = some (.own T cs)) (hn : sizeA P t = some n)
    (hc : (notTup u && u.cells.length == n && u.cells.all AV.one && decide (o + n ≤ cs.length)) = true) (hs : splice cs o u.cells = cs')
    (h : ∀ τ, τ.blk b = some (.own T cs') → But (fun c => c = b) σ τ → K (env.put d (.raw undef)) τ) : aOp P ops ⟨d, .store t x y, ty, pos, af, none⟩ env σ K := by
  refine s_store (σ' := σ.set b (.own T cs')) hx hy ?_ (h _ ?_ ⟨fun c k hc hk => ?_, fun c hc => hc⟩)
  · unfold aStore aStoreAt ptr
    dsimp only
    rw [hb, hn]
    dsimp only
    rw [if_pos hc, hs]
  · show (if b = b then _ else σ.blk b) = _
    rw [if_pos rfl]
  · show (if c = b then _ else σ.blk c) = _
    rw [if_neg hc]
    exact hk
theorem r_call {g : FuncId} {as_ : Array Operand} {ts : Array TypeId} {vs : List AV} (hv : as_.toList.map (ev env) = vs) (h : CallsA P g vs σ fun r σ' => K (env.put d r) σ') : aOp P ops ⟨d, .call ⟨.value (.func g), as_, ts⟩, ty, pos, af, none⟩ env σ K := s_call hv h
/-- A guard's bool, each way. -/
theorem r_move_split {t : Bool} (hx : ev env x = .raw (.bool t)) (h1 : t = true → K (env.put d (.raw (.bool true))) σ) (h2 : t = false → K (env.put d (.raw (.bool false))) σ) : aOp P ops ⟨d, .move x, ty, pos, af, none⟩ env σ K := by
  cases t
  · exact s_move hx (h2 rfl)
  · exact s_move hx (h1 rfl)
variable {c : Code} {Q : APost}
theorem k_comp (F : Env → Prop) (h0 : F env) (h : ∀ e, F e → aCode P O c Q e σ) : aCode P O c Q env σ := h _ h0
theorem res_tmp {fn : Func} {t : Nat} {v : AV} (h : fn.results.toList = [.tmp t]) (hv : env t = v) : aResults P fn env σ v := by
  unfold aResults
  rw [h]
  simp [aResult, hv]
theorem res_none {fn : Func} (h : fn.results.toList = []) : aResults P fn env σ (.tup []) := by
  unfold aResults
  rw [h]
  exact ⟨[], rfl, rfl⟩
theorem aResult_cell {s t : Nat} {b o n : Nat} {T : TypeId} {cs : List AV} {g : Bool} {r : AV} (hx : env s = ptr b o) (hb : σ.blk b = some (.own T cs)) (ha : aggA P t = some g) (hn : sizeA P t = some n) (hr : cellsAt (some g) (some n) cs o = some r) : aResult P env σ (.cell s t) = some r := by
  unfold aResult
  dsimp only
  rw [hx]
  unfold aLoad ptr
  dsimp only
  rw [hb]
  dsimp only
  rw [ha, hn]
  exact hr
theorem res_one {fn : Func} {x : ResultVar} {v : AV} (h : fn.results.toList = [x]) (hv : aResult P env σ x = some v) : aResults P fn env σ v := by
  unfold aResults
  rw [h]
  exact hv
theorem res_two {fn : Func} {x y : ResultVar} {v u : AV} (h : fn.results.toList = [x, y]) (hv : aResult P env σ x = some v) (hu : aResult P env σ y = some u) : aResults P fn env σ (.tup [v, u]) := by
  unfold aResults
  rw [h]
  exact ⟨[v, u], by simp [List.mapM_cons, hv, hu], rfl⟩
theorem res_three {fn : Func} {x y z : ResultVar} {v u r : AV} (h : fn.results.toList = [x, y, z]) (hv : aResult P env σ x = some v) (hu : aResult P env σ y = some u) (hr : aResult P env σ z = some r) : aResults P fn env σ (.tup [v, u, r]) := by
  unfold aResults
  rw [h]
  exact ⟨[v, u, r], by simp [List.mapM_cons, hv, hu, hr], rfl⟩
theorem d_consT {lf cf : Nat → Bool} {i : Nat} {o : Oper} {order : List Nat} (ho : ops[i]? = some o) (hc : cf i = false) (h : aOp P ops o env σ fun env' σ' => aRunD P ops (fun _ => True) lf cf order env' σ' K) : aRunD P ops (fun _ => True) lf cf (i :: order) env σ K := by
  unfold aRunD
  rw [ho]
  dsimp only
  unfold aOp at h
  unfold aOpD
  rw [hc]
  split
  · rename_i hw
    rw [if_pos hw] at h
    exact ⟨fun _ _ _ _ => trivial, aVal_mono (fun r σ' h' => ⟨by simp, h'⟩) h⟩
  · rename_i hw
    rw [if_neg hw] at h
    exact h
theorem wanted_on {op : Op} {j : Nat} {want : Bool} (hg : yieldedA ops env j = some want) : Region.wanted ⟨d, op, ty, pos, af, some (j, want)⟩ (yieldedA ops env) = true := by simp [Region.wanted, hg]
theorem d_callT {lf cf : Nat → Bool} {Pres : Nat → Prop} {i : Nat} {g : FuncId} {gd : Option (Nat × Bool)} {as_ : Array Operand} {ts : Array TypeId} {vs : List AV} {order : List Nat} (ho : ops[i]? = some ⟨d, .call ⟨.value (.func g), as_, ts⟩, ty, pos, af, gd⟩) (hw : Region.wanted ⟨d, .call ⟨.value (.func g), as_, ts⟩, ty, pos, af, gd⟩ (yieldedA ops env) = true) (hv : as_.toList.map (ev env) = vs)
    (h : CallsA P g vs σ fun r σ' => Ext σ σ' ∧ aRunD P ops Pres lf cf order (env.put d r) σ' K) : aRunD P ops Pres lf cf (i :: order) env σ K := by
  unfold aRunD
  rw [ho]
  dsimp only
  unfold aOpD
  have hvs : (Op.call ⟨.value (.func g), as_, ts⟩).operands.toList.map (ev env) = ev env (.func g) :: vs := by rw [← hv]; simp [Op.operands, Call.operands]
  rw [if_pos hw]
  refine ⟨fun hk => by simp [kindOf] at hk, ?_⟩
  show aVal P _ ((Op.call ⟨.value (.func g), as_, ts⟩).operands.toList.map (ev env)) σ _
  rw [hvs]
  refine ⟨g, #[], #[], rfl, ?_⟩
  have h2 := h.mono (K' := fun r σ' => ((cf i && effects ⟨d, .call ⟨.value (.func g), as_, ts⟩, ty, pos, af, gd⟩) = true → Keeps Pres σ σ') ∧ aRunD P ops Pres lf cf order (env.put d r) σ' K) fun r σ' hh => ⟨fun _ b t' cs' _ hx => hh.1.keep _ _ hx, hh.2⟩
  simpa using h2
theorem d_load {lf cf : Nat → Bool} {Pres : Nat → Prop} {i : Nat} {o : Oper} {order : List Nat} (ho : ops[i]? = some o) (hc : cf i = false) (hp : ∀ b' o', o.op.operands.toList.map (ev env) = [ptr b' o'] → Pres b') (h : aOp P ops o env σ fun env' σ' => aRunD P ops Pres lf cf order env' σ' K) : aRunD P ops Pres lf cf (i :: order) env σ K := by
  unfold aRunD
  rw [ho]
  dsimp only
  unfold aOp at h
  unfold aOpD
  rw [hc]
  split
  · rename_i hw
    rw [if_pos hw] at h
    exact ⟨fun _ b o' hb => hp b o' hb, aVal_mono (fun r σ' h' => ⟨by simp, h'⟩) h⟩
  · rename_i hw
    rw [if_neg hw] at h
    exact h
theorem d_off {lf cf : Nat → Bool} {Pres : Nat → Prop} {i : Nat} {op : Op} {j : Nat} {want : Bool} {order : List Nat} (ho : ops[i]? = some ⟨d, op, ty, pos, af, some (j, want)⟩) (hg : yieldedA ops env j = some (!want)) (h : aRunD P ops Pres lf cf order (env.put d (.raw undef)) σ K) : aRunD P ops Pres lf cf (i :: order) env σ K := by
  unfold aRunD
  rw [ho]
  dsimp only
  unfold aOpD
  have hw : ¬ Region.wanted ⟨d, op, ty, pos, af, some (j, want)⟩ (yieldedA ops env) = true := by simp [Region.wanted, hg]
  rw [if_neg hw]
  exact h
theorem d_storeP {lf cf : Nat → Bool} {Pres : Nat → Prop} {i : Nat} {order : List Nat} {gd : Option (Nat × Bool)} {b o n : Nat} {T : TypeId} {cs cs' : List AV} {u : AV} (ho : ops[i]? = some ⟨d, .store t x y, ty, pos, af, gd⟩) (hw : Region.wanted ⟨d, .store t x y, ty, pos, af, gd⟩ (yieldedA ops env) = true) (hx : ev env x = ptr b o) (hy : ev env y = u) (hb : σ.blk b = some (.own T cs)) (hn : sizeA P t = some n)
    (hc : (notTup u && u.cells.length == n && u.cells.all AV.one && decide (o + n ≤ cs.length)) = true) (hs : splice cs o u.cells = cs') (hp : ∀ c, Pres c → c ≠ b)
    (h : ∀ τ, τ.blk b = some (.own T cs') → But (fun c => c = b) σ τ → aRunD P ops Pres lf cf order (env.put d (.raw undef)) τ K) : aRunD P ops Pres lf cf (i :: order) env σ K := by
  unfold aRunD
  rw [ho]
  dsimp only
  unfold aOpD
  rw [if_pos hw]
  have hk : But (fun c => c = b) σ (σ.set b (.own T cs')) := ⟨fun c k hc hk => by
    show (if c = b then _ else σ.blk c) = _
    rw [if_neg hc]
    exact hk, fun c hc => hc⟩
  refine ⟨fun hk => by simp [kindOf] at hk, ?_⟩
  show aVal P _ [ev env x, ev env y] σ _
  rw [hx, hy]
  refine ⟨σ.set b (.own T cs'), ?_, fun _ c t' cs2 hpc hc2 => hk.keep _ _ (hp c hpc) hc2, h _ ?_ hk⟩
  · unfold aStore aStoreAt ptr
    dsimp only
    rw [hb, hn]
    dsimp only
    rw [if_pos hc, hs]
  · show (if b = b then _ else σ.blk b) = _
    rw [if_pos rfl]
theorem comp1 (i0 : Nat) {v0 : AV} (h0 : env i0 = v0) (h : ∀ e : Env, e i0 = v0 → aCode P O c Q e σ) : aCode P O c Q env σ := h _ h0
theorem comp2 (i0 i1 : Nat) {v0 v1 : AV} (h0 : env i0 = v0) (h1 : env i1 = v1) (h : ∀ e : Env, e i0 = v0 ∧ e i1 = v1 → aCode P O c Q e σ) : aCode P O c Q env σ := h _ ⟨h0, h1⟩
theorem comp3 (i0 i1 i2 : Nat) {v0 v1 v2 : AV} (h0 : env i0 = v0) (h1 : env i1 = v1) (h2 : env i2 = v2) (h : ∀ e : Env, e i0 = v0 ∧ e i1 = v1 ∧ e i2 = v2 → aCode P O c Q e σ) : aCode P O c Q env σ := h _ ⟨h0, h1, h2⟩
theorem comp4 (i0 i1 i2 i3 : Nat) {v0 v1 v2 v3 : AV} (h0 : env i0 = v0) (h1 : env i1 = v1) (h2 : env i2 = v2) (h3 : env i3 = v3) (h : ∀ e : Env, e i0 = v0 ∧ e i1 = v1 ∧ e i2 = v2 ∧ e i3 = v3 → aCode P O c Q e σ) : aCode P O c Q env σ := h _ ⟨h0, h1, h2, h3⟩
theorem comp5 (i0 i1 i2 i3 i4 : Nat) {v0 v1 v2 v3 v4 : AV} (h0 : env i0 = v0) (h1 : env i1 = v1) (h2 : env i2 = v2) (h3 : env i3 = v3) (h4 : env i4 = v4) (h : ∀ e : Env, e i0 = v0 ∧ e i1 = v1 ∧ e i2 = v2 ∧ e i3 = v3 ∧ e i4 = v4 → aCode P O c Q e σ) : aCode P O c Q env σ := h _ ⟨h0, h1, h2, h3, h4⟩
theorem comp6 (i0 i1 i2 i3 i4 i5 : Nat) {v0 v1 v2 v3 v4 v5 : AV} (h0 : env i0 = v0) (h1 : env i1 = v1) (h2 : env i2 = v2) (h3 : env i3 = v3) (h4 : env i4 = v4) (h5 : env i5 = v5) (h : ∀ e : Env, e i0 = v0 ∧ e i1 = v1 ∧ e i2 = v2 ∧ e i3 = v3 ∧ e i4 = v4 ∧ e i5 = v5 → aCode P O c Q e σ) : aCode P O c Q env σ := h _ ⟨h0, h1, h2, h3, h4, h5⟩
theorem comp7 (i0 i1 i2 i3 i4 i5 i6 : Nat) {v0 v1 v2 v3 v4 v5 v6 : AV} (h0 : env i0 = v0) (h1 : env i1 = v1) (h2 : env i2 = v2) (h3 : env i3 = v3) (h4 : env i4 = v4) (h5 : env i5 = v5) (h6 : env i6 = v6) (h : ∀ e : Env, e i0 = v0 ∧ e i1 = v1 ∧ e i2 = v2 ∧ e i3 = v3 ∧ e i4 = v4 ∧ e i5 = v5 ∧ e i6 = v6 → aCode P O c Q e σ) : aCode P O c Q env σ := h _ ⟨h0, h1, h2, h3, h4, h5, h6⟩
theorem comp8 (i0 i1 i2 i3 i4 i5 i6 i7 : Nat) {v0 v1 v2 v3 v4 v5 v6 v7 : AV} (h0 : env i0 = v0) (h1 : env i1 = v1) (h2 : env i2 = v2) (h3 : env i3 = v3) (h4 : env i4 = v4) (h5 : env i5 = v5) (h6 : env i6 = v6) (h7 : env i7 = v7) (h : ∀ e : Env, e i0 = v0 ∧ e i1 = v1 ∧ e i2 = v2 ∧ e i3 = v3 ∧ e i4 = v4 ∧ e i5 = v5 ∧ e i6 = v6 ∧ e i7 = v7 → aCode P O c Q e σ) : aCode P O c Q env σ := h _ ⟨h0, h1, h2, h3, h4, h5, h6, h7⟩
theorem comp9 (i0 i1 i2 i3 i4 i5 i6 i7 i8 : Nat) {v0 v1 v2 v3 v4 v5 v6 v7 v8 : AV} (h0 : env i0 = v0) (h1 : env i1 = v1) (h2 : env i2 = v2) (h3 : env i3 = v3) (h4 : env i4 = v4) (h5 : env i5 = v5) (h6 : env i6 = v6) (h7 : env i7 = v7) (h8 : env i8 = v8) (h : ∀ e : Env, e i0 = v0 ∧ e i1 = v1 ∧ e i2 = v2 ∧ e i3 = v3 ∧ e i4 = v4 ∧ e i5 = v5 ∧ e i6 = v6 ∧ e i7 = v7 ∧ e i8 = v8 → aCode P O c Q e σ) : aCode P O c Q env σ := h _ ⟨h0, h1, h2, h3, h4, h5, h6, h7, h8⟩
theorem comp10 (i0 i1 i2 i3 i4 i5 i6 i7 i8 i9 : Nat) {v0 v1 v2 v3 v4 v5 v6 v7 v8 v9 : AV} (h0 : env i0 = v0) (h1 : env i1 = v1) (h2 : env i2 = v2) (h3 : env i3 = v3) (h4 : env i4 = v4) (h5 : env i5 = v5) (h6 : env i6 = v6) (h7 : env i7 = v7) (h8 : env i8 = v8) (h9 : env i9 = v9) (h : ∀ e : Env, e i0 = v0 ∧ e i1 = v1 ∧ e i2 = v2 ∧ e i3 = v3 ∧ e i4 = v4 ∧ e i5 = v5 ∧ e i6 = v6 ∧ e i7 = v7 ∧ e i8 = v8 ∧ e i9 = v9 → aCode P O c Q e σ) : aCode P O c Q env σ := h _ ⟨h0, h1, h2, h3, h4, h5, h6, h7, h8, h9⟩
theorem comp11 (i0 i1 i2 i3 i4 i5 i6 i7 i8 i9 i10 : Nat) {v0 v1 v2 v3 v4 v5 v6 v7 v8 v9 v10 : AV} (h0 : env i0 = v0) (h1 : env i1 = v1) (h2 : env i2 = v2) (h3 : env i3 = v3) (h4 : env i4 = v4) (h5 : env i5 = v5) (h6 : env i6 = v6) (h7 : env i7 = v7) (h8 : env i8 = v8) (h9 : env i9 = v9) (h10 : env i10 = v10) (h : ∀ e : Env, e i0 = v0 ∧ e i1 = v1 ∧ e i2 = v2 ∧ e i3 = v3 ∧ e i4 = v4 ∧ e i5 = v5 ∧ e i6 = v6 ∧ e i7 = v7 ∧ e i8 = v8 ∧ e i9 = v9 ∧ e i10 = v10 → aCode P O c Q e σ) : aCode P O c Q env σ := h _ ⟨h0, h1, h2, h3, h4, h5, h6, h7, h8, h9, h10⟩
theorem comp12 (i0 i1 i2 i3 i4 i5 i6 i7 i8 i9 i10 i11 : Nat) {v0 v1 v2 v3 v4 v5 v6 v7 v8 v9 v10 v11 : AV} (h0 : env i0 = v0) (h1 : env i1 = v1) (h2 : env i2 = v2) (h3 : env i3 = v3) (h4 : env i4 = v4) (h5 : env i5 = v5) (h6 : env i6 = v6) (h7 : env i7 = v7) (h8 : env i8 = v8) (h9 : env i9 = v9) (h10 : env i10 = v10) (h11 : env i11 = v11) (h : ∀ e : Env, e i0 = v0 ∧ e i1 = v1 ∧ e i2 = v2 ∧ e i3 = v3 ∧ e i4 = v4 ∧ e i5 = v5 ∧ e i6 = v6 ∧ e i7 = v7 ∧ e i8 = v8 ∧ e i9 = v9 ∧ e i10 = v10 ∧ e i11 = v11 → aCode P O c Q e σ) : aCode P O c Q env σ := h _ ⟨h0, h1, h2, h3, h4, h5, h6, h7, h8, h9, h10, h11⟩
theorem comp13 (i0 i1 i2 i3 i4 i5 i6 i7 i8 i9 i10 i11 i12 : Nat) {v0 v1 v2 v3 v4 v5 v6 v7 v8 v9 v10 v11 v12 : AV} (h0 : env i0 = v0) (h1 : env i1 = v1) (h2 : env i2 = v2) (h3 : env i3 = v3) (h4 : env i4 = v4) (h5 : env i5 = v5) (h6 : env i6 = v6) (h7 : env i7 = v7) (h8 : env i8 = v8) (h9 : env i9 = v9) (h10 : env i10 = v10) (h11 : env i11 = v11) (h12 : env i12 = v12) (h : ∀ e : Env, e i0 = v0 ∧ e i1 = v1 ∧ e i2 = v2 ∧ e i3 = v3 ∧ e i4 = v4 ∧ e i5 = v5 ∧ e i6 = v6 ∧ e i7 = v7 ∧ e i8 = v8 ∧ e i9 = v9 ∧ e i10 = v10 ∧ e i11 = v11 ∧ e i12 = v12 → aCode P O c Q e σ) : aCode P O c Q env σ := h _ ⟨h0, h1, h2, h3, h4, h5, h6, h7, h8, h9, h10, h11, h12⟩
theorem comp14 (i0 i1 i2 i3 i4 i5 i6 i7 i8 i9 i10 i11 i12 i13 : Nat) {v0 v1 v2 v3 v4 v5 v6 v7 v8 v9 v10 v11 v12 v13 : AV} (h0 : env i0 = v0) (h1 : env i1 = v1) (h2 : env i2 = v2) (h3 : env i3 = v3) (h4 : env i4 = v4) (h5 : env i5 = v5) (h6 : env i6 = v6) (h7 : env i7 = v7) (h8 : env i8 = v8) (h9 : env i9 = v9) (h10 : env i10 = v10) (h11 : env i11 = v11) (h12 : env i12 = v12) (h13 : env i13 = v13) (h : ∀ e : Env, e i0 = v0 ∧ e i1 = v1 ∧ e i2 = v2 ∧ e i3 = v3 ∧ e i4 = v4 ∧ e i5 = v5 ∧ e i6 = v6 ∧ e i7 = v7 ∧ e i8 = v8 ∧ e i9 = v9 ∧ e i10 = v10 ∧ e i11 = v11 ∧ e i12 = v12 ∧ e i13 = v13 → aCode P O c Q e σ) : aCode P O c Q env σ := h _ ⟨h0, h1, h2, h3, h4, h5, h6, h7, h8, h9, h10, h11, h12, h13⟩
theorem comp15 (i0 i1 i2 i3 i4 i5 i6 i7 i8 i9 i10 i11 i12 i13 i14 : Nat) {v0 v1 v2 v3 v4 v5 v6 v7 v8 v9 v10 v11 v12 v13 v14 : AV} (h0 : env i0 = v0) (h1 : env i1 = v1) (h2 : env i2 = v2) (h3 : env i3 = v3) (h4 : env i4 = v4) (h5 : env i5 = v5) (h6 : env i6 = v6) (h7 : env i7 = v7) (h8 : env i8 = v8) (h9 : env i9 = v9) (h10 : env i10 = v10) (h11 : env i11 = v11) (h12 : env i12 = v12) (h13 : env i13 = v13) (h14 : env i14 = v14) (h : ∀ e : Env, e i0 = v0 ∧ e i1 = v1 ∧ e i2 = v2 ∧ e i3 = v3 ∧ e i4 = v4 ∧ e i5 = v5 ∧ e i6 = v6 ∧ e i7 = v7 ∧ e i8 = v8 ∧ e i9 = v9 ∧ e i10 = v10 ∧ e i11 = v11 ∧ e i12 = v12 ∧ e i13 = v13 ∧ e i14 = v14 → aCode P O c Q e σ) : aCode P O c Q env σ := h _ ⟨h0, h1, h2, h3, h4, h5, h6, h7, h8, h9, h10, h11, h12, h13, h14⟩
theorem comp16 (i0 i1 i2 i3 i4 i5 i6 i7 i8 i9 i10 i11 i12 i13 i14 i15 : Nat) {v0 v1 v2 v3 v4 v5 v6 v7 v8 v9 v10 v11 v12 v13 v14 v15 : AV} (h0 : env i0 = v0) (h1 : env i1 = v1) (h2 : env i2 = v2) (h3 : env i3 = v3) (h4 : env i4 = v4) (h5 : env i5 = v5) (h6 : env i6 = v6) (h7 : env i7 = v7) (h8 : env i8 = v8) (h9 : env i9 = v9) (h10 : env i10 = v10) (h11 : env i11 = v11) (h12 : env i12 = v12) (h13 : env i13 = v13) (h14 : env i14 = v14) (h15 : env i15 = v15) (h : ∀ e : Env, e i0 = v0 ∧ e i1 = v1 ∧ e i2 = v2 ∧ e i3 = v3 ∧ e i4 = v4 ∧ e i5 = v5 ∧ e i6 = v6 ∧ e i7 = v7 ∧ e i8 = v8 ∧ e i9 = v9 ∧ e i10 = v10 ∧ e i11 = v11 ∧ e i12 = v12 ∧ e i13 = v13 ∧ e i14 = v14 ∧ e i15 = v15 → aCode P O c Q e σ) : aCode P O c Q env σ := h _ ⟨h0, h1, h2, h3, h4, h5, h6, h7, h8, h9, h10, h11, h12, h13, h14, h15⟩
theorem comp17 (i0 i1 i2 i3 i4 i5 i6 i7 i8 i9 i10 i11 i12 i13 i14 i15 i16 : Nat) {v0 v1 v2 v3 v4 v5 v6 v7 v8 v9 v10 v11 v12 v13 v14 v15 v16 : AV} (h0 : env i0 = v0) (h1 : env i1 = v1) (h2 : env i2 = v2) (h3 : env i3 = v3) (h4 : env i4 = v4) (h5 : env i5 = v5) (h6 : env i6 = v6) (h7 : env i7 = v7) (h8 : env i8 = v8) (h9 : env i9 = v9) (h10 : env i10 = v10) (h11 : env i11 = v11) (h12 : env i12 = v12) (h13 : env i13 = v13) (h14 : env i14 = v14) (h15 : env i15 = v15) (h16 : env i16 = v16) (h : ∀ e : Env, e i0 = v0 ∧ e i1 = v1 ∧ e i2 = v2 ∧ e i3 = v3 ∧ e i4 = v4 ∧ e i5 = v5 ∧ e i6 = v6 ∧ e i7 = v7 ∧ e i8 = v8 ∧ e i9 = v9 ∧ e i10 = v10 ∧ e i11 = v11 ∧ e i12 = v12 ∧ e i13 = v13 ∧ e i14 = v14 ∧ e i15 = v15 ∧ e i16 = v16 → aCode P O c Q e σ) : aCode P O c Q env σ := h _ ⟨h0, h1, h2, h3, h4, h5, h6, h7, h8, h9, h10, h11, h12, h13, h14, h15, h16⟩
theorem comp18 (i0 i1 i2 i3 i4 i5 i6 i7 i8 i9 i10 i11 i12 i13 i14 i15 i16 i17 : Nat) {v0 v1 v2 v3 v4 v5 v6 v7 v8 v9 v10 v11 v12 v13 v14 v15 v16 v17 : AV} (h0 : env i0 = v0) (h1 : env i1 = v1) (h2 : env i2 = v2) (h3 : env i3 = v3) (h4 : env i4 = v4) (h5 : env i5 = v5) (h6 : env i6 = v6) (h7 : env i7 = v7) (h8 : env i8 = v8) (h9 : env i9 = v9) (h10 : env i10 = v10) (h11 : env i11 = v11) (h12 : env i12 = v12) (h13 : env i13 = v13) (h14 : env i14 = v14) (h15 : env i15 = v15) (h16 : env i16 = v16) (h17 : env i17 = v17) (h : ∀ e : Env, e i0 = v0 ∧ e i1 = v1 ∧ e i2 = v2 ∧ e i3 = v3 ∧ e i4 = v4 ∧ e i5 = v5 ∧ e i6 = v6 ∧ e i7 = v7 ∧ e i8 = v8 ∧ e i9 = v9 ∧ e i10 = v10 ∧ e i11 = v11 ∧ e i12 = v12 ∧ e i13 = v13 ∧ e i14 = v14 ∧ e i15 = v15 ∧ e i16 = v16 ∧ e i17 = v17 → aCode P O c Q e σ) : aCode P O c Q env σ := h _ ⟨h0, h1, h2, h3, h4, h5, h6, h7, h8, h9, h10, h11, h12, h13, h14, h15, h16, h17⟩
theorem comp19 (i0 i1 i2 i3 i4 i5 i6 i7 i8 i9 i10 i11 i12 i13 i14 i15 i16 i17 i18 : Nat) {v0 v1 v2 v3 v4 v5 v6 v7 v8 v9 v10 v11 v12 v13 v14 v15 v16 v17 v18 : AV} (h0 : env i0 = v0) (h1 : env i1 = v1) (h2 : env i2 = v2) (h3 : env i3 = v3) (h4 : env i4 = v4) (h5 : env i5 = v5) (h6 : env i6 = v6) (h7 : env i7 = v7) (h8 : env i8 = v8) (h9 : env i9 = v9) (h10 : env i10 = v10) (h11 : env i11 = v11) (h12 : env i12 = v12) (h13 : env i13 = v13) (h14 : env i14 = v14) (h15 : env i15 = v15) (h16 : env i16 = v16) (h17 : env i17 = v17) (h18 : env i18 = v18) (h : ∀ e : Env, e i0 = v0 ∧ e i1 = v1 ∧ e i2 = v2 ∧ e i3 = v3 ∧ e i4 = v4 ∧ e i5 = v5 ∧ e i6 = v6 ∧ e i7 = v7 ∧ e i8 = v8 ∧ e i9 = v9 ∧ e i10 = v10 ∧ e i11 = v11 ∧ e i12 = v12 ∧ e i13 = v13 ∧ e i14 = v14 ∧ e i15 = v15 ∧ e i16 = v16 ∧ e i17 = v17 ∧ e i18 = v18 → aCode P O c Q e σ) : aCode P O c Q env σ := h _ ⟨h0, h1, h2, h3, h4, h5, h6, h7, h8, h9, h10, h11, h12, h13, h14, h15, h16, h17, h18⟩
theorem comp20 (i0 i1 i2 i3 i4 i5 i6 i7 i8 i9 i10 i11 i12 i13 i14 i15 i16 i17 i18 i19 : Nat) {v0 v1 v2 v3 v4 v5 v6 v7 v8 v9 v10 v11 v12 v13 v14 v15 v16 v17 v18 v19 : AV} (h0 : env i0 = v0) (h1 : env i1 = v1) (h2 : env i2 = v2) (h3 : env i3 = v3) (h4 : env i4 = v4) (h5 : env i5 = v5) (h6 : env i6 = v6) (h7 : env i7 = v7) (h8 : env i8 = v8) (h9 : env i9 = v9) (h10 : env i10 = v10) (h11 : env i11 = v11) (h12 : env i12 = v12) (h13 : env i13 = v13) (h14 : env i14 = v14) (h15 : env i15 = v15) (h16 : env i16 = v16) (h17 : env i17 = v17) (h18 : env i18 = v18) (h19 : env i19 = v19) (h : ∀ e : Env, e i0 = v0 ∧ e i1 = v1 ∧ e i2 = v2 ∧ e i3 = v3 ∧ e i4 = v4 ∧ e i5 = v5 ∧ e i6 = v6 ∧ e i7 = v7 ∧ e i8 = v8 ∧ e i9 = v9 ∧ e i10 = v10 ∧ e i11 = v11 ∧ e i12 = v12 ∧ e i13 = v13 ∧ e i14 = v14 ∧ e i15 = v15 ∧ e i16 = v16 ∧ e i17 = v17 ∧ e i18 = v18 ∧ e i19 = v19 → aCode P O c Q e σ) : aCode P O c Q env σ := h _ ⟨h0, h1, h2, h3, h4, h5, h6, h7, h8, h9, h10, h11, h12, h13, h14, h15, h16, h17, h18, h19⟩
theorem comp21 (i0 i1 i2 i3 i4 i5 i6 i7 i8 i9 i10 i11 i12 i13 i14 i15 i16 i17 i18 i19 i20 : Nat) {v0 v1 v2 v3 v4 v5 v6 v7 v8 v9 v10 v11 v12 v13 v14 v15 v16 v17 v18 v19 v20 : AV} (h0 : env i0 = v0) (h1 : env i1 = v1) (h2 : env i2 = v2) (h3 : env i3 = v3) (h4 : env i4 = v4) (h5 : env i5 = v5) (h6 : env i6 = v6) (h7 : env i7 = v7) (h8 : env i8 = v8) (h9 : env i9 = v9) (h10 : env i10 = v10) (h11 : env i11 = v11) (h12 : env i12 = v12) (h13 : env i13 = v13) (h14 : env i14 = v14) (h15 : env i15 = v15) (h16 : env i16 = v16) (h17 : env i17 = v17) (h18 : env i18 = v18) (h19 : env i19 = v19) (h20 : env i20 = v20) (h : ∀ e : Env, e i0 = v0 ∧ e i1 = v1 ∧ e i2 = v2 ∧ e i3 = v3 ∧ e i4 = v4 ∧ e i5 = v5 ∧ e i6 = v6 ∧ e i7 = v7 ∧ e i8 = v8 ∧ e i9 = v9 ∧ e i10 = v10 ∧ e i11 = v11 ∧ e i12 = v12 ∧ e i13 = v13 ∧ e i14 = v14 ∧ e i15 = v15 ∧ e i16 = v16 ∧ e i17 = v17 ∧ e i18 = v18 ∧ e i19 = v19 ∧ e i20 = v20 → aCode P O c Q e σ) : aCode P O c Q env σ := h _ ⟨h0, h1, h2, h3, h4, h5, h6, h7, h8, h9, h10, h11, h12, h13, h14, h15, h16, h17, h18, h19, h20⟩
theorem comp22 (i0 i1 i2 i3 i4 i5 i6 i7 i8 i9 i10 i11 i12 i13 i14 i15 i16 i17 i18 i19 i20 i21 : Nat) {v0 v1 v2 v3 v4 v5 v6 v7 v8 v9 v10 v11 v12 v13 v14 v15 v16 v17 v18 v19 v20 v21 : AV} (h0 : env i0 = v0) (h1 : env i1 = v1) (h2 : env i2 = v2) (h3 : env i3 = v3) (h4 : env i4 = v4) (h5 : env i5 = v5) (h6 : env i6 = v6) (h7 : env i7 = v7) (h8 : env i8 = v8) (h9 : env i9 = v9) (h10 : env i10 = v10) (h11 : env i11 = v11) (h12 : env i12 = v12) (h13 : env i13 = v13) (h14 : env i14 = v14) (h15 : env i15 = v15) (h16 : env i16 = v16) (h17 : env i17 = v17) (h18 : env i18 = v18) (h19 : env i19 = v19) (h20 : env i20 = v20) (h21 : env i21 = v21) (h : ∀ e : Env, e i0 = v0 ∧ e i1 = v1 ∧ e i2 = v2 ∧ e i3 = v3 ∧ e i4 = v4 ∧ e i5 = v5 ∧ e i6 = v6 ∧ e i7 = v7 ∧ e i8 = v8 ∧ e i9 = v9 ∧ e i10 = v10 ∧ e i11 = v11 ∧ e i12 = v12 ∧ e i13 = v13 ∧ e i14 = v14 ∧ e i15 = v15 ∧ e i16 = v16 ∧ e i17 = v17 ∧ e i18 = v18 ∧ e i19 = v19 ∧ e i20 = v20 ∧ e i21 = v21 → aCode P O c Q e σ) : aCode P O c Q env σ := h _ ⟨h0, h1, h2, h3, h4, h5, h6, h7, h8, h9, h10, h11, h12, h13, h14, h15, h16, h17, h18, h19, h20, h21⟩
theorem comp23 (i0 i1 i2 i3 i4 i5 i6 i7 i8 i9 i10 i11 i12 i13 i14 i15 i16 i17 i18 i19 i20 i21 i22 : Nat) {v0 v1 v2 v3 v4 v5 v6 v7 v8 v9 v10 v11 v12 v13 v14 v15 v16 v17 v18 v19 v20 v21 v22 : AV} (h0 : env i0 = v0) (h1 : env i1 = v1) (h2 : env i2 = v2) (h3 : env i3 = v3) (h4 : env i4 = v4) (h5 : env i5 = v5) (h6 : env i6 = v6) (h7 : env i7 = v7) (h8 : env i8 = v8) (h9 : env i9 = v9) (h10 : env i10 = v10) (h11 : env i11 = v11) (h12 : env i12 = v12) (h13 : env i13 = v13) (h14 : env i14 = v14) (h15 : env i15 = v15) (h16 : env i16 = v16) (h17 : env i17 = v17) (h18 : env i18 = v18) (h19 : env i19 = v19) (h20 : env i20 = v20) (h21 : env i21 = v21) (h22 : env i22 = v22) (h : ∀ e : Env, e i0 = v0 ∧ e i1 = v1 ∧ e i2 = v2 ∧ e i3 = v3 ∧ e i4 = v4 ∧ e i5 = v5 ∧ e i6 = v6 ∧ e i7 = v7 ∧ e i8 = v8 ∧ e i9 = v9 ∧ e i10 = v10 ∧ e i11 = v11 ∧ e i12 = v12 ∧ e i13 = v13 ∧ e i14 = v14 ∧ e i15 = v15 ∧ e i16 = v16 ∧ e i17 = v17 ∧ e i18 = v18 ∧ e i19 = v19 ∧ e i20 = v20 ∧ e i21 = v21 ∧ e i22 = v22 → aCode P O c Q e σ) : aCode P O c Q env σ := h _ ⟨h0, h1, h2, h3, h4, h5, h6, h7, h8, h9, h10, h11, h12, h13, h14, h15, h16, h17, h18, h19, h20, h21, h22⟩
theorem comp24 (i0 i1 i2 i3 i4 i5 i6 i7 i8 i9 i10 i11 i12 i13 i14 i15 i16 i17 i18 i19 i20 i21 i22 i23 : Nat) {v0 v1 v2 v3 v4 v5 v6 v7 v8 v9 v10 v11 v12 v13 v14 v15 v16 v17 v18 v19 v20 v21 v22 v23 : AV} (h0 : env i0 = v0) (h1 : env i1 = v1) (h2 : env i2 = v2) (h3 : env i3 = v3) (h4 : env i4 = v4) (h5 : env i5 = v5) (h6 : env i6 = v6) (h7 : env i7 = v7) (h8 : env i8 = v8) (h9 : env i9 = v9) (h10 : env i10 = v10) (h11 : env i11 = v11) (h12 : env i12 = v12) (h13 : env i13 = v13) (h14 : env i14 = v14) (h15 : env i15 = v15) (h16 : env i16 = v16) (h17 : env i17 = v17) (h18 : env i18 = v18) (h19 : env i19 = v19) (h20 : env i20 = v20) (h21 : env i21 = v21) (h22 : env i22 = v22) (h23 : env i23 = v23) (h : ∀ e : Env, e i0 = v0 ∧ e i1 = v1 ∧ e i2 = v2 ∧ e i3 = v3 ∧ e i4 = v4 ∧ e i5 = v5 ∧ e i6 = v6 ∧ e i7 = v7 ∧ e i8 = v8 ∧ e i9 = v9 ∧ e i10 = v10 ∧ e i11 = v11 ∧ e i12 = v12 ∧ e i13 = v13 ∧ e i14 = v14 ∧ e i15 = v15 ∧ e i16 = v16 ∧ e i17 = v17 ∧ e i18 = v18 ∧ e i19 = v19 ∧ e i20 = v20 ∧ e i21 = v21 ∧ e i22 = v22 ∧ e i23 = v23 → aCode P O c Q e σ) : aCode P O c Q env σ := h _ ⟨h0, h1, h2, h3, h4, h5, h6, h7, h8, h9, h10, h11, h12, h13, h14, h15, h16, h17, h18, h19, h20, h21, h22, h23⟩
theorem comp25 (i0 i1 i2 i3 i4 i5 i6 i7 i8 i9 i10 i11 i12 i13 i14 i15 i16 i17 i18 i19 i20 i21 i22 i23 i24 : Nat) {v0 v1 v2 v3 v4 v5 v6 v7 v8 v9 v10 v11 v12 v13 v14 v15 v16 v17 v18 v19 v20 v21 v22 v23 v24 : AV} (h0 : env i0 = v0) (h1 : env i1 = v1) (h2 : env i2 = v2) (h3 : env i3 = v3) (h4 : env i4 = v4) (h5 : env i5 = v5) (h6 : env i6 = v6) (h7 : env i7 = v7) (h8 : env i8 = v8) (h9 : env i9 = v9) (h10 : env i10 = v10) (h11 : env i11 = v11) (h12 : env i12 = v12) (h13 : env i13 = v13) (h14 : env i14 = v14) (h15 : env i15 = v15) (h16 : env i16 = v16) (h17 : env i17 = v17) (h18 : env i18 = v18) (h19 : env i19 = v19) (h20 : env i20 = v20) (h21 : env i21 = v21) (h22 : env i22 = v22) (h23 : env i23 = v23) (h24 : env i24 = v24) (h : ∀ e : Env, e i0 = v0 ∧ e i1 = v1 ∧ e i2 = v2 ∧ e i3 = v3 ∧ e i4 = v4 ∧ e i5 = v5 ∧ e i6 = v6 ∧ e i7 = v7 ∧ e i8 = v8 ∧ e i9 = v9 ∧ e i10 = v10 ∧ e i11 = v11 ∧ e i12 = v12 ∧ e i13 = v13 ∧ e i14 = v14 ∧ e i15 = v15 ∧ e i16 = v16 ∧ e i17 = v17 ∧ e i18 = v18 ∧ e i19 = v19 ∧ e i20 = v20 ∧ e i21 = v21 ∧ e i22 = v22 ∧ e i23 = v23 ∧ e i24 = v24 → aCode P O c Q e σ) : aCode P O c Q env σ := h _ ⟨h0, h1, h2, h3, h4, h5, h6, h7, h8, h9, h10, h11, h12, h13, h14, h15, h16, h17, h18, h19, h20, h21, h22, h23, h24⟩
theorem comp26 (i0 i1 i2 i3 i4 i5 i6 i7 i8 i9 i10 i11 i12 i13 i14 i15 i16 i17 i18 i19 i20 i21 i22 i23 i24 i25 : Nat) {v0 v1 v2 v3 v4 v5 v6 v7 v8 v9 v10 v11 v12 v13 v14 v15 v16 v17 v18 v19 v20 v21 v22 v23 v24 v25 : AV} (h0 : env i0 = v0) (h1 : env i1 = v1) (h2 : env i2 = v2) (h3 : env i3 = v3) (h4 : env i4 = v4) (h5 : env i5 = v5) (h6 : env i6 = v6) (h7 : env i7 = v7) (h8 : env i8 = v8) (h9 : env i9 = v9) (h10 : env i10 = v10) (h11 : env i11 = v11) (h12 : env i12 = v12) (h13 : env i13 = v13) (h14 : env i14 = v14) (h15 : env i15 = v15) (h16 : env i16 = v16) (h17 : env i17 = v17) (h18 : env i18 = v18) (h19 : env i19 = v19) (h20 : env i20 = v20) (h21 : env i21 = v21) (h22 : env i22 = v22) (h23 : env i23 = v23) (h24 : env i24 = v24) (h25 : env i25 = v25) (h : ∀ e : Env, e i0 = v0 ∧ e i1 = v1 ∧ e i2 = v2 ∧ e i3 = v3 ∧ e i4 = v4 ∧ e i5 = v5 ∧ e i6 = v6 ∧ e i7 = v7 ∧ e i8 = v8 ∧ e i9 = v9 ∧ e i10 = v10 ∧ e i11 = v11 ∧ e i12 = v12 ∧ e i13 = v13 ∧ e i14 = v14 ∧ e i15 = v15 ∧ e i16 = v16 ∧ e i17 = v17 ∧ e i18 = v18 ∧ e i19 = v19 ∧ e i20 = v20 ∧ e i21 = v21 ∧ e i22 = v22 ∧ e i23 = v23 ∧ e i24 = v24 ∧ e i25 = v25 → aCode P O c Q e σ) : aCode P O c Q env σ := h _ ⟨h0, h1, h2, h3, h4, h5, h6, h7, h8, h9, h10, h11, h12, h13, h14, h15, h16, h17, h18, h19, h20, h21, h22, h23, h24, h25⟩
theorem comp27 (i0 i1 i2 i3 i4 i5 i6 i7 i8 i9 i10 i11 i12 i13 i14 i15 i16 i17 i18 i19 i20 i21 i22 i23 i24 i25 i26 : Nat) {v0 v1 v2 v3 v4 v5 v6 v7 v8 v9 v10 v11 v12 v13 v14 v15 v16 v17 v18 v19 v20 v21 v22 v23 v24 v25 v26 : AV} (h0 : env i0 = v0) (h1 : env i1 = v1) (h2 : env i2 = v2) (h3 : env i3 = v3) (h4 : env i4 = v4) (h5 : env i5 = v5) (h6 : env i6 = v6) (h7 : env i7 = v7) (h8 : env i8 = v8) (h9 : env i9 = v9) (h10 : env i10 = v10) (h11 : env i11 = v11) (h12 : env i12 = v12) (h13 : env i13 = v13) (h14 : env i14 = v14) (h15 : env i15 = v15) (h16 : env i16 = v16) (h17 : env i17 = v17) (h18 : env i18 = v18) (h19 : env i19 = v19) (h20 : env i20 = v20) (h21 : env i21 = v21) (h22 : env i22 = v22) (h23 : env i23 = v23) (h24 : env i24 = v24) (h25 : env i25 = v25) (h26 : env i26 = v26) (h : ∀ e : Env, e i0 = v0 ∧ e i1 = v1 ∧ e i2 = v2 ∧ e i3 = v3 ∧ e i4 = v4 ∧ e i5 = v5 ∧ e i6 = v6 ∧ e i7 = v7 ∧ e i8 = v8 ∧ e i9 = v9 ∧ e i10 = v10 ∧ e i11 = v11 ∧ e i12 = v12 ∧ e i13 = v13 ∧ e i14 = v14 ∧ e i15 = v15 ∧ e i16 = v16 ∧ e i17 = v17 ∧ e i18 = v18 ∧ e i19 = v19 ∧ e i20 = v20 ∧ e i21 = v21 ∧ e i22 = v22 ∧ e i23 = v23 ∧ e i24 = v24 ∧ e i25 = v25 ∧ e i26 = v26 → aCode P O c Q e σ) : aCode P O c Q env σ := h _ ⟨h0, h1, h2, h3, h4, h5, h6, h7, h8, h9, h10, h11, h12, h13, h14, h15, h16, h17, h18, h19, h20, h21, h22, h23, h24, h25, h26⟩
theorem comp28 (i0 i1 i2 i3 i4 i5 i6 i7 i8 i9 i10 i11 i12 i13 i14 i15 i16 i17 i18 i19 i20 i21 i22 i23 i24 i25 i26 i27 : Nat) {v0 v1 v2 v3 v4 v5 v6 v7 v8 v9 v10 v11 v12 v13 v14 v15 v16 v17 v18 v19 v20 v21 v22 v23 v24 v25 v26 v27 : AV} (h0 : env i0 = v0) (h1 : env i1 = v1) (h2 : env i2 = v2) (h3 : env i3 = v3) (h4 : env i4 = v4) (h5 : env i5 = v5) (h6 : env i6 = v6) (h7 : env i7 = v7) (h8 : env i8 = v8) (h9 : env i9 = v9) (h10 : env i10 = v10) (h11 : env i11 = v11) (h12 : env i12 = v12) (h13 : env i13 = v13) (h14 : env i14 = v14) (h15 : env i15 = v15) (h16 : env i16 = v16) (h17 : env i17 = v17) (h18 : env i18 = v18) (h19 : env i19 = v19) (h20 : env i20 = v20) (h21 : env i21 = v21) (h22 : env i22 = v22) (h23 : env i23 = v23) (h24 : env i24 = v24) (h25 : env i25 = v25) (h26 : env i26 = v26) (h27 : env i27 = v27) (h : ∀ e : Env, e i0 = v0 ∧ e i1 = v1 ∧ e i2 = v2 ∧ e i3 = v3 ∧ e i4 = v4 ∧ e i5 = v5 ∧ e i6 = v6 ∧ e i7 = v7 ∧ e i8 = v8 ∧ e i9 = v9 ∧ e i10 = v10 ∧ e i11 = v11 ∧ e i12 = v12 ∧ e i13 = v13 ∧ e i14 = v14 ∧ e i15 = v15 ∧ e i16 = v16 ∧ e i17 = v17 ∧ e i18 = v18 ∧ e i19 = v19 ∧ e i20 = v20 ∧ e i21 = v21 ∧ e i22 = v22 ∧ e i23 = v23 ∧ e i24 = v24 ∧ e i25 = v25 ∧ e i26 = v26 ∧ e i27 = v27 → aCode P O c Q e σ) : aCode P O c Q env σ := h _ ⟨h0, h1, h2, h3, h4, h5, h6, h7, h8, h9, h10, h11, h12, h13, h14, h15, h16, h17, h18, h19, h20, h21, h22, h23, h24, h25, h26, h27⟩
theorem comp29 (i0 i1 i2 i3 i4 i5 i6 i7 i8 i9 i10 i11 i12 i13 i14 i15 i16 i17 i18 i19 i20 i21 i22 i23 i24 i25 i26 i27 i28 : Nat) {v0 v1 v2 v3 v4 v5 v6 v7 v8 v9 v10 v11 v12 v13 v14 v15 v16 v17 v18 v19 v20 v21 v22 v23 v24 v25 v26 v27 v28 : AV} (h0 : env i0 = v0) (h1 : env i1 = v1) (h2 : env i2 = v2) (h3 : env i3 = v3) (h4 : env i4 = v4) (h5 : env i5 = v5) (h6 : env i6 = v6) (h7 : env i7 = v7) (h8 : env i8 = v8) (h9 : env i9 = v9) (h10 : env i10 = v10) (h11 : env i11 = v11) (h12 : env i12 = v12) (h13 : env i13 = v13) (h14 : env i14 = v14) (h15 : env i15 = v15) (h16 : env i16 = v16) (h17 : env i17 = v17) (h18 : env i18 = v18) (h19 : env i19 = v19) (h20 : env i20 = v20) (h21 : env i21 = v21) (h22 : env i22 = v22) (h23 : env i23 = v23) (h24 : env i24 = v24) (h25 : env i25 = v25) (h26 : env i26 = v26) (h27 : env i27 = v27) (h28 : env i28 = v28) (h : ∀ e : Env, e i0 = v0 ∧ e i1 = v1 ∧ e i2 = v2 ∧ e i3 = v3 ∧ e i4 = v4 ∧ e i5 = v5 ∧ e i6 = v6 ∧ e i7 = v7 ∧ e i8 = v8 ∧ e i9 = v9 ∧ e i10 = v10 ∧ e i11 = v11 ∧ e i12 = v12 ∧ e i13 = v13 ∧ e i14 = v14 ∧ e i15 = v15 ∧ e i16 = v16 ∧ e i17 = v17 ∧ e i18 = v18 ∧ e i19 = v19 ∧ e i20 = v20 ∧ e i21 = v21 ∧ e i22 = v22 ∧ e i23 = v23 ∧ e i24 = v24 ∧ e i25 = v25 ∧ e i26 = v26 ∧ e i27 = v27 ∧ e i28 = v28 → aCode P O c Q e σ) : aCode P O c Q env σ := h _ ⟨h0, h1, h2, h3, h4, h5, h6, h7, h8, h9, h10, h11, h12, h13, h14, h15, h16, h17, h18, h19, h20, h21, h22, h23, h24, h25, h26, h27, h28⟩
theorem comp30 (i0 i1 i2 i3 i4 i5 i6 i7 i8 i9 i10 i11 i12 i13 i14 i15 i16 i17 i18 i19 i20 i21 i22 i23 i24 i25 i26 i27 i28 i29 : Nat) {v0 v1 v2 v3 v4 v5 v6 v7 v8 v9 v10 v11 v12 v13 v14 v15 v16 v17 v18 v19 v20 v21 v22 v23 v24 v25 v26 v27 v28 v29 : AV} (h0 : env i0 = v0) (h1 : env i1 = v1) (h2 : env i2 = v2) (h3 : env i3 = v3) (h4 : env i4 = v4) (h5 : env i5 = v5) (h6 : env i6 = v6) (h7 : env i7 = v7) (h8 : env i8 = v8) (h9 : env i9 = v9) (h10 : env i10 = v10) (h11 : env i11 = v11) (h12 : env i12 = v12) (h13 : env i13 = v13) (h14 : env i14 = v14) (h15 : env i15 = v15) (h16 : env i16 = v16) (h17 : env i17 = v17) (h18 : env i18 = v18) (h19 : env i19 = v19) (h20 : env i20 = v20) (h21 : env i21 = v21) (h22 : env i22 = v22) (h23 : env i23 = v23) (h24 : env i24 = v24) (h25 : env i25 = v25) (h26 : env i26 = v26) (h27 : env i27 = v27) (h28 : env i28 = v28) (h29 : env i29 = v29) (h : ∀ e : Env, e i0 = v0 ∧ e i1 = v1 ∧ e i2 = v2 ∧ e i3 = v3 ∧ e i4 = v4 ∧ e i5 = v5 ∧ e i6 = v6 ∧ e i7 = v7 ∧ e i8 = v8 ∧ e i9 = v9 ∧ e i10 = v10 ∧ e i11 = v11 ∧ e i12 = v12 ∧ e i13 = v13 ∧ e i14 = v14 ∧ e i15 = v15 ∧ e i16 = v16 ∧ e i17 = v17 ∧ e i18 = v18 ∧ e i19 = v19 ∧ e i20 = v20 ∧ e i21 = v21 ∧ e i22 = v22 ∧ e i23 = v23 ∧ e i24 = v24 ∧ e i25 = v25 ∧ e i26 = v26 ∧ e i27 = v27 ∧ e i28 = v28 ∧ e i29 = v29 → aCode P O c Q e σ) : aCode P O c Q env σ := h _ ⟨h0, h1, h2, h3, h4, h5, h6, h7, h8, h9, h10, h11, h12, h13, h14, h15, h16, h17, h18, h19, h20, h21, h22, h23, h24, h25, h26, h27, h28, h29⟩
theorem res_tmp_ {t : Nat} {v : AV} (hv : env t = v) : aResult P env σ (.tmp t) = some v := congrArg some hv
theorem res_one_ {fn : Func} {x : ResultVar} {v : AV} {R : AV → Prop} (h : fn.results.toList = [x]) (hv : aResult P env σ x = some v) (hR : R v) : ∃ r, aResults P fn env σ r ∧ R r := ⟨v, res_one h hv, hR⟩
theorem res_two_ {fn : Func} {x y : ResultVar} {v u : AV} {R : AV → Prop} (h : fn.results.toList = [x, y]) (hv : aResult P env σ x = some v) (hu : aResult P env σ y = some u) (hR : R (.tup [v, u])) : ∃ r, aResults P fn env σ r ∧ R r := ⟨_, res_two h hv hu, hR⟩
theorem res_three_ {fn : Func} {x y z : ResultVar} {v u r : AV} {R : AV → Prop} (h : fn.results.toList = [x, y, z]) (hv : aResult P env σ x = some v) (hu : aResult P env σ y = some u) (hr : aResult P env σ z = some r) (hR : R (.tup [v, u, r])) : ∃ r, aResults P fn env σ r ∧ R r := ⟨_, res_three h hv hu hr, hR⟩
end
end Go.Proofs.Ytnmimignbgdfgaa
