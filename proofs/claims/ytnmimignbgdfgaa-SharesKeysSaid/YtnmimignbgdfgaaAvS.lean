/- Steps of a walk. -/
import Derived.Test.YtnmimignbgdfgaaAv9
namespace Go.Proofs.Ytnmimignbgdfgaa
open Go.RowKit
set_option maxRecDepth 100000
set_option linter.unusedVariables false
section
variable {P : Program} {O : Nat → Prop} {ops : Array Oper} {rest : List Oper} {env : Env} {σ : St} {K : Env → St → Prop} {d : Option Nat} {ty ty' t : TypeId} {pos : String} {af : Array Edge} {x y z : Operand}
theorem aOp_none {o : Oper} (hg : o.guard = none) : aOp P ops o env σ K = aVal P o (o.op.operands.toList.map (ev env)) σ (fun r σ' => K (env.put o.dst r) σ') := by
  unfold aOp Region.wanted
  rw [hg]
  rfl
theorem s_guard_on {op : Op} {j : Nat} {want : Bool} (hg : yieldedA ops env j = some want) (h : aOp P ops ⟨d, op, ty, pos, af, none⟩ env σ K) : aOp P ops ⟨d, op, ty, pos, af, some (j, want)⟩ env σ K := by
  rw [aOp_none rfl] at h
  have hw : Region.wanted ⟨d, op, ty, pos, af, some (j, want)⟩ (yieldedA ops env) = true := by simp [Region.wanted, hg]
  unfold aOp
  rw [if_pos hw]
  exact h
theorem s_guard_off {op : Op} {j : Nat} {want : Bool} (hg : yieldedA ops env j = some (!want)) (h : K (env.put d (.raw undef)) σ) : aOp P ops ⟨d, op, ty, pos, af, some (j, want)⟩ env σ K := by
  have hw : ¬ Region.wanted ⟨d, op, ty, pos, af, some (j, want)⟩ (yieldedA ops env) = true := by simp [Region.wanted, hg]
  unfold aOp
  rw [if_neg hw]
  exact h
theorem s_move {v : AV} (hx : ev env x = v) (h : K (env.put d v) σ) : aOp P ops ⟨d, .move x, ty, pos, af, none⟩ env σ K := by
  subst hx; rw [aOp_none rfl]; exact h
theorem s_assign {v : AV} (hx : ev env x = v) (h : K (env.put d v) σ) : aOp P ops ⟨d, .assign x, ty, pos, af, none⟩ env σ K := by
  subst hx; rw [aOp_none rfl]; exact h
theorem s_pick_t {v : AV} (hx : ev env x = .raw (.bool true)) (hy : ev env y = v) (h : K (env.put d v) σ) : aOp P ops ⟨d, .pick x y z, ty, pos, af, none⟩ env σ K := by
  subst hy; rw [aOp_none rfl]; exact ⟨true, by rw [hx]; simp, h⟩
theorem s_pick_f {v : AV} (hx : ev env x = .raw (.bool false)) (hy : ev env z = v) (h : K (env.put d v) σ) : aOp P ops ⟨d, .pick x y z, ty, pos, af, none⟩ env σ K := by
  subst hy; rw [aOp_none rfl]; exact ⟨false, by rw [hx]; simp, h⟩
theorem s_alloc {e : TypeId} {v : Value} (hz : zeroA P e = some v) (h : ∀ b, ¬ σ.used b → σ.blk b = none → K (env.put d (ptr b 0)) (σ.put b (.own e (AV.ofV v).cells))) : aOp P ops ⟨d, .alloc e, ty, pos, af, none⟩ env σ K := by
  rw [aOp_none rfl]; exact ⟨v, hz, h⟩
theorem s_box {e : TypeId} {v : AV} (hx : ev env x = v) (h : ∀ b, ¬ σ.used b → σ.blk b = none → K (env.put d (ptr b 0)) (σ.put b (.own e v.cells))) : aOp P ops ⟨d, .box e x, ty, pos, af, none⟩ env σ K := by
  subst hx; rw [aOp_none rfl]; exact h
theorem s_load {v r : AV} (hx : ev env x = v) (hl : aLoad P t σ v = some r) (h : K (env.put d r) σ) : aOp P ops ⟨d, .load t x, ty, pos, af, none⟩ env σ K := by
  subst hx; rw [aOp_none rfl]; exact ⟨r, hl, h⟩
theorem s_store {v u : AV} {σ' : St} (hx : ev env x = v) (hy : ev env y = u) (hl : aStore P t σ v u = some σ') (h : K (env.put d (.raw undef)) σ') : aOp P ops ⟨d, .store t x y, ty, pos, af, none⟩ env σ K := by
  subst hx hy; rw [aOp_none rfl]; exact ⟨σ', hl, h⟩
theorem s_nilCheck {v : AV} (hx : ev env x = v) (hs : isSome' v = true) (h : K (env.put d v) σ) : aOp P ops ⟨d, .nilCheck x, ty, pos, af, none⟩ env σ K := by
  subst hx; rw [aOp_none rfl]; exact ⟨hs, h⟩
theorem s_fieldAddr {f b o off n : Nat} {l : List (Nat × Option Nat × Option Bool)} {g : Option Bool} (hx : ev env x = ptr b o) (hl : structA P t = some l) (hf : l[f]? = some (off, some (n + 1), g)) (h : K (env.put d (ptr b (o + off))) σ) : aOp P ops ⟨d, .fieldAddr t x f, ty, pos, af, none⟩ env σ K := by
  rw [aOp_none rfl]
  show aVal P _ [ev env x] σ _
  rw [hx]
  refine ⟨l, off, n, g, hl, hf, ?_⟩
  rw [add_off_]
  exact h
theorem s_fieldAddr_e {f off n : Nat} {ad : Addr} {cells : List AV} {l : List (Nat × Option Nat × Option Bool)} {g : Option Bool} (hx : ev env x = .eptr ad cells) (hl : structA P t = some l) (hf : l[f]? = some (off, some (n + 1), g)) (h : K (env.put d (.eptr (ad.add off) (cells.drop off))) σ) : aOp P ops ⟨d, .fieldAddr t x f, ty, pos, af, none⟩ env σ K := by
  rw [aOp_none rfl]
  show aVal P _ [ev env x] σ _
  rw [hx]
  exact ⟨l, off, n, g, hl, hf, h⟩
theorem s_field {f off : Nat} {cells : List AV} {r : AV} {l : List (Nat × Option Nat × Option Bool)} {g : Option Bool} {n : Option Nat} (hx : ev env x = .agg cells) (hl : structA P t = some l) (hf : l[f]? = some (off, n, g)) (hc : cellsAt g n cells off = some r) (h : K (env.put d r) σ) : aOp P ops ⟨d, .field t x f, ty, pos, af, none⟩ env σ K := by
  rw [aOp_none rfl]
  show aVal P _ [ev env x] σ _
  rw [hx]
  exact ⟨l, off, n, g, r, hl, hf, hc, h⟩
theorem s_extract {i : Nat} {l : List AV} {r : AV} (hx : ev env x = .tup l) (hl : l[i]? = some r) (h : K (env.put d r) σ) : aOp P ops ⟨d, .extract x i, ty, pos, af, none⟩ env σ K := by
  rw [aOp_none rfl]
  show aVal P _ [ev env x] σ _
  rw [hx]
  exact ⟨r, hl, h⟩
theorem s_index {e : TypeId} {sz n c j : Nat} {ad : Addr} {cells : List AV} {k : IntKind} (hx : ev env x = .lst (some ad) n c cells) (hy : ev env y = .raw (.int k j)) (ht : sliceA P t = some e) (hs : sizeA P e = some sz) (hj : j < n) (h : K (env.put d (.eptr (ad.add (j * sz)) (cells.drop (j * sz)))) σ) : aOp P ops ⟨d, .indexAddr t x y, ty, pos, af, none⟩ env σ K := by
  rw [aOp_none rfl]
  show aVal P _ [ev env x, ev env y] σ _
  rw [hx, hy]
  exact ⟨e, sz, k, j, ht, hs, by simp, hj, h⟩
theorem s_build {parts : Array (Nat × Operand)} {v : Value} {pl : List (Nat × Nat)} {vs cells : List AV} (hv : parts.toList.map (fun p => ev env p.2) = vs) (hz : zeroA P t = some v) (hp : placesB P t = some pl) (hf : aFill (fun i => pl[i]?) (AV.ofV v).cells ((parts.toList.map (·.1)).zip vs) = some cells) (h : K (env.put d (.agg cells)) σ) : aOp P ops ⟨d, .build t parts, ty, pos, af, none⟩ env σ K := by
  rw [aOp_none rfl]
  refine ⟨v, pl, cells, hz, hp, ?_, h⟩
  have : (Op.build t parts).operands.toList.map (ev env) = vs := by rw [← hv]; simp [Op.operands]
  rw [this]
  exact hf
theorem s_buildSlice {n : Nat} {parts : Array (Nat × Operand)} {e : TypeId} {sz : Nat} {v : Value} {vs cells : List AV} (hv : parts.toList.map (fun p => ev env p.2) = vs) (ht : sliceA P t = some e) (hs : sizeA P e = some sz) (hz : zeroA P e = some v) (hzs : v.cells.size = sz) (hn : n * sz ≤ 16777216)
    (hf : aFill (fun i => some (i * sz, sz)) ((List.range (n * sz)).map fun i => .ofV (v.cells[i % sz]!)) ((parts.toList.map (·.1)).zip vs) = some cells)
    (h : ∀ b, ¬ σ.used b → σ.blk b = none → K (env.put d (.lst (some ⟨b, 0, none⟩) n n cells)) (σ.put b (.tail e (n * sz) (n * sz)))) : aOp P ops ⟨d, .buildSlice t n parts, ty, pos, af, none⟩ env σ K := by
  rw [aOp_none rfl]
  have : (Op.buildSlice t n parts).operands.toList.map (ev env) = vs := by rw [← hv]; simp [Op.operands]
  refine ⟨e, sz, v, cells, ht, hs, hz, hzs, hn, ?_, h⟩
  rw [this]
  exact hf
/-- A call of a function. -/
theorem s_call {g : FuncId} {as_ : Array Operand} {ts : Array TypeId} {vs : List AV} (hv : as_.toList.map (ev env) = vs) (h : CallsA P g vs σ fun r σ' => K (env.put d r) σ') : aOp P ops ⟨d, .call ⟨.value (.func g), as_, ts⟩, ty, pos, af, none⟩ env σ K := by
  rw [aOp_none rfl]
  have : (Op.call ⟨.value (.func g), as_, ts⟩).operands.toList.map (ev env) = ev env (.func g) :: vs := by rw [← hv]; simp [Op.operands, Call.operands]
  show aVal P _ ((Op.call ⟨.value (.func g), as_, ts⟩).operands.toList.map (ev env)) σ _
  rw [this]
  exact ⟨g, #[], #[], rfl, by simpa using h⟩
/-- Operations that only reckon. -/
theorem s_pure {o : Oper} {vs : List AV} {v : Value} (hg : o.guard = none) (hv : o.op.operands.toList.map (ev env) = vs) (hd : ∀ σ (K : AV → St → Prop), (∃ v, PureRun P o vs v ∧ K (.raw v) σ) → aVal P o vs σ K) (hr : PureRun P o vs v) (h : K (env.put o.dst (.raw v)) σ) : aOp P ops o env σ K := by
  rw [aOp_none hg, hv]
  exact hd _ _ ⟨v, hr, h⟩
theorem s_bin {op : BinOp} {a b : AV} {v : Value} (hx : ev env x = a) (hy : ev env y = b) (hr : ∀ (w : World) (x y : Operand), (do eqGuard op t x y a.val b.val; binOp op t a.val b.val : Sem Value).run P w = .ok v w) (h : K (env.put d (.raw v)) σ) : aOp P ops ⟨d, .binOp op t x y ty', ty, pos, af, none⟩ env σ K := by
  refine s_pure (vs := [a, b]) rfl (by simp [Op.operands, hx, hy]) (fun _ _ h => .inl h) (fun ρ hρ w => ?_) h
  simp [Op.operands] at hρ
  have := hr w x y
  simp only [execOp]
  rw [hρ.1, hρ.2, Sem.run_bind, this]
  simp
theorem s_un {op : UnOp} {a : AV} {v : Value} (hx : ev env x = a) (hr : ∀ w, (Op.unary op a.val).run P w = .ok v w) (h : K (env.put d (.raw v)) σ) : aOp P ops ⟨d, .unOp op t x, ty, pos, af, none⟩ env σ K := by
  refine s_pure (vs := [a]) rfl (by simp [Op.operands, hx]) (fun _ _ h => .inl h) (fun ρ hρ w => ?_) h
  simp [Op.operands] at hρ
  simp only [execOp]
  rw [hρ, Sem.run_bind, hr]
  simp
theorem s_not {b : Bool} (hx : ev env x = .raw (.bool b)) (h : K (env.put d (.raw (.bool (!b)))) σ) : aOp P ops ⟨d, .unOp .not t x, ty, pos, af, none⟩ env σ K :=
  s_un hx (fun w => by simp [Op.unary]) h
theorem s_conv {a : AV} {v : Value} (hx : ev env x = a) (hr : ∀ w, (convert t ty' a.val).run P w = .ok v w) (h : K (env.put d (.raw v)) σ) : aOp P ops ⟨d, .convert t ty' x, ty, pos, af, none⟩ env σ K := by
  refine s_pure (vs := [a]) rfl (by simp [Op.operands, hx]) (fun _ _ h => .inl h) (fun ρ hρ w => ?_) h
  simp [Op.operands] at hρ
  simp only [execOp]
  rw [hρ, Sem.run_bind, hr]
  simp
end
end Go.Proofs.Ytnmimignbgdfgaa
