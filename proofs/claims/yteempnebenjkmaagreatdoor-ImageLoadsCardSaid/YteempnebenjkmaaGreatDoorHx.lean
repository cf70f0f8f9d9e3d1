/- More for walks by hand: numbers converted, lists built as arrays in regions that draw, calls by contract, arrays that are told. -/
import Derived.Test.YteempnebenjkmaaGreatDoorLy
import Derived.Test.YteempnebenjkmaaGreatDoorMc
namespace Go.Proofs.YteempnebenjkmaaGreatDoor
open Go.RowKit
set_option linter.unusedSimpArgs false
set_option maxRecDepth 100000
set_option linter.unusedVariables false
section
variable {P : Program} {O : Nat -> Prop} {ops : Array Oper} {env : Env} {σ τ : St} {K : Env -> St -> Prop} {d : Option Nat} {ty ty' t : TypeId} {pos : String} {af : Array Edge} {x y : Operand} {c : Code} {Q : Zf7} {lf cf ow : Nat -> Bool} {i : Nat} {l : List Nat}
theorem ZuV (F : Env -> Prop) (h0 : F env) (h : ∀ e, F e -> ZaJ P O c Q e σ) : ZaJ P O c Q env σ := h _ h0
theorem ZDW {n : Nat} {parts : Array (Nat × Operand)} {e : TypeId} {sz : Nat} {v : Value} {vs cells : List AV} (hi : ops[i]? = some ⟨d, .buildSlice t n parts, ty, pos, af, none⟩) (how : ow i = true) (hv : parts.toList.map (fun p => ev env p.2) = vs) (ht : Zar P t = some e) (hs : Zav P e = some sz) (hz : ZaS P e = some v) (hzs : v.cells.size = sz) (hn : n * sz <= 16777216)
 (hf : ZdD (fun i => some (i * sz, sz)) ((List.range (n * sz)).map fun i => .ofV (v.cells[i % sz]!)) ((parts.toList.map (·.1)).zip vs) = some cells)
 (h : ∀ b, ¬ σ.used b -> σ.blk b = none -> Za5 P ops (fun _ => True) lf cf ow l (env.put d (hdr b n n)) (σ.put b (.own e cells)) K) : Za5 P ops (fun _ => True) lf cf ow (i :: l) env σ K := by
 unfold Za5
 rw [hi]
 dsimp only
 unfold ZfH
 rw [how, if_pos rfl, if_pos (by simp [Region.wanted])]
 refine ⟨n, e, cells, ⟨t, parts, sz, v, rfl, ht, hs, hz, hzs, hn, ?_⟩, h⟩
 have : (Op.buildSlice t n parts).operands.toList.map (ev env) = vs := by rw [<- hv]; simp [Op.operands]
 rw [this]
 exact hf
end
theorem ZBr {σ : St} {b n : Nat} {e sz : Nat} {cells : List AV} (hn0 : 0 < n) (hn : n <= 100000) (hl : cells.length = n * sz) (h1 : ∀ a ∈ cells, a.one = true) : Hd (σ.put b (.own e cells)) e sz (hdr b n n) n cells :=
 ⟨hl, h1, .inr ⟨b, n, cells, hn0, rfl, ZaW _ _ _, .inr rfl, hl, List.take_of_length_le (by rw [hl]; exact Nat.le_refl _), Nat.le_refl _, by unfold maxLen; omega⟩⟩
section
variable {T : Nat -> Type} {C : ZaA T} {P : Program} {σ τ : St}
abbrev ZaV : Nat -> AV := fun _ => .raw undef
theorem Zyw (ρ : Nat -> AV) : Hp C ρ ([] : List (HI T)) σ := ⟨fun i x hx => by simp at hx, fun i j x y b hx => by simp at hx⟩
theorem Zgd {f : FuncId} {args : List (XV T)} {r : XV T} {outs : List (HI T)} {vs : List AV} (h : Tr C P (fun _ => True) f args [] r outs) (hs : SVs C 0 ZaV args vs) (K : AV -> St -> Prop)
 (hK : ∀ a τ ρ', SV C outs.length ρ' r a -> Hp C ρ' outs τ -> Ext σ τ -> (∀ i x b, outs[i]? = some x -> x.alive = true -> (ρ' i).owns b -> σ.blk b = none /\ ¬ σ.used b) -> K a τ) : Zal P f vs σ K := by
 refine (h _ σ vs hs (Zyw _)).mono fun a τ ⟨ρ', q1, q2, q3⟩ => ?_
 refine hK a τ ρ' q1 q2 ⟨fun b k hb => q3.but.keep _ _ (fun hl => ?_) hb, q3.but.used⟩ fun i x b hx ha hb => ?_
 ·obtain ⟨i, x, _, hx, _⟩ := hl
  simp at hx
 ·rcases q3.born b ⟨i, x, hx, ha, hb⟩ with ⟨j, y, hy, _⟩ | h
  ·simp at hy
  ·exact h
theorem ZlN {f : FuncId} {args : List (XV T)} {r : XV T} {vs : List AV} {rv : AV} (h : Tr C P (fun _ => True) f args [] r []) (hs : SVs C 0 ZaV args vs) (hr : ∀ N ρ a, SV C N ρ r a -> a = rv) (K : AV -> St -> Prop) (hK : ∀ τ, Ext σ τ -> K rv τ) : Zal P f vs σ K :=
 Zgd h hs K fun a τ ρ' q1 _ q3 _ => by rw [hr _ _ _ q1]; exact hK τ q3
theorem ZgQ {N : Nat} {ρ : Nat -> AV} {h : List (HI T)} {i n E : Nat} {a : AV} {e : TypeId} {kp : Bool} {xs : List (T E)} (hs : SV C N ρ (.as E i 0 n none) a) (H : Hp C ρ h σ) (hi : h[i]? = some (.arr e E kp xs)) (hn : n <= xs.length) : ∃ cells, Hd σ e (C.sz E) a n cells /\ (∀ b, hbk a = some b -> (ρ i).owns b) /\ ∀ N' ρ', SVs C N' ρ' ((xs.take n).flatMap (C.enc E)) cells := by
 rcases ZbQ.1 hs with ⟨ad, c, rfl, hA⟩ | ⟨rfl, hn0, _⟩
 ·obtain ⟨b, q1, q2⟩ := hA.at_
  rcases Nat.eq_zero_or_pos c with hc | hc
  ·subst hc
   have hn0 : n = 0 := by have := hA.le; omega
   subst hn0
   exact ⟨[], ⟨by simp, by simp, .inl ⟨.inr ⟨ad, rfl⟩, rfl⟩⟩, (fun b hb => by cases hb), fun _ _ => .none⟩
  ·have had := q2 hc
   rw [Nat.zero_mul] at had
   subst had
   obtain ⟨pre, rest, h2, h3, h4, h5, h6, h7⟩ := H.arrAt hi q1
   have hpl := (h4 0 ρ).len
   rw [Zcl] at hpl
   have hmul : n * C.sz E <= xs.length * C.sz E := Nat.mul_le_mul_right _ hn
   have hmul2 : n * C.sz E <= c * C.sz E := Nat.mul_le_mul_right _ hA.le
   rw [Nat.zero_add] at h5 h6 q1
   have ht : (pre ++ rest).take (n * C.sz E) = pre.take (n * C.sz E) := List.take_append_of_le_length (by omega)
   refine ⟨pre.take (n * C.sz E), ⟨by rw [List.length_take]; omega, fun a ha => ?_, .inr ⟨b, c, _, hc, rfl, h2, h3, h5, ht, hA.le, hA.max⟩⟩, fun b' hb => ?_, fun N' ρ' => ?_⟩
   ·refine (h4 0 ρ).ones (fun x hx => ?_) a (List.mem_of_mem_take ha)
    obtain ⟨y, _, hy⟩ := List.mem_flatMap.1 hx
    exact Zew (C.shut _ _ _ hy)
   ·rw [q1, <- Zko hb]
    exact (Zui _ _ _).2 rfl
   ·have := (h4 N' ρ').take (n * C.sz E)
    rw [Zer] at this
    exact this
 ·subst hn0
  exact ⟨[], ⟨by simp, by simp, .inl ⟨.inl rfl, rfl⟩⟩, (fun b hb => by cases hb), fun _ _ => .none⟩
theorem ZnZ {f : FuncId} {args : List (XV T)} {vs : List AV} {E n : Nat} {e : TypeId} {kp : Bool} {xs : List (T E)} (h : Tr C P (fun _ => True) f args [] (.as E 0 0 n none) [.arr e E kp xs]) (hs : SVs C 0 ZaV args vs) (hn : n <= xs.length) (K : AV -> St -> Prop)
 (hK : ∀ a τ cells, Hd τ e (C.sz E) a n cells -> (∀ N' ρ', SVs C N' ρ' ((xs.take n).flatMap (C.enc E)) cells) -> Ext σ τ -> (∀ b, hbk a = some b -> σ.blk b = none /\ ¬ σ.used b) -> K a τ) : Zal P f vs σ K :=
 Zgd h hs K fun a τ ρ' q1 q2 q3 q4 => by
  obtain ⟨cells, g1, g2, g3⟩ := ZgQ q1 q2 rfl hn
  exact hK a τ cells g1 g3 q3 fun b hb => q4 0 _ b rfl rfl (g2 b hb)
end
section
variable {P : Program} {O : Nat -> Prop} {ops : Array Oper} {env : Env} {σ τ : St} {K : Env -> St -> Prop} {d : Option Nat} {ty ty' t : TypeId} {pos : String} {af : Array Edge} {x y : Operand} {e sz n : Nat} {v r : AV} {cells news : List AV}
theorem Ztc (hx : ev env x = v) (hy : ev env y = r) (ht : Zar P t = some e) (hs : Zav P e = some sz) (hown : Hd σ e sz v n cells) (src : Src σ sz r 0 news) (h : K (env.put d v) σ) : aOp P ops ⟨d, .call ⟨.builtin .append, #[x, y], #[t, t]⟩, ty, pos, af, none⟩ env σ K := by
 rw [ZaN rfl]
 have hvs : ((.call ⟨.builtin .append, #[x, y], #[t, t]⟩ : Op).operands.toList.map (ev env)) = [v, r] := by simp [Op.operands, Call.operands, hx, hy]
 show ZdL P _ (Op.operands _ |>.toList.map (ev env)) σ _
 rw [hvs]
 refine Zhm fun w Z hH hV1 hV2 => ⟨v, σ, w, ?_, h, hH, hV1, .refl _ _⟩
 obtain ⟨A, c, hv, hA, hnc⟩ := hown.val
 obtain ⟨A', c', hy, hA'⟩ := src.at_
 obtain ⟨ii, hii, hsi⟩ := ZnL hs
 rw [hv, hy]
 have hf := Zct (P := P) (w := w) (size := ii.size) (n := 0) (len := 0) (cap := c') rfl A'
 have hty := Za0 ht
 cases A with
 | none =>
  obtain ⟨rfl, rfl⟩ := hA rfl
  simp [Builtin.append_, run_underlying hty, sizeOf, typeInfo, hii, Builtin.lenOf, hf]
 | some ad =>
  simp [Builtin.append_, run_underlying hty, sizeOf, typeInfo, hii, Builtin.lenOf, hf, hnc, storeCells]
theorem Zge {A : Option Addr} {m c : Nat} {rest : List AV} (hl : cells.length = m * sz) (h1 : ∀ a ∈ cells, a.one = true) (hA : A = none -> m = 0) : Src σ sz (.lst A m c (cells ++ rest)) m cells := by
 refine ⟨hl, h1, ⟨A, c, rfl, hA⟩, fun w Z hH hV => ?_⟩
 unfold Zag at hV
 cases A with
 | none =>
  have : cells = [] := List.eq_nil_of_length_eq_zero (by rw [hl, hA rfl, Nat.zero_mul])
  subst this
  exact ⟨by simp, fun ad c hy => by rw [AV.val_lst] at hy; injection hy with q; cases q⟩
 | some ad =>
  have hv := hV.2.2 ad rfl
  refine ⟨fun a ha => ?_, fun ad' c' hy j u hu => ?_⟩
  ·obtain ⟨i, hi, rfl⟩ := List.getElem_of_mem ha
   exact (hv.get (by rw [List.getElem?_append_left hi]; exact List.getElem?_eq_getElem hi)).2.2
  ·rw [AV.val_lst] at hy
   injection hy with q1 _ _
   injection q1 with q1
   subst q1
   rw [List.getElem?_map] at hu
   cases hd : cells[j]? with
   | none => rw [hd] at hu; cases hu
   | some d =>
    rw [hd] at hu
    injection hu with hu
    subst hu
    have := (hv.get (d := d) (show (cells ++ rest)[j]? = some d by rw [List.getElem?_append_left (Zat hd)]; exact hd)).1
    rwa [Nat.zero_add] at this
end
section
variable {T : Nat -> Type} {C : ZaA T} {P : Program}
theorem ZC0 {f : FuncId} {args : List (XV T)} {E : Nat} {e : TypeId} {xs : List (T E)} (hf : C.full E = false) (hn : 0 < xs.length) (hm : xs.length <= 140737488355328)
 (h : ∀ ρ σ vs, SVs C 0 ρ args vs -> Zal P f vs σ fun a τ => ∃ cells, Hd τ e (C.sz E) a xs.length cells /\ (∀ N' ρ', SVs C N' ρ' (xs.flatMap (C.enc E)) cells) /\ Ext σ τ /\ ∀ b, hbk a = some b -> σ.blk b = none /\ ¬ σ.used b) :
 Tr C P (fun _ => True) f args [] (.as E 0 0 xs.length none) [.arr e E true xs] := by
 intro ρ σ vs hs _
 refine (h ρ σ vs hs).mono fun a τ ⟨cells, hd, hsv, hX, hnew⟩ => ?_
 obtain ⟨b, hb⟩ := hd.some_ hn
 obtain ⟨c, all, rfl, h1, h2, h3, h4, h5, h6⟩ := hd.at_ hb
 have hnb := hnew b hb
 refine ⟨fun _ => ab b c, ZbQ.2 (.inl ⟨⟨b, 0, none⟩, c, rfl, by simp, h5, h6, hm, ⟨b, by rw [Nat.zero_add], fun _ => by rw [Nat.zero_mul]⟩, fun c' hc => by cases hc⟩), ⟨fun i x hx => ?_, fun i j x y b' hx hy _ _ _ _ => ?_⟩, Nat.zero_le _, fun i hi => absurd hi (Nat.not_lt_zero i), ⟨fun b' k _ hk => hX.keep _ _ hk, hX.used⟩, fun b' ⟨i, x, hx, _, hb'⟩ => ?_⟩
 ·match i, hx with
  | 0, hx =>
   injection hx with hx
   subst hx
   refine .inl ⟨b, c, cells, all.drop (xs.length * C.sz E), rfl, by rw [<- h4, List.take_append_drop]; exact h1, h2, hsv, by rw [<- h4, List.take_append_drop]; exact h3, h6, fun hq => by rw [hf] at hq; cases hq⟩
 ·have := Zat hx
  have := Zat hy
  simp at *
  omega
 ·rw [Zui] at hb'
  subst hb'
  exact .inr hnb
end
section
variable {P : Program} {O : Nat -> Prop} {ops : Array Oper} {env : Env} {σ τ : St} {K : Env -> St -> Prop} {d : Option Nat} {ty ty' t : TypeId} {pos : String} {af : Array Edge} {x y : Operand} {lf cf ow : Nat -> Bool} {i j : Nat} {l : List Nat} {Pres : Nat -> Prop}
theorem ZDB {ops : Array Oper} {env : Env} {j d : Nat} {b : Bool} (hd : (ops[j]?).bind (·.dst) = some d) (hv : env d = vT b) : Zap ops env j = some b := by
 unfold Zap
 rw [hd]
 dsimp only
 rw [hv]
 rfl
theorem Zyx {op : Op} {g : Option (Nat × Bool)} (hi : ops[i]? = some ⟨d, op, ty, pos, af, g⟩) (hw : Region.wanted ⟨d, op, ty, pos, af, g⟩ (Zap ops env) = true) (how : ow i = false) (hl : (lf i && Zbq ⟨d, op, ty, pos, af, g⟩ == .load) = false)
 (h : aOp P ops ⟨d, op, ty, pos, af, none⟩ env σ fun env' σ' => ((cf i && Zbt ⟨d, op, ty, pos, af, none⟩) = true -> ZkH Pres σ σ') /\ Za5 P ops Pres lf cf ow l env' σ' K) : Za5 P ops Pres lf cf ow (i :: l) env σ K := by
 rw [ZaN rfl] at h
 unfold Za5
 rw [hi]
 dsimp only
 unfold ZfH
 rw [how, if_neg Bool.false_ne_true]
 unfold ZhO
 rw [if_pos hw]
 exact ⟨fun hq => absurd (hl.symm.trans hq) Bool.false_ne_true, h⟩
theorem ZBs {b o n : Nat} {T : TypeId} {cs : List AV} {g : Bool} {r : AV} {gd : Option (Nat × Bool)} (hi : ops[i]? = some ⟨d, .load t x, ty, pos, af, gd⟩) (hw : Region.wanted ⟨d, .load t x, ty, pos, af, gd⟩ (Zap ops env) = true) (how : ow i = false) (hx : ev env x = ptr b o) (hp : Pres b) (hb : σ.blk b = some (.own T cs)) (ha : Ze0 P t = some g) (hn : Zav P t = some n) (hr : Zbw (some g) (some n) cs o = some r)
 (h : Za5 P ops Pres lf cf ow l (env.put d r) σ K) : Za5 P ops Pres lf cf ow (i :: l) env σ K := by
 have h1 : aOp P ops ⟨d, .load t x, ty, pos, af, none⟩ env σ fun env' σ' => ((cf i && Zbt ⟨d, .load t x, ty, pos, af, none⟩) = true -> ZkH Pres σ σ') /\ Za5 P ops Pres lf cf ow l env' σ' K := ZaC hx hb ha hn hr ⟨fun _ _ _ _ _ hb => hb, h⟩
 rw [ZaN rfl] at h1
 unfold Za5
 rw [hi]
 dsimp only
 unfold ZfH
 rw [how, if_neg Bool.false_ne_true]
 unfold ZhO
 rw [if_pos hw]
 refine ⟨fun _ b' o' hq => ?_, h1⟩
 have hq : [ev env x] = [ptr b' o'] := hq
 rw [hx] at hq
 injection hq with hq
 have : b = b' := by unfold ptr at hq; injection hq with hq; injection hq with hq; injection hq with hq; injection hq with hq
 subst this
 exact hp
theorem Zyy (h : K env σ) : Za5 P ops Pres lf cf ow [] env σ K := h
theorem ZiK {b : Bool} {Y : Prop} (h : Y) : (b = true -> ZkH Pres σ σ) /\ Y := ⟨fun _ _ _ _ _ hb => hb, h⟩
theorem But.keeps {S : Nat -> Prop} (h : But S σ τ) (hS : ∀ b, Pres b -> ¬ S b) : ZkH Pres σ τ := fun b t cs hp hb => h.keep _ _ (hS b hp) hb
theorem Ext.keeps (h : Ext σ τ) : ZkH Pres σ τ := fun b t cs _ hb => h.keep _ _ hb
end
section
variable {P : Program} {ops : Array Oper} {env : Env} {σ τ : St} {K : Env -> St -> Prop} {d : Option Nat} {ty ty' t : TypeId} {pos : String} {af : Array Edge} {x y : Operand} {e sz n m : Nat} {v r : AV} {cells news : List AV}
theorem Zch {bytes : Nat} {z : Value} (hx : ev env x = v) (hy : ev env y = r) (ht : Zar P t = some e) (hs : Zav P e = some sz) (hz : ZaS P e = some z) (hby : Zb5 P e = some bytes) (hzs : z.cells.size = sz) (hsz : 0 < sz)
 (hown : Hd σ e sz v n cells) (src : Src σ sz r m news) (h63 : n + m <= maxLen) (hbb : (n + m) * bytes <= 140737488355328)
 (h : ∀ v' τ, Hd τ e sz v' (n + m) (cells ++ news) -> But (fun c => hbk v = some c) σ τ -> (∀ c, hbk v' = some c -> hbk v = some c \/ (σ.blk c = none /\ ¬ σ.used c)) -> K (env.put d v') τ) :
 aOp P ops ⟨d, .call ⟨.builtin .append, #[x, y], #[t, t]⟩, ty, pos, af, none⟩ env σ K := by
 rcases Nat.eq_zero_or_pos m with h0 | h0
 ·subst h0
  have hn : news = [] := List.eq_nil_of_length_eq_zero (by rw [src.len, Nat.zero_mul])
  subst hn
  exact Ztc hx hy ht hs hown src (h v σ (by rw [List.append_nil, Nat.add_zero]; exact hown) (.refl _ _) fun c hc => .inl hc)
 ·exact ZlM hx hy ht hs hz hby hzs hsz hown src h0 h63 hbb fun v' τ h1 _ h2 h3 => h v' τ h1 h2 h3
end
end Go.Proofs.YteempnebenjkmaaGreatDoor
