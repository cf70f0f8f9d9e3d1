/- Walks by hand: cuts, steps in regions that draw their order, short words for the steps. -/
import Derived.Test.YteempnebenjkmaaGreatDoorHd
import Derived.Test.YteempnebenjkmaaGreatDoorMc
namespace Go.Proofs.YteempnebenjkmaaGreatDoor
open Go.RowKit
set_option maxRecDepth 100000
set_option linter.unusedVariables false
set_option linter.unusedSimpArgs false
def toN (M : Env -> St -> Prop) : Zf7 := fun ex env σ => ex = .normal /\ M env σ
section
variable {P : Program} {O : Nat -> Prop} {ops : Array Oper} {env : Env} {σ τ : St} {K : Env -> St -> Prop} {d : Option Nat} {ty ty' t : TypeId} {pos : String} {af : Array Edge} {x y : Operand} {c c1 c2 : Code} {Q : Zf7} {lf cf ow : Nat -> Bool} {i j : Nat} {l : List Nat}
theorem ZCY (M : Env -> St -> Prop) (h : ZaJ P O c (toN M) env σ) (hk : ∀ env σ, M env σ -> Q .normal env σ) : ZaJ P O c Q env σ :=
 ZaR (c := c) (by rintro ex e σ ⟨rfl, h⟩; exact hk _ _ h) h
theorem Zds (M : Env -> St -> Prop) (h : ZaJ P O c1 (toN M) env σ) (hk : ∀ env σ, M env σ -> ZaJ P O c2 Q env σ) : ZaJ P O (.seq c1 c2) Q env σ := ZCY (Q := Zln (ZaJ P O c2 Q) Q) M h hk
theorem ZDV {o : Oper} (hi : ops[i]? = some o) (hw : Region.wanted o (Zap ops env) = true) (how : ow i = false) (h : ZdL P o (o.op.operands.toList.map (ev env)) σ fun r σ' => ((cf i && Zbt o) = true -> Ext σ σ') /\ Za5 P ops (fun _ => True) lf cf ow l (env.put o.dst r) σ' K) : Za5 P ops (fun _ => True) lf cf ow (i :: l) env σ K := by
 unfold Za5
 rw [hi]
 dsimp only
 unfold ZfH
 rw [how, if_neg Bool.false_ne_true]
 unfold ZhO
 rw [if_pos hw]
 refine ⟨fun _ _ _ _ => trivial, Zdm (fun r σ' h => ⟨fun hc => ?_, h.2⟩) h⟩
 have hX := h.1 hc
 exact fun b t cs _ hb => hX.keep _ _ hb
theorem HIX {α : Type} : (∀ (l : List α) (i : Nat), l.toArray[i]? = l[i]?) /\ (∀ (a : α) l, (a :: l)[0]? = some a) /\ (∀ (a : α) l (i : Nat), (a :: l)[i + 1]? = l[i]?) := ⟨fun _ _ => List.getElem?_toArray .., fun _ _ => rfl, fun _ _ _ => rfl⟩
def mvx : Op -> Option Operand
 | .move x => some x
 | .assign x => some x
 | _ => none
theorem ZjE {op : Op} {v : AV} (hm : mvx op = some x) (hx : ev env x = v) (h : K (env.put d v) σ) : aOp P ops ⟨d, op, ty, pos, af, none⟩ env σ K := by
 unfold mvx at hm
 split at hm
 ·injection hm with hm
  subst hm
  exact Zua hx h
 ·injection hm with hm
  subst hm
  exact ZkW hx h
 ·cases hm
theorem ZBn {op : Op} {g : Option (Nat × Bool)} (hi : ops[i]? = some ⟨d, op, ty, pos, af, g⟩) (hw : Region.wanted ⟨d, op, ty, pos, af, g⟩ (Zap ops env) = true) (how : ow i = false) (h : aOp P ops ⟨d, op, ty, pos, af, none⟩ env σ fun env' σ' => ((cf i && Zbt ⟨d, op, ty, pos, af, none⟩) = true -> Ext σ σ') /\ Za5 P ops (fun _ => True) lf cf ow l env' σ' K) : Za5 P ops (fun _ => True) lf cf ow (i :: l) env σ K := by
 rw [ZaN rfl] at h
 exact ZDV hi hw how h
theorem ZCZ {op : Op} {want : Bool} (hi : ops[i]? = some ⟨d, op, ty, pos, af, some (j, want)⟩) (hg : Zap ops env j = some (!want)) (how : ow i = false) (h : Za5 P ops (fun _ => True) lf cf ow l (env.put d (.raw undef)) σ K) : Za5 P ops (fun _ => True) lf cf ow (i :: l) env σ K := by
 have hw : ¬ Region.wanted ⟨d, op, ty, pos, af, some (j, want)⟩ (Zap ops env) = true := by simp [Region.wanted, hg]
 unfold Za5
 rw [hi]
 dsimp only
 unfold ZfH
 rw [how, if_neg Bool.false_ne_true]
 unfold ZhO
 rw [if_neg hw]
 exact h
theorem Zem {b : Bool} {Y : Prop} (h : Y) : (b = true -> Ext σ σ) /\ Y := ⟨fun _ => .refl _, h⟩
theorem ZqR (h : K env σ) : Za5 P ops (fun _ => True) lf cf ow [] env σ K := h
theorem ZBo (a b : Nat) (hx : ev env x = vI a) (hy : ev env y = vI b) (hab : a + b < 4611686018427387904) (h : K (env.put d (vI ((a + b : Nat) : Int))) σ) : aOp P ops ⟨d, .binOp .add t x y ty', ty, pos, af, none⟩ env σ K :=
 ZCy hx hy (by rw [IntWalk.i64_in _ (by omega)]; omega) h
theorem ZBp (a b : Nat) (hx : ev env x = vI a) (hy : ev env y = vI b) (h : K (env.put d (vT (decide (a < b)))) σ) : aOp P ops ⟨d, .binOp .lss t x y ty', ty, pos, af, none⟩ env σ K := by
 refine ZsS hx hy ?_
 have e : decide ((a : Int) < (b : Int)) = decide (a < b) := by congr 1; exact propext (by omega)
 rw [e]
 exact h
theorem ZrX {b : Bool} (hx : ev env x = vT b) (h : K (env.put d (vT (!b))) σ) : aOp P ops ⟨d, .unOp .not t x, ty, pos, af, none⟩ env σ K := ZCx hx h
theorem Zfa {as_ : Operand} {ts : Array TypeId} {t e : TypeId} {A : Option Addr} {n c : Nat} {v : AV} (hx : ev env as_ = v) (hv : v.val = .slice A n c) (hts : ts[0]? = some t) (ht : Zar P t = some e) (h : K (env.put d (vI n)) σ) : aOp P ops ⟨d, .call ⟨.builtin .len, #[as_], ts⟩, ty, pos, af, none⟩ env σ K := Zug hx hv hts ht h
theorem ZhX {as_ : Operand} {ts : Array TypeId} {t e e' sz : TypeId} {n : Nat} {v : AV} {cells : List AV} (hx : ev env as_ = v) (hv : Hd σ e' sz v n cells) (hts : ts[0]? = some t) (ht : Zar P t = some e) (h : K (env.put d (vI n)) σ) : aOp P ops ⟨d, .call ⟨.builtin .len, #[as_], ts⟩, ty, pos, af, none⟩ env σ K := by
 obtain ⟨A, c, h1, _⟩ := hv.val
 exact Zug hx h1 hts ht h
theorem Zzi {e sz n k b : Nat} {v : AV} {cells : List AV} (hx : ev env x = ptr b (k * sz)) (hv : Hd σ e sz v n cells) (hb : hbk v = some b) (hk : k < n) (ha : Ze0 P t = some true) (hn : Zav P t = some sz) (h : K (env.put d (.agg ((cells.drop (k * sz)).take sz))) σ) : aOp P ops ⟨d, .load t x, ty, pos, af, none⟩ env σ K :=
 Zo0 hx (hv.load hb hk ha hn) h
theorem ZBq {e n k b : Nat} {v r : AV} {cells : List AV} (hx : ev env x = ptr b (k * 1)) (hv : Hd σ e 1 v n cells) (hb : hbk v = some b) (hk : k < n) (hr : cells[k]? = some r) (ha : Ze0 P t = some false) (hn : Zav P t = some 1) (h : K (env.put d r) σ) : aOp P ops ⟨d, .load t x, ty, pos, af, none⟩ env σ K :=
 Zo0 hx (hv.load1 hb hk hr ha hn) h
theorem But.sub {S T : Nat -> Prop} (h : But S σ τ) (hS : ∀ b, S b -> T b) : But T σ τ := ⟨fun c k hc hk => h.keep _ _ (fun e => hc (hS _ e)) hk, h.used⟩
end
end Go.Proofs.YteempnebenjkmaaGreatDoor
