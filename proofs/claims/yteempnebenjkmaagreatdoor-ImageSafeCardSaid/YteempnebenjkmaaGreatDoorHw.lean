/- Walks by hand: cuts, steps in regions that draw their order, short words for the steps. -/
import Derived.Test.YteempnebenjkmaaGreatDoorHd
import Derived.Test.YteempnebenjkmaaGreatDoorMc
namespace Go.Proofs.YteempnebenjkmaaGreatDoor
open Go.RowKit
set_option maxRecDepth 100000
set_option linter.unusedVariables false
set_option linter.unusedSimpArgs false
def toN (M : Env -> St -> Prop) : Zf1 := fun ex env σ => ex = .normal /\ M env σ
section
variable {P : Program} {O : Nat -> Prop} {ops : Array Oper} {env : Env} {σ τ : St} {K : Env -> St -> Prop} {d : Option Nat} {ty ty' t : TypeId} {pos : String} {af : Array Edge} {x y : Operand} {c c1 c2 : Code} {Q : Zf1} {lf cf ow : Nat -> Bool} {i j : Nat} {l : List Nat}
theorem ZBG (M : Env -> St -> Prop) (h : ZaG P O c (toN M) env σ) (hk : ∀ env σ, M env σ -> Q .normal env σ) : ZaG P O c Q env σ :=
 ZaT (c := c) (by rintro ex e σ ⟨rfl, h⟩; exact hk _ _ h) h
theorem ZgZ (M : Env -> St -> Prop) (h : ZaG P O c1 (toN M) env σ) (hk : ∀ env σ, M env σ -> ZaG P O c2 Q env σ) : ZaG P O (.seq c1 c2) Q env σ := ZBG (Q := Zk9 (ZaG P O c2 Q) Q) M h hk
theorem ZCA {o : Oper} (hi : ops[i]? = some o) (hw : Region.wanted o (Zas ops env) = true) (how : ow i = false) (h : ZdH P o (o.op.operands.toList.map (ev env)) σ fun r σ' => ((cf i && ZbQ o) = true -> Ext σ σ') /\ Zby P ops (fun _ => True) lf cf ow l (env.put o.dst r) σ' K) : Zby P ops (fun _ => True) lf cf ow (i :: l) env σ K := by
 unfold Zby
 rw [hi]
 dsimp only
 unfold Zgx
 rw [how, if_neg Bool.false_ne_true]
 unfold Zh2
 rw [if_pos hw]
 refine ⟨fun _ _ _ _ => trivial, Zdm (fun r σ' h => ⟨fun hc => ?_, h.2⟩) h⟩
 have hX := h.1 hc
 exact fun b t cs _ hb => hX.keep _ _ hb
theorem HIX {α : Type} : (∀ (l : List α) (i : Nat), l.toArray[i]? = l[i]?) /\ (∀ (a : α) l, (a :: l)[0]? = some a) /\ (∀ (a : α) l (i : Nat), (a :: l)[i + 1]? = l[i]?) := ⟨fun _ _ => List.getElem?_toArray .., fun _ _ => rfl, fun _ _ _ => rfl⟩
def mvx : Op -> Option Operand
 | .move x => some x
 | .assign x => some x
 | _ => none
theorem ZkQ {op : Op} {v : AV} (hm : mvx op = some x) (hx : ev env x = v) (h : K (env.put d v) σ) : aOp P ops ⟨d, op, ty, pos, af, none⟩ env σ K := by
 unfold mvx at hm
 split at hm
 ·injection hm with hm
  subst hm
  exact ZtB hx h
 ·injection hm with hm
  subst hm
  exact ZkJ hx h
 ·cases hm
theorem ZAd {op : Op} {g : Option (Nat × Bool)} (hi : ops[i]? = some ⟨d, op, ty, pos, af, g⟩) (hw : Region.wanted ⟨d, op, ty, pos, af, g⟩ (Zas ops env) = true) (how : ow i = false) (h : aOp P ops ⟨d, op, ty, pos, af, none⟩ env σ fun env' σ' => ((cf i && ZbQ ⟨d, op, ty, pos, af, none⟩) = true -> Ext σ σ') /\ Zby P ops (fun _ => True) lf cf ow l env' σ' K) : Zby P ops (fun _ => True) lf cf ow (i :: l) env σ K := by
 rw [ZaS rfl] at h
 exact ZCA hi hw how h
theorem ZBH {op : Op} {want : Bool} (hi : ops[i]? = some ⟨d, op, ty, pos, af, some (j, want)⟩) (hg : Zas ops env j = some (!want)) (how : ow i = false) (h : Zby P ops (fun _ => True) lf cf ow l (env.put d (.raw undef)) σ K) : Zby P ops (fun _ => True) lf cf ow (i :: l) env σ K := by
 have hw : ¬ Region.wanted ⟨d, op, ty, pos, af, some (j, want)⟩ (Zas ops env) = true := by simp [Region.wanted, hg]
 unfold Zby
 rw [hi]
 dsimp only
 unfold Zgx
 rw [how, if_neg Bool.false_ne_true]
 unfold Zh2
 rw [if_neg hw]
 exact h
theorem ZcA {b : Bool} {Y : Prop} (h : Y) : (b = true -> Ext σ σ) /\ Y := ⟨fun _ => .refl _, h⟩
theorem ZnA (h : K env σ) : Zby P ops (fun _ => True) lf cf ow [] env σ K := h
theorem ZAe (a b : Nat) (hx : ev env x = vI a) (hy : ev env y = vI b) (hab : a + b < 4611686018427387904) (h : K (env.put d (vI ((a + b : Nat) : Int))) σ) : aOp P ops ⟨d, .binOp .add t x y ty', ty, pos, af, none⟩ env σ K :=
 Zx0 hx hy (by rw [IntWalk.i64_in _ (by omega)]; omega) h
theorem ZAf (a b : Nat) (hx : ev env x = vI a) (hy : ev env y = vI b) (h : K (env.put d (vT (decide (a < b)))) σ) : aOp P ops ⟨d, .binOp .lss t x y ty', ty, pos, af, none⟩ env σ K := by
 refine Zx1 hx hy ?_
 have e : decide ((a : Int) < (b : Int)) = decide (a < b) := by congr 1; exact propext (by omega)
 rw [e]
 exact h
theorem ZrA {b : Bool} (hx : ev env x = vT b) (h : K (env.put d (vT (!b))) σ) : aOp P ops ⟨d, .unOp .not t x, ty, pos, af, none⟩ env σ K := ZBb hx h
theorem ZhO {as_ : Operand} {ts : Array TypeId} {t e : TypeId} {A : Option Addr} {n c : Nat} {v : AV} (hx : ev env as_ = v) (hv : v.val = .slice A n c) (hts : ts[0]? = some t) (ht : Zaq P t = some e) (h : K (env.put d (vI n)) σ) : aOp P ops ⟨d, .call ⟨.builtin .len, #[as_], ts⟩, ty, pos, af, none⟩ env σ K := ZtG hx hv hts ht h
theorem ZhP {as_ : Operand} {ts : Array TypeId} {t e e' sz : TypeId} {n : Nat} {v : AV} {cells : List AV} (hx : ev env as_ = v) (hv : Hd σ e' sz v n cells) (hts : ts[0]? = some t) (ht : Zaq P t = some e) (h : K (env.put d (vI n)) σ) : aOp P ops ⟨d, .call ⟨.builtin .len, #[as_], ts⟩, ty, pos, af, none⟩ env σ K := by
 obtain ⟨A, c, h1, _⟩ := hv.val
 exact ZtG hx h1 hts ht h
theorem Zwk {e sz n k b : Nat} {v : AV} {cells : List AV} (hx : ev env x = ptr b (k * sz)) (hv : Hd σ e sz v n cells) (hb : hbk v = some b) (hk : k < n) (ha : Zdk P t = some true) (hn : Zax P t = some sz) (h : K (env.put d (.agg ((cells.drop (k * sz)).take sz))) σ) : aOp P ops ⟨d, .load t x, ty, pos, af, none⟩ env σ K :=
 Zov hx (hv.load hb hk ha hn) h
theorem ZAg {e n k b : Nat} {v r : AV} {cells : List AV} (hx : ev env x = ptr b (k * 1)) (hv : Hd σ e 1 v n cells) (hb : hbk v = some b) (hk : k < n) (hr : cells[k]? = some r) (ha : Zdk P t = some false) (hn : Zax P t = some 1) (h : K (env.put d r) σ) : aOp P ops ⟨d, .load t x, ty, pos, af, none⟩ env σ K :=
 Zov hx (hv.load1 hb hk hr ha hn) h
theorem But.sub {S T : Nat -> Prop} (h : But S σ τ) (hS : ∀ b, S b -> T b) : But T σ τ := ⟨fun c k hc hk => h.keep _ _ (fun e => hc (hS _ e)) hk, h.used⟩
end
end Go.Proofs.YteempnebenjkmaaGreatDoor
