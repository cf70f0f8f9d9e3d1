/- Walks by hand: cuts, steps in regions that draw their order, short words for the steps. -/
import Derived.Test.YtinpiaibhjmfaaaHd
import Derived.Test.YtinpiaibhjmfaaaX16
namespace Go.Proofs.Ytinpiaibhjmfaaa
open Go.RowKit
set_option maxRecDepth 100000
set_option linter.unusedVariables false
set_option linter.unusedSimpArgs false
def toN (M : Env -> St -> Prop) : ZeL := fun ex env σ => ex = .normal /\ M env σ
section
variable {P : Program} {O : Nat -> Prop} {ops : Array Oper} {env : Env} {σ τ : St} {K : Env -> St -> Prop} {d : Option Nat} {ty ty' t : TypeId} {pos : String} {af : Array Edge} {x y : Operand} {c c1 c2 : Code} {Q : ZeL} {lf cf ow : Nat -> Bool} {i j : Nat} {l : List Nat}
theorem ZuR (M : Env -> St -> Prop) (h : ZaI P O c (toN M) env σ) (hk : ∀ env σ, M env σ -> Q .normal env σ) : ZaI P O c Q env σ :=
 ZaS (c := c) (by rintro ex e σ ⟨rfl, h⟩; exact hk _ _ h) h
theorem Zcq (M : Env -> St -> Prop) (h : ZaI P O c1 (toN M) env σ) (hk : ∀ env σ, M env σ -> ZaI P O c2 Q env σ) : ZaI P O (.seq c1 c2) Q env σ := ZuR (Q := ZhT (ZaI P O c2 Q) Q) M h hk
theorem Zvx {o : Oper} (hi : ops[i]? = some o) (hw : Region.wanted o (Zaq ops env) = true) (how : ow i = false) (h : ZcE P o (o.op.operands.toList.map (ev env)) σ fun r σ' => ((cf i && ZbO o) = true -> Ext σ σ') /\ Zb2 P ops (fun _ => True) lf cf ow l (env.put o.dst r) σ' K) : Zb2 P ops (fun _ => True) lf cf ow (i :: l) env σ K := by
 unfold Zb2
 rw [hi]
 dsimp only
 unfold Zfp
 rw [how, if_neg Bool.false_ne_true]
 unfold ZfT
 rw [if_pos hw]
 refine ⟨fun _ _ _ _ => trivial, ZcH (fun r σ' h => ⟨fun hc => ?_, h.2⟩) h⟩
 have hX := h.1 hc
 exact fun b t cs _ hb => hX.keep _ _ hb
theorem HIX {α : Type} : (∀ (l : List α) (i : Nat), l.toArray[i]? = l[i]?) /\ (∀ (a : α) l, (a :: l)[0]? = some a) /\ (∀ (a : α) l (i : Nat), (a :: l)[i + 1]? = l[i]?) := ⟨fun _ _ => List.getElem?_toArray .., fun _ _ => rfl, fun _ _ _ => rfl⟩
def mvx : Op -> Option Operand
 | .move x => some x
 | .assign x => some x
 | _ => none
theorem Zai {op : Op} {v : AV} (hm : mvx op = some x) (hx : ev env x = v) (h : K (env.put d v) σ) : aOp P ops ⟨d, op, ty, pos, af, none⟩ env σ K := by
 unfold mvx at hm
 split at hm
 ·injection hm with hm
  subst hm
  exact ZiW hx h
 ·injection hm with hm
  subst hm
  exact Zdn hx h
 ·cases hm
theorem Zao {op : Op} {g : Option (Nat × Bool)} (hi : ops[i]? = some ⟨d, op, ty, pos, af, g⟩) (hw : Region.wanted ⟨d, op, ty, pos, af, g⟩ (Zaq ops env) = true) (how : ow i = false) (h : aOp P ops ⟨d, op, ty, pos, af, none⟩ env σ fun env' σ' => ((cf i && ZbO ⟨d, op, ty, pos, af, none⟩) = true -> Ext σ σ') /\ Zb2 P ops (fun _ => True) lf cf ow l env' σ' K) : Zb2 P ops (fun _ => True) lf cf ow (i :: l) env σ K := by
 rw [ZaH rfl] at h
 exact Zvx hi hw how h
theorem ZiR {op : Op} {want : Bool} (hi : ops[i]? = some ⟨d, op, ty, pos, af, some (j, want)⟩) (hg : Zaq ops env j = some (!want)) (how : ow i = false) (h : Zb2 P ops (fun _ => True) lf cf ow l (env.put d (.raw undef)) σ K) : Zb2 P ops (fun _ => True) lf cf ow (i :: l) env σ K := by
 have hw : ¬ Region.wanted ⟨d, op, ty, pos, af, some (j, want)⟩ (Zaq ops env) = true := by simp [Region.wanted, hg]
 unfold Zb2
 rw [hi]
 dsimp only
 unfold Zfp
 rw [how, if_neg Bool.false_ne_true]
 unfold ZfT
 rw [if_neg hw]
 exact h
theorem ZaY {b : Bool} {Y : Prop} (h : Y) : (b = true -> Ext σ σ) /\ Y := ⟨fun _ => .refl _, h⟩
theorem Zfa (h : K env σ) : Zb2 P ops (fun _ => True) lf cf ow [] env σ K := h
theorem Zd4 (a b : Nat) (hx : ev env x = vI a) (hy : ev env y = vI b) (hab : a + b < 4611686018427387904) (h : K (env.put d (vI ((a + b : Nat) : Int))) σ) : aOp P ops ⟨d, .binOp .add t x y ty', ty, pos, af, none⟩ env σ K :=
 Zun hx hy (by rw [IntWalk.i64_in _ (by omega)]; omega) h
theorem Zho (a b : Nat) (hx : ev env x = vI a) (hy : ev env y = vI b) (h : K (env.put d (vT (decide (a < b)))) σ) : aOp P ops ⟨d, .binOp .lss t x y ty', ty, pos, af, none⟩ env σ K := by
 refine Ztj hx hy ?_
 have e : decide ((a : Int) < (b : Int)) = decide (a < b) := by congr 1; exact propext (by omega)
 rw [e]
 exact h
theorem Zda {b : Bool} (hx : ev env x = vT b) (h : K (env.put d (vT (!b))) σ) : aOp P ops ⟨d, .unOp .not t x, ty, pos, af, none⟩ env σ K := Zum hx h
theorem Zpr {as_ : Operand} {ts : Array TypeId} {t e : TypeId} {A : Option Addr} {n c : Nat} {v : AV} (hx : ev env as_ = v) (hv : v.val = .slice A n c) (hts : ts[0]? = some t) (ht : Zaw P t = some e) (h : K (env.put d (vI n)) σ) : aOp P ops ⟨d, .call ⟨.builtin .len, #[as_], ts⟩, ty, pos, af, none⟩ env σ K := ZrA hx hv hts ht h
theorem ZcT {as_ : Operand} {ts : Array TypeId} {t e e' sz : TypeId} {n : Nat} {v : AV} {cells : List AV} (hx : ev env as_ = v) (hv : Hd σ e' sz v n cells) (hts : ts[0]? = some t) (ht : Zaw P t = some e) (h : K (env.put d (vI n)) σ) : aOp P ops ⟨d, .call ⟨.builtin .len, #[as_], ts⟩, ty, pos, af, none⟩ env σ K := by
 obtain ⟨A, c, h1, _⟩ := hv.val
 exact ZrA hx h1 hts ht h
theorem Zps {e sz n k b : Nat} {v : AV} {cells : List AV} (hx : ev env x = ptr b (k * sz)) (hv : Hd σ e sz v n cells) (hb : hbk v = some b) (hk : k < n) (ha : Zc4 P t = some true) (hn : Zax P t = some sz) (h : K (env.put d (.agg ((cells.drop (k * sz)).take sz))) σ) : aOp P ops ⟨d, .load t x, ty, pos, af, none⟩ env σ K :=
 ZmD hx (hv.load hb hk ha hn) h
theorem ZtL {e n k b : Nat} {v r : AV} {cells : List AV} (hx : ev env x = ptr b (k * 1)) (hv : Hd σ e 1 v n cells) (hb : hbk v = some b) (hk : k < n) (hr : cells[k]? = some r) (ha : Zc4 P t = some false) (hn : Zax P t = some 1) (h : K (env.put d r) σ) : aOp P ops ⟨d, .load t x, ty, pos, af, none⟩ env σ K :=
 ZmD hx (hv.load1 hb hk hr ha hn) h
theorem But.sub {S T : Nat -> Prop} (h : But S σ τ) (hS : ∀ b, S b -> T b) : But T σ τ := ⟨fun c k hc hk => h.keep _ _ (fun e => hc (hS _ e)) hk, h.used⟩
end
end Go.Proofs.Ytinpiaibhjmfaaa
