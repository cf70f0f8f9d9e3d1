/- Walks by hand: cuts, steps in regions that draw their order, short words for the steps. -/
import Derived.Test.YtlmmpfbdgiokmaaGreatHd
import Derived.Test.YtlmmpfbdgiokmaaGreatX16
namespace Go.Proofs.YtlmmpfbdgiokmaaGreat
open Go.RowKit
set_option maxRecDepth 100000
set_option linter.unusedVariables false
set_option linter.unusedSimpArgs false
def toN (M : Env -> St -> Prop) : ZiG := fun ex env σ => ex = .normal /\ M env σ
section
variable {P : Program} {O : Nat -> Prop} {ops : Array Oper} {env : Env} {σ τ : St} {K : Env -> St -> Prop} {d : Option Nat} {ty ty' t : TypeId} {pos : String} {af : Array Edge} {x y : Operand} {c c1 c2 : Code} {Q : ZiG} {lf cf ow : Nat -> Bool} {i j : Nat} {l : List Nat}
theorem ZyV (M : Env -> St -> Prop) (h : ZaY P O c (toN M) env σ) (hk : ∀ env σ, M env σ -> Q .normal env σ) : ZaY P O c Q env σ :=
 ZaS (c := c) (by rintro ex e σ ⟨rfl, h⟩; exact hk _ _ h) h
theorem ZlE (M : Env -> St -> Prop) (h : ZaY P O c1 (toN M) env σ) (hk : ∀ env σ, M env σ -> ZaY P O c2 Q env σ) : ZaY P O (.seq c1 c2) Q env σ := ZyV (Q := ZnN (ZaY P O c2 Q) Q) M h hk
theorem ZEh {o : Oper} (hi : ops[i]? = some o) (hw : Region.wanted o (Zax ops env) = true) (how : ow i = false) (h : ZgJ P o (o.op.operands.toList.map (ev env)) σ fun r σ' => ((cf i && ZdA o) = true -> Ext σ σ') /\ ZdC P ops (fun _ => True) lf cf ow l (env.put o.dst r) σ' K) : ZdC P ops (fun _ => True) lf cf ow (i :: l) env σ K := by
 unfold ZdC
 rw [hi]
 dsimp only
 unfold Zjo
 rw [how, if_neg Bool.false_ne_true]
 unfold Zk6
 rw [if_pos hw]
 refine ⟨fun _ _ _ _ => trivial, Zfh (fun r σ' h => ⟨fun hc => ?_, h.2⟩) h⟩
 have hX := h.1 hc
 exact fun b t cs _ hb => hX.keep _ _ hb
theorem HIX {α : Type} : (∀ (l : List α) (i : Nat), l.toArray[i]? = l[i]?) /\ (∀ (a : α) l, (a :: l)[0]? = some a) /\ (∀ (a : α) l (i : Nat), (a :: l)[i + 1]? = l[i]?) := ⟨fun _ _ => List.getElem?_toArray .., fun _ _ => rfl, fun _ _ _ => rfl⟩
def mvx : Op -> Option Operand
 | .move x => some x
 | .assign x => some x
 | _ => none
theorem Zbu {op : Op} {v : AV} (hm : mvx op = some x) (hx : ev env x = v) (h : K (env.put d v) σ) : aOp P ops ⟨d, op, ty, pos, af, none⟩ env σ K := by
 unfold mvx at hm
 split at hm
 ·injection hm with hm
  subst hm
  exact Za0 hx h
 ·injection hm with hm
  subst hm
  exact Zas hx h
 ·cases hm
theorem Zbc {op : Op} {g : Option (Nat × Bool)} (hi : ops[i]? = some ⟨d, op, ty, pos, af, g⟩) (hw : Region.wanted ⟨d, op, ty, pos, af, g⟩ (Zax ops env) = true) (how : ow i = false) (h : aOp P ops ⟨d, op, ty, pos, af, none⟩ env σ fun env' σ' => ((cf i && ZdA ⟨d, op, ty, pos, af, none⟩) = true -> Ext σ σ') /\ ZdC P ops (fun _ => True) lf cf ow l env' σ' K) : ZdC P ops (fun _ => True) lf cf ow (i :: l) env σ K := by
 rw [Zcf rfl] at h
 exact ZEh hi hw how h
theorem Znd {op : Op} {want : Bool} (hi : ops[i]? = some ⟨d, op, ty, pos, af, some (j, want)⟩) (hg : Zax ops env j = some (!want)) (how : ow i = false) (h : ZdC P ops (fun _ => True) lf cf ow l (env.put d (.raw undef)) σ K) : ZdC P ops (fun _ => True) lf cf ow (i :: l) env σ K := by
 have hw : ¬ Region.wanted ⟨d, op, ty, pos, af, some (j, want)⟩ (Zax ops env) = true := by simp [Region.wanted, hg]
 unfold ZdC
 rw [hi]
 dsimp only
 unfold Zjo
 rw [how, if_neg Bool.false_ne_true]
 unfold Zk6
 rw [if_neg hw]
 exact h
theorem Zex {b : Bool} {Y : Prop} (h : Y) : (b = true -> Ext σ σ) /\ Y := ⟨fun _ => .refl _, h⟩
theorem ZyW (h : K env σ) : ZdC P ops (fun _ => True) lf cf ow [] env σ K := h
theorem ZhA (a b : Nat) (hx : ev env x = vI a) (hy : ev env y = vI b) (hab : a + b < 4611686018427387904) (h : K (env.put d (vI ((a + b : Nat) : Int))) σ) : aOp P ops ⟨d, .binOp .add t x y ty', ty, pos, af, none⟩ env σ K :=
 ZDb hx hy (by rw [IntWalk.i64_in _ (by omega)]; omega) h
theorem Zia (a b : Nat) (hx : ev env x = vI a) (hy : ev env y = vI b) (h : K (env.put d (vT (decide (a < b)))) σ) : aOp P ops ⟨d, .binOp .lss t x y ty', ty, pos, af, none⟩ env σ K := by
 refine ZDc hx hy ?_
 have e : decide ((a : Int) < (b : Int)) = decide (a < b) := by congr 1; exact propext (by omega)
 rw [e]
 exact h
theorem ZuQ {b : Bool} (hx : ev env x = vT b) (h : K (env.put d (vT (!b))) σ) : aOp P ops ⟨d, .unOp .not t x, ty, pos, af, none⟩ env σ K := ZDa hx h
theorem ZCs (a b : Nat) (hx : ev env x = vI a) (hy : ev env y = vI b) (hab : a < b) (h : K (env.put d (vT true)) σ) : aOp P ops ⟨d, .binOp .lss t x y ty', ty, pos, af, none⟩ env σ K :=
 Zia a b hx hy (by rw [decide_eq_true hab]; exact h)
theorem ZAg (a b : Nat) (hx : ev env x = vI a) (hy : ev env y = vI b) (hab : ¬ a < b) (h : K (env.put d (vT false)) σ) : aOp P ops ⟨d, .binOp .lss t x y ty', ty, pos, af, none⟩ env σ K :=
 Zia a b hx hy (by rw [decide_eq_false hab]; exact h)
theorem ZkT {as_ : Operand} {ts : Array TypeId} {t e : TypeId} {A : Option Addr} {n c : Nat} {v : AV} (hx : ev env as_ = v) (hv : v.val = .slice A n c) (hts : ts[0]? = some t) (ht : ZaB P t = some e) (h : K (env.put d (vI n)) σ) : aOp P ops ⟨d, .call ⟨.builtin .len, #[as_], ts⟩, ty, pos, af, none⟩ env σ K := Zz0 hx hv hts ht h
theorem ZrL {as_ : Operand} {ts : Array TypeId} {t e e' sz : TypeId} {n : Nat} {v : AV} {cells : List AV} (hx : ev env as_ = v) (hv : Hd σ e' sz v n cells) (hts : ts[0]? = some t) (ht : ZaB P t = some e) (h : K (env.put d (vI n)) σ) : aOp P ops ⟨d, .call ⟨.builtin .len, #[as_], ts⟩, ty, pos, af, none⟩ env σ K := by
 obtain ⟨A, c, h1, _⟩ := hv.val
 exact Zz0 hx h1 hts ht h
theorem ZoZ {hs r0 : List AV} {A : Option Addr} {n c k : Nat} {e : TypeId} (hx : ev env x = .lst A n c (hs ++ r0)) (hy : ev env y = vI k) (hA : A = none -> n = 0) (ht : ZaB P t = some e) (hsz : Zaw P e = some 1) (hk : k < n) (h : ∀ ad, K (env.put d (.eptr ad ((hs ++ r0).drop k))) σ) : aOp P ops ⟨d, .indexAddr t x y, ty, pos, af, none⟩ env σ K :=
 Zyn (k := .i64) (j := k) hx hy ht hsz hk hA (by rw [Nat.mul_one]) h
theorem Zo0 {hs r0 : List AV} {ad : Addr} {k : Nat} {v : AV} (hx : ev env x = .eptr ad ((hs ++ r0).drop k)) (hv : hs[k]? = some v) (ha : Zer P t = some false) (hn : Zaw P t = some 1) (h : K (env.put d v) σ) : aOp P ops ⟨d, .load t x, ty, pos, af, none⟩ env σ K := by
 refine Zyk hx ha hn ?_ h
 dsimp only [Zdv]
 rw [List.getElem?_drop, Nat.add_zero, List.getElem?_append_left (Zav hv)]
 exact hv
theorem ZyX {e sz n k b : Nat} {v : AV} {cells : List AV} (hx : ev env x = ptr b (k * sz)) (hv : Hd σ e sz v n cells) (hb : hbk v = some b) (hk : k < n) (ha : Zer P t = some true) (hn : Zaw P t = some sz) (h : K (env.put d (.agg ((cells.drop (k * sz)).take sz))) σ) : aOp P ops ⟨d, .load t x, ty, pos, af, none⟩ env σ K :=
 Zuh hx (hv.load hb hk ha hn) h
theorem Zxo {e n k b : Nat} {v r : AV} {cells : List AV} (hx : ev env x = ptr b (k * 1)) (hv : Hd σ e 1 v n cells) (hb : hbk v = some b) (hk : k < n) (hr : cells[k]? = some r) (ha : Zer P t = some false) (hn : Zaw P t = some 1) (h : K (env.put d r) σ) : aOp P ops ⟨d, .load t x, ty, pos, af, none⟩ env σ K :=
 Zuh hx (hv.load1 hb hk hr ha hn) h
theorem ZlF {m : Nat} {ks : List SK} {xs : List AV} (hx : ev env x = .agg xs) (hy : ev env y = .agg xs) (hk : Zhw P m t = some ks) (hm : m <= 10000) (hg : P.eqGuardType P.depth t = false) (ha : Zer P t = some true) (fx : ZnO ks (xs.map AV.val)) (h : K (env.put d (vT true)) σ) : aOp P ops ⟨d, .binOp .eql t x y ty', ty, pos, af, none⟩ env σ K :=
 ZB6 hk hm hg ha hx hy fx fx fun r hr => by
  have : r = true := hr.2 rfl
  subst this
  exact h
theorem But.sub {S T : Nat -> Prop} (h : But S σ τ) (hS : ∀ b, S b -> T b) : But T σ τ := ⟨fun c k hc hk => h.keep _ _ (fun e => hc (hS _ e)) hk, h.used⟩
end
end Go.Proofs.YtlmmpfbdgiokmaaGreat
