/- XX7, XX8, XX9, XX10, XX11, XX12, XX13, XX14, XX15, XX16 in one. -/
import Derived.Test.YteempnebenjkmaaGreatDoorMb
namespace Go.Proofs.YteempnebenjkmaaGreatDoor
open Go.RowKit
set_option linter.unusedSimpArgs false
set_option maxRecDepth 100000
set_option linter.unusedVariables false
variable {T : Nat -> Type} {A : Type}
section
variable {U : Nat -> Prop} {C : ZaA T} {N : Nat} {ρ : Nat -> AV} {P : Program} {h : List (HI T)} {d : Option Nat} {ty t : TypeId} {pos : String} {af : Array Edge} {g : Option (Nat × Bool)} {z : A} {orc : Orc T A} {k : XV T -> List (HI T) -> Option A} {vs : List (XV T)}
theorem ZrF {σ : St} {K : AV -> St -> Prop} {x y : Operand} {e : TypeId} {v : AV} {n m cb sz bytes : Nat} {zv : Value} {cells news : List AV} {B : Option Addr} (ht : Zar P t = some e) (hs : Zav P e = some sz) (hz : ZaS P e = some zv) (hby : Zb5 P e = some bytes) (hzs : zv.cells.size = sz) (hsz : 0 < sz)
 (hown : Own σ e sz v n cells) (hl : m * sz <= news.length) (h1 : ∀ c ∈ news.take (m * sz), c.one = true) (h63 : n + m <= maxLen) (hb : (n + m) * bytes <= 140737488355328)
 (hK : ∀ v' τ, Own τ e sz v' (n + m) (cells ++ news.take (m * sz)) -> App σ v τ v' -> K v' τ) : ZdL P ⟨d, .call ⟨.builtin .append, #[x, y], #[t, t]⟩, ty, pos, af, g⟩ [v, .lst B m cb news] σ K := by
 refine .inr ⟨rfl, fun ρ hρ w Z hH hV => ?_⟩
 have hρ' := hρ
 simp [Op.operands, Call.operands] at hρ'
 obtain ⟨v', σ', w', hr, h2, h3, h4, h5, h6⟩ := Zm5 (ty := ty) (B := B) (m := m) (cb := cb) (news := news) hH (hV v (by simp)) (hV (.lst B m cb news) (by simp)) ht hs hz hby hzs hsz hown hl h1 h63 hb
 refine ⟨v', σ', w', .inl ?_, hK v' σ' h2 h3, h4, h5, h6⟩
 simp [execOp, resolve, invoke, builtin, hρ', hr]
theorem Zuw (A : Option Addr) (n c : Nat) (l : List AV) : (AV.lst A n c l).blk = (AV.lst A n c l).blkO := by cases A <;> rfl
theorem ZnN {A : Option Addr} {n c : Nat} {l : List AV} {g : Nat} (h : (AV.lst A n c l).owns g) : (AV.lst A n c l).blk = some g := (Zuw A n c l).trans h
theorem Zux {τ : St} {e sz E : Nat} {v : AV} {xs : List (T E)} {cells : List AV} (ho : Own τ e sz v xs.length cells) (hl : xs.length <= 140737488355328) (hc : SVs C N ρ (xs.flatMap (C.enc E)) cells) : SV C N ρ (.sl E xs none) v := by
 obtain ⟨B, c, rfl, l1, l2, l3⟩ := ho.form
 exact Zb8.2 ⟨B, c, cells, [], by simp, l1, l2, hl, l3, hc⟩
theorem Zs1 {x y : XV T} {ox oy : Operand} (hU0 : ∀ E xs r, x = .sl E xs (some r) -> U r) (hk : ZqC C P t x y h k = some z) : Zb9 C P U ⟨d, .call ⟨.builtin .append, #[ox, oy], #[t, t]⟩, ty, pos, af, g⟩ [x, y] h k z := by
 unfold ZqC at hk
 split at hk
 ·cases hk
 rename_i e he
 split at hk
 rotate_left
 ·cases hk
 rename_i sz zv by_ hsz hz hby
 split at hk
 rotate_left
 ·cases hk
 rename_i hzs
 have hzs := Nat.eq_of_beq_eq_true hzs
 split at hk
 ·-- nil
  rename_i E ys oy_
  split at hk
  rotate_left
  ·cases hk
  rename_i e1
  have e1 := Nat.eq_of_beq_eq_true e1
  split at hk
  rotate_left
  ·cases hk
  rename_i hroom
  rw [Zbr] at hk
  refine ⟨_, _, hk, fun ρ σ as_ hs H => ?_⟩
  obtain ⟨a, b, rfl, h3, h4⟩ := Zig.1 hs
  rw [Zek.1 h3]
  obtain ⟨B, c, cs, rest, rfl, l1, l2, l3, l4, l5⟩ := Zfp h4
  have hlen := l5.len
  rw [Zcl] at hlen
  have htk : (cs ++ rest).take (ys.length * sz) = cs := by rw [List.take_append_of_le_length (by rw [hlen, e1]; omega), List.take_of_length_le (by rw [hlen, e1]; omega)]
  have hpos := C.pos E
  refine ZrF he hsz hz hby hzs (by omega) (n := 0) (cells := []) ⟨by simp, .inl ⟨rfl, rfl⟩⟩ (by rw [List.length_append, hlen, e1]; omega) (by rw [htk]; exact l5.ones fun v hv => Zew (ZcA ys v hv)) (by unfold maxLen; omega) (by rw [Nat.zero_add]; exact hroom.2) fun v' τ ho ha => ?_
  rw [htk, List.nil_append, Nat.zero_add] at ho
  have hnew : ∀ g, v'.owns g -> σ.blk g = none /\ ¬ σ.used g := fun g hg => by
   obtain ⟨B', c', rfl, _⟩ := ho.form
   have hg := ZnN hg
   rcases ha.new with h1 | ⟨g', h1, h2, h5, _⟩
   ·rw [h1] at hg; cases hg
   ·rw [h1] at hg; injection hg with hg; subst hg; exact ⟨h2, h5⟩
  have hX : Ext σ τ := ⟨fun b x hx => ha.keep b x (by simp [AV.blk]) hx, ha.used⟩
  obtain ⟨g1, g2⟩ := H.newRow hX ho hnew
  refine ⟨_, ?_, g1, g2⟩
  exact ZfK.2 ⟨(ZaD _ _ _).symm, by simp, Zux ho hroom.1 (l5.shut (ZcA ys))⟩
 ·-- ours
  rename_i E xs r E' ys oy_
  split at hk
  rotate_left
  ·cases hk
  rename_i hE
  subst hE
  have hU := hU0 _ _ _ rfl
  split at hk
  rotate_left
  ·cases hk
  rename_i e' sz' hr
  split at hk
  rotate_left
  ·cases hk
  rename_i hc
  obtain ⟨c1, c2, e1⟩ := hc
  have c1 := Nat.eq_of_beq_eq_true c1
  have c2 := Nat.eq_of_beq_eq_true c2
  have e1 := Nat.eq_of_beq_eq_true e1
  subst c1 c2
  split at hk
  rotate_left
  ·cases hk
  rename_i hroom
  rw [Zbr] at hk
  refine ⟨_, _, hk, fun ρ σ as_ hs H => ?_⟩
  obtain ⟨a, b, rfl, h3, h4⟩ := Zig.1 hs
  obtain ⟨rfl, hrN, h3⟩ := ZfK.1 h3
  obtain ⟨n0, cells0, ho0⟩ := H.it r _ hr
  obtain ⟨A0, c0, cs0, rest0, ea, k1, k2, k3, k4, k5⟩ := Zb8.1 h3
  obtain ⟨A1, c1, ea1, _, _, _⟩ := ho0.form
  have hcl := ho0.1
  rw [ea] at ea1
  injection ea1 with i1 i2 i3 i4
  subst i1 i2 i3
  have hlen0 := k5.len
  rw [Zcl] at hlen0
  have hrest : rest0 = [] := by
   have := congrArg List.length i4
   rw [List.length_append, hlen0, hcl, e1] at this
   exact List.eq_nil_of_length_eq_zero (by omega)
  subst hrest
  rw [List.append_nil] at i4
  subst i4
  obtain ⟨B, c, cs, rest, rfl, l1, l2, l3, l4, l5⟩ := Zfp h4
  have hlen := l5.len
  rw [Zcl] at hlen
  have htk : (cs ++ rest).take (ys.length * sz') = cs := by rw [List.take_append_of_le_length (by rw [hlen, e1]; omega), List.take_of_length_le (by rw [hlen, e1]; omega)]
  have hpos := C.pos E'
  refine ZrF he hsz hz hby hzs (by omega) ho0 (by rw [List.length_append, hlen, e1]; omega) (by rw [htk]; exact l5.ones fun v hv => Zew (ZcA ys v hv)) (by unfold maxLen; omega) hroom.2 fun v' τ ho ha => ?_
  rw [htk] at ho
  have hblk : (ρ r).blk = (ρ r).blkO := by rw [ea]; exact Zuw _ _ _ _
  have hnew : ∀ g, v'.owns g -> (ρ r).owns g \/ (σ.blk g = none /\ ¬ σ.used g) := fun g hg => by
   obtain ⟨B', c', rfl, _⟩ := ho.form
   have hg := ZnN hg
   rcases ha.new with h1 | ⟨g', h1, h2, h5, _⟩
   ·rw [h1, hblk] at hg; exact .inl (by rw [ea] at hg ⊢; exact hg)
   ·rw [h1] at hg; injection hg with hg; subst hg; exact .inr ⟨h2, h5⟩
  have hX : But (fun b => (ρ r).owns b) σ τ := ha.but.more fun b hb => by rw [hblk] at hb; rw [ea] at hb ⊢; exact hb
  obtain ⟨g1, g2⟩ := H.grow hU hr hX ho hnew
  refine ⟨_, ?_, g1, g2⟩
  have hcs : SVs C h.length ρ ((xs ++ ys).flatMap (C.enc E')) (cs0 ++ cs) := by rw [List.flatMap_append]; exact k5.app l5
  have ho' : Own τ e' sz' v' (xs ++ ys).length (cs0 ++ cs) := by rw [List.length_append]; exact ho
  exact ZfK.2 ⟨by rw [ZaD], by simp, Zux ho' (by rw [List.length_append]; exact hroom.1) (hcs.shut (ZcA _))⟩
 ·cases hk
theorem Zgc {o : Oper} {r : XV T} (hk : k r h = some z) (hd : ∀ (as_ : List AV) σ (K : AV -> St -> Prop), as_.length = vs.length -> (∃ v, ZcH P o as_ v /\ K (.raw v) σ) -> ZdL P o as_ σ K)
 (hr : ∀ ρ as_, SVs C h.length ρ vs as_ -> ∃ v, ZcH P o as_ v /\ SV C h.length ρ r (.raw v)) : Zb9 C P U o vs h k z :=
 ⟨r, h, hk, ZmF.same fun ρ σ as_ K hs H hK => by
  obtain ⟨v, h1, h2⟩ := hr ρ as_ hs
  exact hd as_ σ K hs.len ⟨v, h1, hK _ h2⟩⟩
theorem Zzb {op : BinOp} {ox oy : Operand} {ty' : TypeId} {x y : XV T} (hk : (ZCi P op t x y fun v => k v h) = some z) : Zb9 C P U ⟨d, .binOp op t ox oy ty', ty, pos, af, g⟩ [x, y] h k z := by
 obtain ⟨r, h1, h2⟩ := ZsW hk
 refine Zgc h1 (fun as_ σ K hl hp => ?_) (fun ρ as_ hs => ?_)
 ·match as_, hl with
  | [a, b], _ => exact .inl hp
 ·obtain ⟨a, b, rfl, h3, h4⟩ := Zig.1 hs
  obtain ⟨v, h5, h6⟩ := h2 C _ ρ a b h3 h4
  refine ⟨v, fun ρ' hρ w _ _ => ?_, h6⟩
  simp [Op.operands] at hρ
  have := h5 w ox oy
  simp only [execOp]
  rw [hρ.1, hρ.2, Sem.run_bind, this]
  simp
theorem ZA8 {op : UnOp} {ox : Operand} {x r : XV T} (hk : k r h = some z) (hr : ∀ ρ a, SV C h.length ρ x a -> ∃ v, (∀ w : World, (Op.unary op a.val).run P w = .ok v w) /\ SV C h.length ρ r (.raw v)) : Zb9 C P U ⟨d, .unOp op t ox, ty, pos, af, g⟩ [x] h k z := by
 refine Zgc hk (fun as_ σ K hl hp => ?_) (fun ρ as_ hs => ?_)
 ·match as_, hl with
  | [a], _ => exact .inl hp
 ·obtain ⟨a, rfl, h3⟩ := ZeG.1 hs
  obtain ⟨v, h5, h6⟩ := hr ρ a h3
  refine ⟨v, fun ρ' hρ w _ _ => ?_, h6⟩
  simp [Op.operands] at hρ
  simp only [execOp]
  rw [hρ, Sem.run_bind, h5]
  simp
theorem ZwQ {t' : TypeId} {ox : Operand} {x r : XV T} (hk : k r h = some z) (hr : ∀ ρ a, SV C h.length ρ x a -> ∃ v, (∀ w : World, (convert t t' a.val).run P w = .ok v w) /\ SV C h.length ρ r (.raw v)) : Zb9 C P U ⟨d, .convert t t' ox, ty, pos, af, g⟩ [x] h k z := by
 refine Zgc hk (fun as_ σ K hl hp => ?_) (fun ρ as_ hs => ?_)
 ·match as_, hl with
  | [a], _ => exact .inl hp
 ·obtain ⟨a, rfl, h3⟩ := ZeG.1 hs
  obtain ⟨v, h5, h6⟩ := hr ρ a h3
  refine ⟨v, fun ρ' hρ w _ _ => ?_, h6⟩
  simp [Op.operands] at hρ
  simp only [execOp]
  rw [hρ, Sem.run_bind, h5]
  simp
theorem ZrG {oc oa ob : Operand} {c : Bool} {a b r : XV T} (hk : k r h = some z) (hr : r = if c then a else b) : Zb9 C P U ⟨d, .pick oc oa ob, ty, pos, af, g⟩ [.bool c, a, b] h k z := by
 refine ⟨_, _, hk, ZmF.same fun ρ σ as_ K hs H hK => ?_⟩
 obtain ⟨x, y, w, rfl, h1, h2, h3⟩ := ZDP.1 hs
 rw [Za7.1 h1]
 refine ⟨c, by simp, hK _ ?_⟩
 subst hr
 cases c
 ·exact h3
 ·exact h2
theorem Zlw {x : Operand} {f off n : Nat} {l : List (Nat × Option Nat × Option Bool)} {b : Option Bool} {E i j o : Nat} (hl : Zba P t = some l) (hf : l[f]? = some (off, some (n + 1), b)) (hk : k (.ap E i j (o + off)) h = some z) : Zb9 C P U ⟨d, .fieldAddr t x f, ty, pos, af, g⟩ [.ap E i j o] h k z := by
 refine ⟨_, _, hk, fun ρ σ as_ hs H => ?_⟩
 obtain ⟨a, rfl, h3⟩ := ZeG.1 hs
 obtain ⟨c, rfl, h4, h5⟩ := Zo1.1 h3
 exact ⟨l, off, n, b, hl, hf, ρ, by rw [Zbl]; exact Zo1.2 ⟨c, by rw [Nat.add_assoc]; rfl, h4, h5⟩, H, .refl _ _ _ _⟩
theorem ZqK {x y : Operand} {E i lo m sz : Nat} {co : Option Nat} {e : TypeId} {ki : IntKind} {n : Int} (he : Zar P t = some e) (hsz : Zav P e = some sz) (h1 : Nat.beq sz (C.sz E) = true) (hn : 0 <= n /\ n < (m : Int)) (hk : k (.ap E i (lo + n.toNat) 0) h = some z) : Zb9 C P U ⟨d, .indexAddr t x y, ty, pos, af, g⟩ [.as E i lo m co, .int ki n] h k z := by
 have e1 := Nat.eq_of_beq_eq_true h1
 refine ⟨_, h, hk, ZmF.same fun ρ σ as_ K hs H hK => ?_⟩
 obtain ⟨a, b, rfl, h3, h4⟩ := Zig.1 hs
 rcases ZbQ.1 h3 with ⟨ad, c, rfl, hA⟩ | ⟨_, hm0, _⟩
 rotate_left
 ·omega
 rw [Zaw.1 h4]
 obtain ⟨bb, q1, q2⟩ := hA.at_
 have hle := hA.le
 have had := q2 (by omega)
 subst had
 refine .inl ⟨.pointer (some ⟨bb, (lo + n.toNat) * sz, none⟩), fun ρ' hρ w _ _ => ?_, hK _ (Zo1.2 ⟨bb, by rw [Nat.add_zero, e1]; rfl, hA.lt, _, q1, by omega⟩)⟩
 simp [Op.operands] at hρ
 have hj : n = ((n.toNat : Nat) : Int) := by omega
 have hr := Zic (P := P) (w := w) (ad := ⟨bb, lo * C.sz E, none⟩) (n := m) (c := c) (k := ki) (j := n.toNat) he hsz (by omega)
 rw [<- hj] at hr
 simp only [execOp, hρ.1, hρ.2, Sem.run_bind, hr, Result.andThen_ok, Sem.run_pure]
 rw [e1, Zbl, Nat.add_mul]
theorem Zkm {n : Int} {i o sz : Nat} {h : List (HI T)} {k : XV T -> List (HI T) -> Option A} : ∀ {r j : Nat}, Zo4 n i o sz h k r j = some z -> ∃ j', j <= j' /\ j' < j + r /\ n = (j' : Int) /\ k (.ptr i (o + j' * sz)) h = some z
 | 0, _, hk => by cases hk
 | r + 1, j, hk => by
  unfold Zo4 at hk
  split at hk
  ·rename_i hn
   exact ⟨j, Nat.le_refl _, by omega, hn, hk⟩
  ·obtain ⟨j', h1, h2, h3, h4⟩ := Zkm hk
   exact ⟨j', by omega, by omega, h3, h4⟩
theorem Zpc {x y : Operand} {i o len sz : Nat} {e : TypeId} {ki : IntKind} {n : Int} (he : Zup P t = some (len, e)) (hsz : Zav P e = some sz) (hk : Zo4 n i o sz h k len 0 = some z) : Zb9 C P U ⟨d, .indexAddr t x y, ty, pos, af, g⟩ [.ptr i o, .int ki n] h k z := by
 obtain ⟨j, _, hj, hnj, hk2⟩ := Zkm hk
 clear hk
 subst hnj
 refine ⟨_, h, hk2, ZmF.same fun ρ σ as_ K hs H hK => ?_⟩
 obtain ⟨a, b, rfl, h3, h4⟩ := Zig.1 hs
 obtain ⟨c, rfl, h5, h6⟩ := Zdp.1 h3
 rw [Zaw.1 h4]
 refine .inl ⟨.pointer (some ⟨c, o + j * sz, none⟩), fun ρ' hρ w _ _ => ?_, hK _ (Zdp.2 ⟨c, rfl, h5, h6⟩)⟩
 simp [Op.operands, ptr] at hρ
 have hu : P.underlying t = some (.array len e) := by
  unfold Zup at he
  split at he
  ·rename_i n' e' hq
   injection he with he
   injection he with h1 h2
   subst h1 h2
   exact hq
  ·cases he
 have hr : (Instr.indexAt t (.pointer (some ⟨c, o, none⟩)) (.int ki (j : Int))).run P w = .ok (.pointer (some ⟨c, o + j * sz, none⟩)) w := by
  have hjl : j < len := by omega
  have ha := Zbl c o (j * sz)
  simp [Instr.indexAt, asIntOf, run_underlying hu, ZbM hsz, Instr.sureAddr, hjl, ha]
 simp only [execOp, hρ.1, hρ.2, Sem.run_bind, hr, Result.andThen_ok, Sem.run_pure]
theorem Zpd {x hi mx : Operand} {lo : Option Operand} {E i a0 n0 : Nat} {co : Option Nat} {ix : List (XV T)} (hk : (Zy6 C P t lo.isSome E n0 co ix fun v => k v h) = some z) : Zb9 C P U ⟨d, .slice t x lo (some hi) (some mx), ty, pos, af, g⟩ (.as E i a0 n0 co :: ix) h k z := by
 unfold Zy6 at hk
 split at hk
 rotate_left
 ·cases hk
 rename_i e he
 split at hk
 rotate_left
 ·cases hk
 rename_i sz hsz
 split at hk
 rotate_left
 ·cases hk
 rename_i h1
 split at hk
 rotate_left
 ·cases hk
 rename_i l u m hends
 split at hk
 rotate_left
 ·cases hk
 rename_i hb
 obtain ⟨b1, b2, b3, b4⟩ := hb
 refine ⟨_, h, hk, ZmF.same fun ρ σ as_ K hs H hK => ?_⟩
 obtain ⟨a, bs, rfl, h3, h4⟩ := hs.to
 have hse : ∀ n c, ZbE n c lo.isSome (some hi).isSome (some mx).isSome bs l.toNat u.toNat m.toNat := fun n c => by
  generalize lo.isSome = bl at hends ⊢
  unfold ZrC at hends
  split at hends
  ·injection hends with hends; injection hends with f1 f2; injection f2 with f2 f3; subst f1 f2 f3
   obtain ⟨b, b', rfl, h5, h6⟩ := Zig.1 h4
   rw [Zaw.1 h5, Zaw.1 h6]
   exact ⟨rfl, ⟨_, (AV.val_raw _).trans (congrArg (Value.int _) (Int.toNat_of_nonneg (by omega)).symm)⟩, ⟨_, (AV.val_raw _).trans (congrArg (Value.int _) (Int.toNat_of_nonneg (by omega)).symm)⟩⟩
  ·injection hends with hends; injection hends with f1 f2; injection f2 with f2 f3; subst f1 f2 f3
   obtain ⟨b, bs', rfl, h5, h6⟩ := h4.to
   obtain ⟨b', b'', rfl, h7, h8⟩ := Zig.1 h6
   rw [Zaw.1 h5, Zaw.1 h7, Zaw.1 h8]
   exact ⟨⟨_, (AV.val_raw _).trans (congrArg (Value.int _) (Int.toNat_of_nonneg (by omega)).symm)⟩, ⟨_, (AV.val_raw _).trans (congrArg (Value.int _) (Int.toNat_of_nonneg (by omega)).symm)⟩, ⟨_, (AV.val_raw _).trans (congrArg (Value.int _) (Int.toNat_of_nonneg (by omega)).symm)⟩⟩
  ·cases hends
 rcases ZbQ.1 h3 with ⟨ad, c, rfl, hA⟩ | ⟨rfl, hn0, hiN, hρi, hco⟩
 ·have hcu : m.toNat <= c := by
   have := hA.le
   cases co with
   | none => rw [Option.getD_none] at b4; omega
   | some c' => have := hA.cap c' rfl; rw [Option.getD_some] at b4; omega
  refine ⟨.slice (if m.toNat = l.toNat then (some ad : Option Addr) else (some ad).map (·.add (l.toNat * sz))) (u.toNat - l.toNat) (m.toNat - l.toNat), fun ρ' hρ w _ _ => ?_, hK _ ZbV⟩
  have hρ' : ρ' x = .slice (some ad) n0 c /\ (lo.toArray ++ (some hi).toArray ++ (some mx).toArray).toList.map ρ' = bs.map AV.val := by
   simp [Op.operands] at hρ ⊢
   exact hρ
  have hr := Zf4 (P := P) (w := w) (A := some ad) he hsz hρ'.2 (hse n0 c) (by omega) (by omega) hcu
  simp only [execOp, hρ'.1, Sem.run_bind, hr, Result.andThen_ok, Sem.run_pure]
 ·have hm0 : m.toNat = 0 := by
   cases co with
   | none => rw [Option.getD_none] at b4; omega
   | some c' => have := hco c' rfl; rw [Option.getD_some] at b4; omega
  exact ⟨e, sz, he, hsz, l.toNat, u.toNat, m.toNat, hse _ _, by omega, by omega, by omega, hK _ ZbV⟩
theorem ZqL {x : Operand} {lo hi : Option Operand} {E i a0 n0 : Nat} {co : Option Nat} {ix : List (XV T)} (hk : (ZCF C P t lo.isSome hi.isSome (.as E i a0 n0 co) ix fun v => k v h) = some z) : Zb9 C P U ⟨d, .slice t x lo hi none, ty, pos, af, g⟩ (.as E i a0 n0 co :: ix) h k z := by
 unfold ZCF at hk
 dsimp only at hk
 ·split at hk
  ·rename_i e he
   split at hk
   ·rename_i sz hsz
    split at hk
    ·rename_i h1
     have e1 := Nat.eq_of_beq_eq_true h1
     split at hk
     ·rename_i l u hends
      split at hk
      ·rename_i hb
       obtain ⟨b1, b2, b3, b4⟩ := hb
       refine ⟨_, h, hk, ZmF.same fun ρ σ as_ K hs H hK => ?_⟩
       obtain ⟨a, bs, rfl, h3, h4⟩ := hs.to
       rcases ZbQ.1 h3 with ⟨ad, c, rfl, hA⟩ | ⟨rfl, hn0, hiN, hρi, hco⟩
       rotate_left
       ·have hlu : l.toNat = 0 /\ u.toNat = 0 := by
         cases co with
         | none => rw [Option.getD_none] at b3; omega
         | some c' => have := hco c' rfl; rw [Option.getD_some] at b3; omega
        subst hn0
        refine ⟨e, sz, he, hsz, 0, 0, 0, ?_, Nat.le_refl _, Nat.le_refl _, Nat.le_refl _, ?_⟩
        ·have hse : ZbE 0 0 lo.isSome hi.isSome (none : Option Operand).isSome bs l.toNat u.toNat 0 := by
          generalize lo.isSome = bl at hends ⊢
          generalize hi.isSome = bh at hends ⊢
          unfold ZqA at hends
          split at hends
          ·injection hends with hends; injection hends with f1 f2; subst f1 f2
           rw [ZbA] at h4; subst h4
           exact ⟨rfl, by simp, rfl⟩
          ·injection hends with hends; injection hends with f1 f2; subst f1 f2
           obtain ⟨b, rfl, h5⟩ := ZeG.1 h4
           rw [Zaw.1 h5]
           exact ⟨⟨_, (AV.val_raw _).trans (congrArg (Value.int _) (Int.toNat_of_nonneg (by omega)).symm)⟩, by simp, rfl⟩
          ·injection hends with hends; injection hends with f1 f2; subst f1 f2
           obtain ⟨b, rfl, h5⟩ := ZeG.1 h4
           rw [Zaw.1 h5]
           exact ⟨rfl, ⟨_, (AV.val_raw _).trans (congrArg (Value.int _) (Int.toNat_of_nonneg (by omega)).symm)⟩, rfl⟩
          ·injection hends with hends; injection hends with f1 f2; subst f1 f2
           obtain ⟨b, b', rfl, h5, h6⟩ := Zig.1 h4
           rw [Zaw.1 h5, Zaw.1 h6]
           exact ⟨⟨_, (AV.val_raw _).trans (congrArg (Value.int _) (Int.toNat_of_nonneg (by omega)).symm)⟩, ⟨_, (AV.val_raw _).trans (congrArg (Value.int _) (Int.toNat_of_nonneg (by omega)).symm)⟩, rfl⟩
          ·cases hends
         rw [hlu.1, hlu.2] at hse
         exact hse
        ·refine hK _ (ZbQ.2 (.inr ⟨by simp, by omega, hiN, hρi, fun c' hc' => ?_⟩))
         cases co with
         | none => cases hc'
         | some c0 => injection hc' with hc'; have := hco c0 rfl; dsimp only at hc'; omega
       have hle := hA.le
       have hcu : u.toNat <= c := by
        cases co with
        | none => rw [Option.getD_none] at b3; omega
        | some c' => have := hA.cap c' rfl; rw [Option.getD_some] at b3; omega
       have hse : ZbE n0 c lo.isSome hi.isSome (none : Option Operand).isSome bs l.toNat u.toNat c := by
        generalize lo.isSome = bl at hends ⊢
        generalize hi.isSome = bh at hends ⊢
        unfold ZqA at hends
        split at hends
        ·injection hends with hends; injection hends with f1 f2; subst f1 f2
         rw [ZbA] at h4; subst h4
         exact ⟨rfl, by simp, rfl⟩
        ·injection hends with hends; injection hends with f1 f2; subst f1 f2
         obtain ⟨b, rfl, h5⟩ := ZeG.1 h4
         rw [Zaw.1 h5]
         exact ⟨⟨_, (AV.val_raw _).trans (congrArg (Value.int _) (Int.toNat_of_nonneg (by omega)).symm)⟩, by simp, rfl⟩
        ·injection hends with hends; injection hends with f1 f2; subst f1 f2
         obtain ⟨b, rfl, h5⟩ := ZeG.1 h4
         rw [Zaw.1 h5]
         exact ⟨rfl, ⟨_, (AV.val_raw _).trans (congrArg (Value.int _) (Int.toNat_of_nonneg (by omega)).symm)⟩, rfl⟩
        ·injection hends with hends; injection hends with f1 f2; subst f1 f2
         obtain ⟨b, b', rfl, h5, h6⟩ := Zig.1 h4
         rw [Zaw.1 h5, Zaw.1 h6]
         exact ⟨⟨_, (AV.val_raw _).trans (congrArg (Value.int _) (Int.toNat_of_nonneg (by omega)).symm)⟩, ⟨_, (AV.val_raw _).trans (congrArg (Value.int _) (Int.toNat_of_nonneg (by omega)).symm)⟩, rfl⟩
        ·cases hends
       have hval : ∀ A' : Option Addr, (if c = l.toNat then (some ad : Option Addr) else (some ad).map (·.add (l.toNat * sz))) = some (if c = l.toNat then ad else ad.add (l.toNat * sz)) := fun _ => by split <;> rfl
       have hsv : SV C h.length ρ (.as E i (a0 + l.toNat) (u.toNat - l.toNat) (co.map (· - l.toNat))) (.raw (.slice (some (if c = l.toNat then ad else ad.add (l.toNat * sz))) (u.toNat - l.toNat) (c - l.toNat))) := by
        refine ZbQ.2 (.inl ⟨_, _, rfl, hA.lt, by omega, ?_, by omega, ?_, fun c' hc' => ?_⟩)
        ·have := hA.max; omega
        ·obtain ⟨bb, q1, q2⟩ := hA.at_
         refine ⟨bb, by rw [q1]; congr 1; omega, fun hc => ?_⟩
         rw [if_neg (by omega), q2 (by omega), Zbl, e1, Nat.add_mul]
        ·cases co with
         | none => cases hc'
         | some c0 =>
          injection hc' with hc'
          have := hA.cap c0 rfl
          dsimp only at hc'
          omega
       refine ⟨_, fun ρ' hρ w _ _ => ?_, hK _ hsv⟩
       have hρ' : ρ' x = .slice (some ad) n0 c /\ (lo.toArray ++ hi.toArray ++ (none : Option Operand).toArray).toList.map ρ' = bs.map AV.val := by
        simp [Op.operands] at hρ ⊢
        exact hρ
       have hr := Zf4 (P := P) (w := w) (A := some ad) he hsz hρ'.2 hse (by omega) hcu (Nat.le_refl _)
       rw [hval none] at hr
       simp only [execOp, hρ'.1, Sem.run_bind, hr, Result.andThen_ok, Sem.run_pure]
      ·cases hk
     ·cases hk
    ·cases hk
   ·cases hk
  ·cases hk
theorem Zs2 {E i j o : Nat} {kp : Bool} {ox : Operand} {e : TypeId} {xs : List (T E)} {x : T E} (hi : h[i]? = some (.arr e E kp xs)) (ho : o <= C.sz E) (hj : xs[j]? = some x) (hk : (Zdq (Ze0 P t) (Zav P t) ((C.enc E x).drop o) 0 fun v => k v h) = some z) : Zb9 C P U ⟨d, .load t ox, ty, pos, af, g⟩ [.ap E i j o] h k z := by
 obtain ⟨r, h1, h2⟩ := ZcO hk
 refine ⟨_, _, h1, fun ρ σ as_ hs H => ?_⟩
 obtain ⟨a, rfl, h3⟩ := ZeG.1 hs
 obtain ⟨b, rfl, hiN, K, hρ, hjK⟩ := Zo1.1 h3
 obtain ⟨pre, rest, hb2, hb3, hb4, hb5, hb6⟩ := H.arrAt hi hρ
 obtain ⟨p, q, r', e1, e2, e3⟩ := ZA6 (rest := rest) (hb4 h.length ρ) hj
 have hql := e3.len
 rw [C.len] at hql
 obtain ⟨a, h4, h5⟩ := h2 h.length ρ (q.drop o) r' (e3.drop o)
 refine ⟨a, ?_, ρ, h5, H, .refl _ _ _ _⟩
 unfold Zdk ptr
 dsimp only
 rw [hb2, e1]
 dsimp only
 refine Zo9 (by simp only [List.length_append]; omega) ?_
 rw [<- e2, <- List.drop_drop, List.drop_left, List.drop_append_of_le_length (by omega)]
 exact h4
theorem Ze6.svs : ∀ {ps bs : List Nat}, Ze6 N ρ ps bs -> SVs C N ρ (ps.map fun i => .ptr i 0) (bs.map fun b => ptr b 0)
 | [], [], _ => .none
 | i :: ps, b :: bs, h => .cons (Zdp.2 ⟨b, rfl, h.1.1, h.1.2⟩) (Ze6.svs h.2)
 | [], _ :: _, h => h.elim
 | _ :: _, [], h => h.elim
theorem ZCK {α β : Type} {as_ : Array α} {f : α -> β} {y : β} (h : as_.toList.map f = [y]) : ∃ x, as_ = #[x] /\ f x = y := by
 obtain ⟨l⟩ := as_
 match l, h with
 | [x], h => exact ⟨x, rfl, by simpa using h⟩
theorem ZrH {as_ : Array Operand} {ts : Array TypeId} {e : TypeId} {B : Option Addr} {n c : Nat} {cells : List AV} (hts : ts[0]? = some t) (ht : Zar P t = some e) : ZcH P ⟨d, .call ⟨.builtin .len, as_, ts⟩, ty, pos, af, g⟩ [.lst B n c cells] (.int .i64 n) := fun ρ hρ w _ _ => by
 obtain ⟨x, rfl, hx⟩ := ZCK (as_ := as_) (f := ρ) (y := .slice B n c) (by simpa [Op.operands, Call.operands] using hρ)
 simp [execOp, resolve, invoke, builtin, Builtin.len_, hx, hts, run_underlying (Za0 ht), goInt]
theorem Zzc {as_ : Array Operand} {ts : Array TypeId} {e : TypeId} {B : Option Addr} {n c : Nat} (hts : ts[0]? = some t) (ht : Zar P t = some e) : ZcH P ⟨d, .call ⟨.builtin .len, as_, ts⟩, ty, pos, af, g⟩ [.raw (.slice B n c)] (.int .i64 n) := fun ρ hρ w _ _ => by
 obtain ⟨x, rfl, hx⟩ := ZCK (as_ := as_) (f := ρ) (y := .slice B n c) (by simpa [Op.operands, Call.operands] using hρ)
 simp [execOp, resolve, invoke, builtin, Builtin.len_, hx, hts, run_underlying (Za0 ht), goInt]
theorem Zzd {as_ : Array Operand} {ts : Array TypeId} {s : List UInt8} (hts : ts[0]? = some t) (ht : P.underlying t = some .string) : ZcH P ⟨d, .call ⟨.builtin .len, as_, ts⟩, ty, pos, af, g⟩ [.raw (.string ⟨s.toArray⟩)] (.int .i64 s.length) := fun ρ hρ w _ _ => by
 obtain ⟨x, rfl, hx⟩ := ZCK (as_ := as_) (f := ρ) (y := .string ⟨s.toArray⟩) (by simpa [Op.operands, Call.operands] using hρ)
 have hl : (ByteArray.mk s.toArray).size = s.length := by show s.toArray.size = _; simp
 simp [execOp, resolve, invoke, builtin, Builtin.len_, hx, hts, run_underlying ht, goInt, hl]
theorem ZrI {tou : Tou T} {c : Call} (hO : orc.Ok C P tou) (hU : ∀ i ∈ ZiC tou (.call c) vs h, U i) (hn : c.args.size + (match c.callee with | .value _ => 1 | _ => 0) = vs.length) (hk : ZsX C P orc c vs h k = some z) : Zb9 C P U ⟨d, .call c, ty, pos, af, g⟩ vs h k z := by
 obtain ⟨callee, as_, ts⟩ := c
 unfold ZsX at hk
 dsimp only at hk hn
 split at hk
 ·rename_i y f args
  obtain ⟨r, h', h1, h2⟩ := hO.call _ _ _ _ _ hk
  refine ⟨r, h', h1, fun ρ σ bs hs H => ?_⟩
  obtain ⟨a, cs, rfl, h3, h4⟩ := hs.to
  rw [Zju.1 h3]
  refine ⟨f, #[], #[], by simp, ?_⟩
  have := h2 ρ σ cs h4 H
  simpa using this.mono fun rv τ ⟨ρ', g1, g2, g3⟩ => ⟨ρ', g1, g2, g3.mono hU⟩
 ·rename_i y f ps args
  rw [ZbG] at hk
  obtain ⟨r, h', h1, h2⟩ := hO.call _ _ _ _ _ hk
  refine ⟨r, h', h1, fun ρ σ bs hs H => ?_⟩
  obtain ⟨a, cs, rfl, h3, h4⟩ := hs.to
  obtain ⟨ks, rfl, h5⟩ := Ziz.1 h3
  refine ⟨f, #[], (ks.map fun b => Value.pointer (some ⟨b, 0, none⟩)).toArray, rfl, ?_⟩
  have := h2 ρ σ (cs ++ ks.map fun b => ptr b 0) (h4.app h5.svs) H
  have e : (#[] : Array Value).toList.map AV.raw ++ cs ++ (ks.map fun b => Value.pointer (some ⟨b, 0, none⟩)).toArray.toList.map AV.raw = cs ++ ks.map fun b => ptr b 0 := by simp [ptr, Function.comp_def]
  rw [e]
  exact this.mono fun rv τ ⟨ρ', g1, g2, g3⟩ => ⟨ρ', g1, g2, g3.mono hU⟩
 ·split at hk
  ·rename_i E xs ow t' hts
   split at hk
   ·rename_i e he
    refine Zgc hk (fun bs σ K hl hp => ?_) (fun ρ bs hs => ?_)
    ·match bs, hl with
     | [b], _ => exact .inl hp
    ·obtain ⟨a, rfl, h3⟩ := ZeG.1 hs
     obtain ⟨B, c, cs, rest, rfl, _⟩ := Zfp h3
     exact ⟨_, ZrH hts he, Zaw.2 rfl⟩
   ·cases hk
  ·rename_i t' hts
   split at hk
   ·rename_i e he
    refine Zgc hk (fun bs σ K hl hp => ?_) (fun ρ bs hs => ?_)
    ·match bs, hl with
     | [b], _ => exact .inl hp
    ·obtain ⟨a, rfl, h3⟩ := ZeG.1 hs
     rw [Zek.1 h3]
     exact ⟨_, ZrH hts he, Zaw.2 rfl⟩
   ·cases hk
  ·rename_i s t' hts
   split at hk
   ·rename_i he
    refine Zgc hk (fun bs σ K hl hp => ?_) (fun ρ bs hs => ?_)
    ·match bs, hl with
     | [b], _ => exact .inl hp
    ·obtain ⟨a, rfl, h3⟩ := ZeG.1 hs
     rw [ZgH.1 h3]
     exact ⟨_, Zzd hts he, Zaw.2 rfl⟩
   ·cases hk
  ·rename_i E i lo n co t' hts
   split at hk
   ·rename_i e he
    refine ⟨_, h, hk, ZmF.same fun ρ σ bs K hs H hK => ?_⟩
    obtain ⟨a, rfl, h3⟩ := ZeG.1 hs
    rcases ZbQ.1 h3 with ⟨ad, c, rfl, hA⟩ | ⟨rfl, hn0, _⟩
    ·exact .inl ⟨_, Zzc hts he, hK _ (Zaw.2 rfl)⟩
    ·subst hn0
     exact .inl ⟨_, ZrH hts he, hK _ (Zaw.2 rfl)⟩
   ·cases hk
  ·rename_i l t' hts
   split at hk
   ·rename_i e he
    refine Zgc hk (fun bs σ K hl hp => ?_) (fun ρ bs hs => ?_)
    ·match bs, hl with
     | [b], _ => exact .inl hp
    ·obtain ⟨a, rfl, h3⟩ := ZeG.1 hs
     obtain ⟨B, c, cs, rest, rfl, _⟩ := Zuj.1 h3
     exact ⟨_, ZrH hts he, Zaw.2 rfl⟩
   ·cases hk
  ·cases hk
 ·split at hk
  ·rename_i t1 t2 hts
   obtain ⟨l⟩ := as_
   obtain ⟨tl⟩ := ts
   simp only at hts
   subst hts
   match l, hn with
   | [ox, oy], _ =>
   split at hk
   ·rename_i ht
    have ht := Nat.eq_of_beq_eq_true ht
    subst ht
    rw [cond_eq_ite] at hk
    split at hk
    ·rename_i hm
     exact Zza hm (fun E i lo n co e => hU i (by subst e; exact List.mem_singleton.2 rfl)) hk
    ·exact Zs1 (fun E xs r e => hU r (by subst e; exact List.mem_singleton.2 rfl)) hk
   ·cases hk
  ·cases hk
 ·cases hk
theorem ZqM {o : Oper} {E : Nat} {xs ys : List (T E)} {y : XV T} (hs : Zb9 C P U o [.sl E xs none, y] h k z) : Zb9 C P U o [.slx E xs ys, y] h k z := by
 obtain ⟨r, h', h1, h2⟩ := hs
 refine ⟨r, h', h1, fun ρ σ as_ hs H => h2 ρ σ as_ ?_ H⟩
 obtain ⟨a, b, rfl, k1, k2⟩ := Zig.1 hs
 exact .cons ((Wk.spare _ _ _).sv k1) k2
theorem ZCL {N : Nat} {ρ : Nat -> AV} {v : XV T} {a : AV} (hs : SV C N ρ v a) : SV C N ρ v.wk a := by
 cases v <;> first | exact hs | exact (Wk.spare _ _ _).sv hs
theorem ZA9 {N : Nat} {ρ : Nat -> AV} {as_ : List AV} {vs : List (XV T)} (hs : SVs C N ρ vs as_) : SVs C N ρ (vs.map XV.wk) as_ := by
 induction vs generalizing as_ with
 | nil => exact hs
 | cons v vs ih => obtain ⟨a, bs, rfl, h1, h2⟩ := hs.to; exact .cons (ZCL h1) (ih h2)
theorem ZBa {o : Oper} (hs : Zb9 C P U o (vs.map XV.wk) h k z) : Zb9 C P U o vs h k z := by
 obtain ⟨r, h', h1, h2⟩ := hs
 exact ⟨r, h', h1, fun ρ σ as_ hs H => h2 ρ σ as_ (ZA9 hs) H⟩
theorem Zuy : ∀ vs : List (XV T), gvs (vs.map XV.wk) = gvs vs
 | [] => rfl
 | v :: vs => by
  rw [List.map_cons]
  cases v <;> first | exact Zuy vs | exact congrArg (List.cons _) (Zuy vs)
theorem ZwR {tou : Tou T} {c : Call} (hb : Zlr c = true) {i : Nat} (hi : i ∈ ZiC tou (.call c) (vs.map XV.wk) h) : i ∈ ZiC tou (.call c) vs h := by
 obtain ⟨callee, as_, ts⟩ := c
 cases callee with
 | builtin b =>
  cases vs with
  | nil => exact hi
  | cons v vs =>
   have key : ∀ {u : XV T}, i ∈ gvs ((u :: vs).map XV.wk) -> i ∈ gvs (u :: vs) := fun h => by rw [Zuy] at h; exact h
   cases v with
   | sl E xs o => cases o <;> cases b <;> first | exact hi | exact key hi
   | _ => cases b <;> first | exact hi | exact key hi
 | _ => cases hb
theorem Zs3 {tou : Tou T} {o : Op} (hO : orc.Ok C P tou) (hU : ∀ i ∈ ZiC tou o vs h, U i) (hn : o.operands.size = vs.length) (hk : ZCI C P orc o vs h k = some z) : Zb9 C P U ⟨d, o, ty, pos, af, g⟩ vs h k z := by
 unfold ZCI at hk
 split at hk
 ·rw [ZdU] at hk
  exact ⟨_, _, hk, ZmF.same fun ρ σ as_ K hs H hK => by obtain ⟨a, rfl, h1⟩ := ZeG.1 hs; exact hK a h1⟩
 ·rw [ZdU] at hk
  exact ⟨_, _, hk, ZmF.same fun ρ σ as_ K hs H hK => by obtain ⟨a, rfl, h1⟩ := ZeG.1 hs; exact hK a h1⟩
 ·rw [ZdU, ZdU] at hk
  rename_i c a b
  cases c
  ·exact ZrG hk rfl
  ·exact ZrG hk rfl
 ·split at hk
  ·rw [ZbG, Zbr] at hk
   exact Zuq ‹_› hk
  ·cases hk
 ·split at hk
  ·rw [ZbG, Zbr] at hk
   exact Zy8 ‹_› hk
  ·cases hk
 ·split at hk
  ·split at hk
   ·rw [ZbG] at hk
    exact Zur ‹_› ‹_› ‹_› hk
   ·cases hk
  ·cases hk
 ·split at hk
  ·split at hk
   ·split at hk
    ·split at hk
     ·simp only [Zbr] at hk
      exact Zo6 ‹_› ‹_› ‹_› ‹_› ‹_› hk
     ·cases hk
    ·cases hk
   ·split at hk
    ·split at hk
     ·rw [ZbG] at hk
      exact Zls ‹_› ‹_› ‹_› ‹_› ‹_› hk
     ·cases hk
    ·cases hk
   ·cases hk
  ·cases hk
 ·split at hk
  ·exact ZwM ‹_› hk
  ·cases hk
 ·exact ZqF hk
 ·exact ZsY hk
 ·split at hk
  ·split at hk
   ·split at hk
    ·rw [ZbG, Zbr] at hk
     exact Zus (hU _ (List.mem_singleton.2 rfl)) ‹_› ‹_› ‹_› hk
    ·cases hk
   ·cases hk
  ·cases hk
 ·split at hk
  ·rename_i hi
   split at hk
   ·rename_i hE
    obtain ⟨hE, ho⟩ := hE
    subst hE
    obtain ⟨x, hx, hk⟩ := ZCJ hk
    exact Zs2 hi ho hx hk
   ·cases hk
  ·cases hk
 ·exact ZwN hk
 ·split at hk
  ·exact ⟨_, _, hk, ZmF.same fun ρ σ as_ K hs H hK => by
    obtain ⟨a, rfl, h1⟩ := ZeG.1 hs
    obtain ⟨b, rfl, _⟩ := Zdp.1 h1
    exact ⟨rfl, hK _ h1⟩⟩
  ·exact ⟨_, _, hk, ZmF.same fun ρ σ as_ K hs H hK => by
    obtain ⟨a, rfl, h1⟩ := ZeG.1 hs
    obtain ⟨b, rfl, _⟩ := Zo1.1 h1
    exact ⟨rfl, hK _ h1⟩⟩
  ·exact ⟨_, _, hk, ZmF.same fun ρ σ as_ K hs H hK => by
    obtain ⟨a, rfl, h1⟩ := ZeG.1 hs
    obtain ⟨bs, rfl, _⟩ := Ziz.1 h1
    exact ⟨rfl, hK _ h1⟩⟩
  ·exact ⟨_, _, hk, ZmF.same fun ρ σ as_ K hs H hK => by
    obtain ⟨a, rfl, h1⟩ := ZeG.1 hs
    obtain ⟨ad, cs, rest, rfl, _⟩ := Zo2.1 h1
    exact ⟨rfl, hK _ h1⟩⟩
  ·exact ⟨_, _, hk, ZmF.same fun ρ σ as_ K hs H hK => by
    obtain ⟨a, rfl, h1⟩ := ZeG.1 hs
    obtain ⟨ad, cs, rest, rfl, _⟩ := ZsU.1 h1
    exact ⟨rfl, hK _ h1⟩⟩
  ·exact ⟨_, _, hk, ZmF.same fun ρ σ as_ K hs H hK => by
    obtain ⟨a, rfl, h1⟩ := ZeG.1 hs
    rw [Zju.1 h1]
    exact ⟨rfl, hK _ (by rw [<- Zju.1 h1]; exact h1)⟩⟩
  ·cases hk
 ·split at hk
  ·rename_i r hr
   rw [ZdU] at hk
   exact ⟨_, _, hk, ZmF.same fun ρ σ as_ K hs H hK => by
    obtain ⟨a, rfl, h1⟩ := ZeG.1 hs
    obtain ⟨ls, rfl, h2⟩ := Ze7.1 h1
    obtain ⟨b, h3, h4⟩ := h2.get hr
    exact ⟨b, h3, hK _ h4⟩⟩
  ·cases hk
 ·split at hk
  ·split at hk
   ·split at hk
    ·exact ZnK ‹_› ‹_› hk
    ·exact Zlt ‹_› ‹_› hk
    ·exact Zlw ‹_› ‹_› hk
    ·exact ZkI ‹_› ‹_› hk
    ·cases hk
   ·cases hk
  ·cases hk
 ·split at hk
  ·split at hk
   ·split at hk
    ·exact Zo7 ‹_› ‹_› ‹_› hk
    ·cases hk
   ·cases hk
  ·cases hk
 ·split at hk
  ·split at hk
   ·split at hk
    ·split at hk
     ·rw [ZbG] at hk
      exact ZqG ‹_› ‹_› ‹_› ‹_› hk
     ·cases hk
    ·cases hk
   ·cases hk
  ·cases hk
 ·split at hk
  ·split at hk
   ·split at hk
    ·exact ZqM (Zo7 ‹_› ‹_› ‹_› hk)
    ·cases hk
   ·cases hk
  ·cases hk
 ·split at hk
  ·split at hk
   ·split at hk
    ·split at hk
     ·exact ZqK ‹_› ‹_› ‹_› ‹_› hk
     ·cases hk
    ·cases hk
   ·cases hk
  ·cases hk
 ·split at hk
  ·split at hk
   ·exact Zpc ‹_› ‹_› hk
   ·cases hk
  ·cases hk
 ·exact ZqL hk
 ·exact Zut hk
 ·exact Zpd hk
 ·exact ZsZ hk
 ·exact Zzb hk
 ·rename_i b
  exact ZA8 hk fun ρ a ha => ⟨.bool (!b), fun w => by rw [Za7.1 ha]; simp [Op.unary], Za7.2 rfl⟩
 ·split at hk
  ·rename_i ks kd ki n hs hd
   refine ZwQ hk fun ρ a ha => ⟨.int kd (kd.wrap n), fun w => ?_, Zaw.2 rfl⟩
   rw [Zaw.1 ha]
   simp [convert, run_underlying hs, run_underlying hd, Conv.intToInt]
  ·cases hk
 ·rename_i c
  cases hb : Zlr c
  ·rw [hb] at hk
   refine ZrI hO hU ?_ hk
   obtain ⟨callee, as_, ts⟩ := c
   simp only [Op.operands, Call.operands] at hn
   cases callee <;> simp at hn ⊢ <;> first | omega | (dsimp only [cond_false] at hk; unfold ZsX at hk; cases hk) | (cases hb)
  ·rw [hb] at hk
   refine ZBa (ZrI hO (fun i hi => hU i (ZwR hb hi)) ?_ hk)
   obtain ⟨callee, as_, ts⟩ := c
   simp only [Op.operands, Call.operands] at hn
   cases callee <;> simp at hn ⊢ <;> first | omega | (dsimp only [cond_true] at hk; unfold ZsX at hk; cases hk) | (cases hb)
 ·cases hk
theorem Zpe {tou : Tou T} {o : Op} (hO : orc.Ok C P tou) (hU : ∀ i ∈ ZiC tou o vs h, U i) (hn : o.operands.size = vs.length) (hk : xop C P orc o vs h k = some z) : Zb9 C P U ⟨d, o, ty, pos, af, g⟩ vs h k z := by
 unfold xop at hk
 cases hb : orc.on o vs
 ·rw [hb] at hk; exact Zs3 hO hU hn hk
 ·rw [hb] at hk
  obtain ⟨r, h', h1, h2⟩ := hO.op _ _ _ _ _ hb hk
  exact ⟨r, h', h1, fun ρ σ as_ hs H => Zdm (fun rv τ ⟨ρ', g1, g2, g3⟩ => ⟨ρ', g1, g2, g3.mono hU⟩) (h2 d ty pos af g ρ σ as_ hs H)⟩
end
end Go.Proofs.YteempnebenjkmaaGreatDoor
namespace Go.Proofs.YteempnebenjkmaaGreatDoor
open Go.RowKit
set_option maxRecDepth 100000
set_option linter.unusedVariables false
variable {T : Nat -> Type} {A : Type}
abbrev XE (T : Nat -> Type) := List (Nat × XV T)
def ZBb (env : XE T) (d : Option Nat) (v : XV T) : XE T := match d with
 | some d => (d, v) :: env
 | none => env
def ZwS (ops : Array Oper) (env : XE T) (o : Oper) (k : XE T -> Bool -> Option A) : Option A := match o.guard with
 | none => k env true
 | some (j, want) => match (ops[j]?).bind (·.dst) with
  | none => none
  | some t => match ZkX env t with
   | .bool c => cond c (k ((t, .bool true) :: env) want) (k ((t, .bool false) :: env) (!want))
   | .undef => k env false
   | _ => none
structure DrA where
 order : List Nat
 anc : List (List Nat)
 lf : List Nat
 cf : List Nat
 keep : List Nat
 am : Bool
 ow : List Nat
section
variable (C : ZaA T) (P : Program) (tou : Tou T) (orc : Orc T A)
def ZwT (t : TypeId) (n : Nat) (parts : Array (Nat × Operand)) (vs : List (XV T)) (h : List (HI T)) (k : XV T -> List (HI T) -> Option A) : Option A := match Zar P t with
 | some e => match Zav P e, ZaS P e, C.code e with
  | some sz, some z, some E => if Nat.beq sz (C.sz E) = true /\ Nat.beq z.cells.size sz = true /\ n * sz <= 16777216 then
   match Zlq (fun i => some (i * sz, sz)) ((List.range (n * sz)).map fun i => .ofV (z.cells[i % sz]!)) ((parts.toList.map (·.1)).zip vs) with
   | some cells => Zy5 C E n cells fun xs => Zce (h ++ [.arr e E false xs]) fun h' => k (.as E h.length 0 n (some n)) h'
   | none => none
   else none
  | _, _, _ => none
 | none => none
def Zuz (t : TypeId) (x y : XV T) (h : List (HI T)) (k : XV T -> List (HI T) -> Option A) : Option A := match Zar P t with
 | none => none
 | some e => match Zav P e, ZaS P e, Zb5 P e, C.code e with
  | some sz, some z, some by_, some E => if (Nat.beq z.cells.size sz && Nat.beq sz (C.sz E)) = true then match x, y with
   | .int _ l, .int _ c => if l = c /\ 0 <= c /\ c <= 140737488355328 /\ (by_ : Int) * c <= 140737488355328 then Zun C E sz z fun zt => k (.sl E (List.replicate c.toNat zt) none) h else none
   | _, _ => none
   else none
  | _, _, _, _ => none
def ZCM (am : Bool) (op : Op) (vs : List (XV T)) (h : List (HI T)) (k : XV T -> List (HI T) -> Option A) : Option A := match op, vs with
 | op, vs => match am with
  | false => xop C P orc op vs h k
  | true => match op with
   | .buildSlice t n parts => ZwT C P t n parts vs h k
   | .makeSlice t ox oy => match vs with
    | [x, y] => Zuz C P t x y h k
    | _ => none
   | op => xop C P orc op vs h k
def ZCN (ow : Bool) (op : Op) (vs : List (XV T)) (h : List (HI T)) (k : XV T -> List (HI T) -> Option A) : Option A := match ow with
 | false => xop C P orc op vs h k
 | true => match op with
  | .buildSlice t n parts => ZwT C P t n parts vs h k
  | _ => none
def ZuA (ops : Array Oper) (am : Bool) : List Oper -> XE T -> List (HI T) -> (XE T -> List (HI T) -> Option A) -> Option A
 | [], env, h, k => k env h
 | o :: l, env, h, k => ZwS ops env o fun env w => cond w (ZcN (o.op.operands.toList.map (xev env)) fun vs => ZCM C P orc am o.op vs h fun r h => ZuA ops am l (ZBb env o.dst r) h k) (ZuA ops am l (ZBb env o.dst .undef) h k)
def ZwU (h : List (HI T)) (i : Nat) : Bool := match h[i]? with
 | some (.obj _ _) => true
 | some (.arr _ _ _ _) => true
 | some (.mmap _ _ _) => true
 | some (.gen _ _) => true
 | _ => false
def ZCO (D : DrA) (i : Nat) (o : Oper) (vs : List (XV T)) : Bool := cond (D.lf.contains i && Zbq o == .load) (match vs with
 | [.ptr j _] => D.keep.contains j
 | [.ap _ j _ _] => D.keep.contains j
 | [.gv j _ _] => D.keep.contains j
 | [.el _ _ _] => true
 | [.ce _] => true
 | _ => false) true
def ZCP (D : DrA) (i : Nat) (o : Oper) (vs : List (XV T)) (h : List (HI T)) : Bool := cond (D.cf.contains i && Zbt o) (D.keep.all (ZwU h) && (ZiC tou o.op vs h).all fun u => !D.keep.contains u) true
def Zs4 (ops : Array Oper) (D : DrA) : List Nat -> XE T -> List (HI T) -> (XE T -> List (HI T) -> Option A) -> Option A
 | [], env, h, k => k env h
 | i :: l, env, h, k => match ops[i]? with
  | none => Zs4 ops D l env h k
  | some o => ZwS ops env o fun env w => cond w (ZcN (o.op.operands.toList.map (xev env)) fun vs => cond (ZCO D i o vs && ZCP tou D i o vs h) (ZCN C P orc (D.ow.contains i) o.op vs h fun r h => Zs4 ops D l (ZBb env o.dst r) h k) none) (Zs4 ops D l (ZBb env o.dst .undef) h k)
def DrA.at_ (D : DrA) (h : List (HI T)) : DrA := ⟨D.order, D.anc, D.lf, D.cf, D.keep.filter (ZwU h), D.am, D.ow⟩
def ZuB (D : DrA) (ops : Array Oper) (env : XE T) (h : List (HI T)) (k : XE T -> List (HI T) -> Option A) : Option A :=
 cond (Ziw P ops D.order (D.anc.getD · []) D.lf.contains D.cf.contains D.ow.contains && D.keep.all fun i => Nat.blt i h.length) (Zs4 C P tou orc ops D D.order env h k) none
def ZiE : Code -> Nat
 | .region id _ _ => id
 | .seq a b => match a with
  | .skip => ZiE b
  | a => ZiE a
 | .block _ c => ZiE c
 | .loop c => ZiE c
 | .scope c => ZiE c
 | .cond _ a _ => ZiE a
 | _ => 0
abbrev XK (T : Nat -> Type) (A : Type) := Exit -> XE T -> List (HI T) -> Option A
abbrev Lps (T : Nat -> Type) (A : Type) := Nat -> XE T -> List (HI T) -> XK T A -> Option A
def ZCQ (env : XE T) (c : Operand) (b : Bool) : XE T := match c with
 | .tmp t => (t, .bool b) :: env
 | _ => env
def ZmH (dr : Nat -> Nat -> DrA) (lps : Lps T A) : Code -> XE T -> List (HI T) -> XK T A -> Option A
 | .skip, env, h, k => k .normal env h
 | .region id ops draw, env, h, k => match draw with
  | false => ZuA C P orc ops (dr id h.length).am ops.toList env h (k .normal)
  | true => ZuB C P tou orc ((dr id h.length).at_ h) ops env h (k .normal)
 | .seq a b, env, h, k => ZmH dr lps a env h fun ex env h => match ex with
  | .normal => ZmH dr lps b env h k
  | ex => k ex env h
 | .cond c a b, env, h, k => match xev env c with
  | .bool t => cond t (ZmH dr lps a (ZCQ env c true) h k) (ZmH dr lps b (ZCQ env c false) h k)
  | _ => none
 | .block id c, env, h, k => ZmH dr lps c env h fun ex env h => match ex with
  | .exit id' => cond (Nat.beq id' id) (k .normal env h) (k (.exit id') env h)
  | ex => k ex env h
 | .loop c, env, h, k => lps (ZiE c) env h k
 | .exit id, env, h, k => k (.exit id) env h
 | .scope c, env, h, k => ZmH dr lps c env h fun ex env h => match ex with
  | .goto _ => none
  | ex => k ex env h
 | .ret, env, h, k => k .ret env h
 | _, _, _, _ => none
end
def ZbB : Code -> List Code
 | .seq a b => ZbB a ++ ZbB b
 | .cond _ a b => ZbB a ++ ZbB b
 | .block _ c => ZbB c
 | .loop c => [c]
 | .scope c => ZbB c
 | _ => []
structure Sat (C : ZaA T) (ρ : Nat -> AV) (env : XE T) (h : List (HI T)) (e : Env) (σ : St) : Prop where
 env : ∀ i, SV C h.length ρ (ZkX env i) (e i)
 hp : Hp C ρ h σ
def Zlx (C : ZaA T) (P : Program) (c : Code) (env : XE T) (h : List (HI T)) (ex : Exit) (env' : XE T) (h' : List (HI T)) : Prop :=
 ∀ O ρ e σ, Sat C ρ env h e σ -> ZaJ P O c (fun ex' e' σ' => ex' = ex /\ ∃ ρ', Sat C ρ' env' h' e' σ' /\ Rel (fun _ => True) ρ h σ ρ' h' σ') e σ
def Lps.Ok (C : ZaA T) (P : Program) (lps : Lps T A) (c : Code) : Prop := ∀ env h k z, lps (ZiE c) env h k = some z -> ∃ ex env' h', k ex env' h' = some z /\ Zlx C P (.loop c) env h ex env' h'
section
variable {C : ZaA T} {P : Program} {tou : Tou T} {orc : Orc T A} {ops : Array Oper} {env env' : XE T} {h h' : List (HI T)} {ρ ρ' : Nat -> AV} {e : Env} {σ τ : St} {z : A} {U : Nat -> Prop}
theorem ZuC (hs : ∀ i, SV C h.length ρ (ZkX env i) (e i)) (x : Operand) : SV C h.length ρ (xev env x) (ev e x) := by
 cases x with
 | tmp t => exact hs t
 | const v => exact Zyo v
 | global g => exact ZbV
 | func f => exact Zju.2 rfl
theorem Zjx (hs : ∀ i, SV C h.length ρ (ZkX env i) (e i)) (l : List Operand) : SVs C h.length ρ (l.map (xev env)) (l.map (ev e)) := by
 induction l with
 | nil => exact .none
 | cons x l ih => exact .cons (ZuC hs x) ih
theorem ZiF (t : Nat) (v : XV T) (env : XE T) (i : Nat) : ZkX ((t, v) :: env) i = if t = i then v else ZkX env i := by
 show (bif Nat.beq t i then v else ZkX env i) = _
 by_cases hi : t = i
 ·subst hi; simp
 ·have : Nat.beq t i = false := by cases hb : Nat.beq t i <;> simp_all
  rw [this, if_neg hi]; rfl
theorem Sat.put (hs : Sat C ρ env h e σ) (hr : Rel U ρ h σ ρ' h' τ) (H : Hp C ρ' h' τ) {d : Option Nat} {v : XV T} {a : AV} (hv : SV C h'.length ρ' v a) : Sat C ρ' (ZBb env d v) h' (e.put d a) τ := by
 refine ⟨fun i => ?_, H⟩
 have hi := (hs.env i).ext hr.len hr.ext
 cases d with
 | none => exact hi
 | some t =>
  show SV C h'.length ρ' (ZkX ((t, v) :: env) i) (if i = t then a else e i)
  rw [ZiF]
  by_cases ht : i = t
  ·subst ht; rw [if_pos rfl, if_pos rfl]; exact hv
  ·rw [if_neg ht, if_neg (fun x => ht x.symm)]; exact hi
theorem Sat.sub (hs : Sat C ρ env h e σ) {t : Nat} {b : Bool} (ht : ZkX env t = .bool b) : Sat C ρ ((t, .bool b) :: env) h e σ := by
 refine ⟨fun i => ?_, hs.hp⟩
 rw [ZiF]
 split
 ·rename_i hi
  subst hi
  rw [<- ht]; exact hs.env t
 ·exact hs.env i
theorem Zly {o : Oper} {k : XE T -> Bool -> Option A} (hk : ZwS ops env o k = some z) : ∃ env' w, k env' w = some z /\ ∀ ρ h e σ, Sat C ρ env h e σ -> Sat C ρ env' h e σ /\ Region.wanted o (Zap ops e) = w := by
 unfold ZwS at hk
 split at hk
 ·rename_i hg
  exact ⟨env, true, hk, fun ρ h e σ hs => ⟨hs, by simp [Region.wanted, hg]⟩⟩
 ·rename_i j want hg
  split at hk
  ·cases hk
  ·rename_i t ht
   split at hk
   ·rename_i c hc
    cases c
    ·refine ⟨_, _, hk, fun ρ h e σ hs => ⟨hs.sub hc, ?_⟩⟩
     have := hs.env t
     rw [hc, Za7] at this
     have hy : Zap ops e j = some false := by unfold Zap; rw [ht]; simp [this]
     simp [Region.wanted, hg, hy]
    ·refine ⟨_, _, hk, fun ρ h e σ hs => ⟨hs.sub hc, ?_⟩⟩
     have := hs.env t
     rw [hc, Za7] at this
     have hy : Zap ops e j = some true := by unfold Zap; rw [ht]; simp [this]
     simp [Region.wanted, hg, hy]
   ·rename_i hc
    refine ⟨_, _, hk, fun ρ h e σ hs => ⟨hs, ?_⟩⟩
    have := hs.env t
    rw [hc, ZiA] at this
    have hy : Zap ops e j = none := by unfold Zap; rw [ht]; simp [this, Go.undef]
    simp [Region.wanted, hg, hy]
   ·cases hk
theorem Zlz {t : TypeId} {n : Nat} {parts : Array (Nat × Operand)} {vs : List (XV T)} {d : Option Nat} {ty : TypeId} {pos : String} {af : Array Edge} {g : Option (Nat × Bool)} {k : XV T -> List (HI T) -> Option A} (hk : ZwT C P t n parts vs h k = some z) :
 ∃ r h', k r h' = some z /\ ∀ ρ σ as_, SVs C h.length ρ vs as_ -> Hp C ρ h σ -> ZAN P ⟨d, .buildSlice t n parts, ty, pos, af, g⟩ as_ σ fun rv τ => ∃ ρ', SV C h'.length ρ' r rv /\ Hp C ρ' h' τ /\ Rel (fun _ => True) ρ h σ ρ' h' τ := by
 unfold ZwT at hk
 split at hk
 rotate_left
 ·cases hk
 rename_i e he
 split at hk
 rotate_left
 ·cases hk
 rename_i sz v E hsz hz hE
 split at hk
 rotate_left
 ·cases hk
 rename_i h1
 split at hk
 rotate_left
 ·cases hk
 rename_i cells hf
 obtain ⟨e1, e2, e3⟩ := h1
 have e1 := Nat.eq_of_beq_eq_true e1
 have e2 := Nat.eq_of_beq_eq_true e2
 obtain ⟨xs, d1, d2, d3, d4⟩ := Zjv hk
 rw [Zbr] at d1
 refine ⟨_, _, d1, fun ρ σ as_ hs H => ?_⟩
 obtain ⟨bs, h1, h2⟩ := Zgb (l := parts.toList.map (·.1)) hs
 obtain ⟨rs, h3, h4⟩ := ZeH hf (ZiD _ _ _) h1
 rw [h2] at h3
 refine ⟨n, e, rs, ⟨t, parts, sz, v, rfl, he, hsz, hz, e2, e3, h3⟩, fun b hb hn => ?_⟩
 have hl := h4.len
 have hpos := C.pos E
 have hn1 : n <= 16777216 := Nat.le_trans (Nat.le_mul_of_pos_right n (by omega)) e3
 obtain ⟨g1, g2⟩ := H.newArr (U := fun _ => True) false hb hn e (E := E) (K := n) (xs := xs) (pre := rs) (rest := []) (fun N ρ' => (d4 _ _ _ h4).shut (ZcA xs)) (by rw [List.append_nil, hl, d3]) (by unfold maxLen; omega) (fun _ => ⟨[], fun _ _ => .none⟩)
 rw [List.append_nil] at g1 g2
 refine ⟨_, ?_, g1, g2⟩
 exact ZbQ.2 (.inl ⟨_, _, rfl, by simp, Nat.le_refl _, by unfold maxLen; omega, by omega, ⟨b, by rw [Nat.zero_add]; exact ZaD _ _ _, fun _ => by rw [Nat.zero_mul]⟩, fun c' hc => by injection hc⟩)
theorem Zpf {t : TypeId} {x y : XV T} {ox oy : Operand} {d : Option Nat} {ty : TypeId} {pos : String} {af : Array Edge} {g : Option (Nat × Bool)} {k : XV T -> List (HI T) -> Option A} (hk : Zuz C P t x y h k = some z) :
 ∃ r h', k r h' = some z /\ ∀ ρ σ as_, SVs C h.length ρ [x, y] as_ -> Hp C ρ h σ -> ZdL P ⟨d, .makeSlice t ox oy, ty, pos, af, g⟩ as_ σ fun rv τ => ∃ ρ', SV C h'.length ρ' r rv /\ Hp C ρ' h' τ /\ Rel (fun _ => True) ρ h σ ρ' h' τ := by
 unfold Zuz at hk
 split at hk
 ·cases hk
 rename_i e he
 split at hk
 rotate_left
 ·cases hk
 rename_i sz zv by_ E hsz hz hby hE
 split at hk
 rotate_left
 ·cases hk
 rename_i hc
 simp only [Bool.and_eq_true] at hc
 have hzs := Nat.eq_of_beq_eq_true hc.1
 have e1 := Nat.eq_of_beq_eq_true hc.2
 split at hk
 rotate_left
 ·cases hk
 rename_i kl l kc c
 split at hk
 rotate_left
 ·cases hk
 rename_i hb
 obtain ⟨b1, b2, b3, b4⟩ := hb
 obtain ⟨zt, hk2, hzt⟩ := Zih hk
 clear hk
 subst b1
 have hpos := C.pos E
 refine ⟨_, _, hk2, fun ρ σ as_ hs H => ?_⟩
 obtain ⟨a, b, rfl, h3, h4⟩ := Zig.1 hs
 rw [Zaw.1 h3, Zaw.1 h4]
 refine .inr ⟨rfl, fun ρv hρ w Z hH hV => ?_⟩
 have hρ' := hρ
 simp [Op.operands] at hρ'
 have hty := Za0 he
 obtain ⟨i, hi, hsi⟩ := ZnL hsz
 have hzi : i.zero = some zv := by unfold ZaS at hz; rw [hi] at hz; simpa using hz
 have hbi : i.bytes = by_ := by unfold Zb5 at hby; rw [hi] at hby; simpa using hby
 have hr := run_make (P := P) w t e i zv hty hi hzi kl kc l l b2 (by omega) (by rw [hbi]; omega) (by omega)
 have hv := ZgJ zv l.toNat (by omega)
 rw [hzs] at hv
 have harr : madeCells zv.cells (l.toNat * i.size) = ((((List.replicate l.toNat ((List.range sz).map fun i => AV.ofV (zv.cells[i % sz]!))).flatten)).map AV.val).toArray := by
  rw [hv]
  simp [madeCells, Builtin.zeroCells, hsi, hzs]
  apply Array.ext'
  simp
 rw [harr] at hr
 obtain ⟨f1, f2⟩ := hH.fresh
 have hcs : ∀ B, ∀ a ∈ (List.replicate l.toNat ((List.range sz).map fun i => AV.ofV (zv.cells[i % sz]!))).flatten, Zag w B a := fun B a ha => by
  obtain ⟨l, hl, hal⟩ := List.mem_flatten.1 ha
  have hl := (List.mem_replicate.1 hl).2
  subst hl
  obtain ⟨j, _, rfl⟩ := List.mem_map.1 hal
  exact Zd4 _
 have hlen : ((List.replicate l.toNat ((List.range sz).map fun i => AV.ofV (zv.cells[i % sz]!))).flatten).length = l.toNat * sz := by rw [ZgK, List.length_map, List.length_range]
 have hzl := fun N (ρ : Nat -> AV) => hzt l.toNat N ρ
 generalize (List.replicate l.toNat ((List.range sz).map fun i => AV.ofV (zv.cells[i % sz]!))).flatten = cells at hr hzl hcs hlen
 have hX : Ext σ (σ.put w.heap.size (.tail e cells.length cells.length)) := Ext.put _ f2
 refine ⟨.lst (some ⟨w.heap.size, 0, none⟩) l.toNat l.toNat cells, _, _, .inl ?_, ⟨ρ, ?_, H.toExt0 hX, Rel.toExt0 hX⟩, hH.alloc_tail e cells cells.length (Nat.le_refl _), ?_, Grow.alloc hH _ _⟩
 ·simp [execOp, hρ', hr]
 ·have := Zb8 (C := C) (N := h.length) (ρ := ρ) (E := E) (xs := List.replicate l.toNat zt) (a := .lst (some ⟨w.heap.size, 0, none⟩) l.toNat l.toNat cells)
  rw [List.length_replicate] at this
  exact this.2 ⟨_, l.toNat, cells, [], by rw [List.append_nil], Nat.le_refl _, by unfold maxLen; omega, by omega, (fun q => by cases q), hzl _ _⟩
 ·unfold Zag
  refine ⟨Nat.le_refl _, (fun q => by cases q), fun ad had => ?_⟩
  injection had with had
  subst had
  exact Ziu hH e cells _ (hcs _) (Nat.le_refl _) _
theorem ZuD {N : Nat} {ρ : Nat -> AV} : ∀ bs : List UInt8, SVs C N ρ (bs.map fun b => XV.int .u8 (b.toNat : Int)) (bs.map fun u => AV.raw (.int .u8 (u.toNat : Int)))
 | [] => .none
 | b :: bs => .cons (Zaw.2 rfl) (ZuD bs)
theorem Zs5 (hO : orc.Ok C P tou) {am : Bool} {op : Op} {vs : List (XV T)} {d : Option Nat} {ty : TypeId} {pos : String} {af : Array Edge} {g : Option (Nat × Bool)} {k : XV T -> List (HI T) -> Option A} (hn : op.operands.size = vs.length) (hk : ZCM C P orc am op vs h k = some z) :
 ∃ r h', k r h' = some z /\ ((∀ ρ σ as_, SVs C h.length ρ vs as_ -> Hp C ρ h σ -> ZdL P ⟨d, op, ty, pos, af, g⟩ as_ σ fun rv τ => ∃ ρ', SV C h'.length ρ' r rv /\ Hp C ρ' h' τ /\ Rel (fun _ => True) ρ h σ ρ' h' τ) \/
  (∃ t n parts, op = .buildSlice t n parts /\ ∀ ρ σ as_, SVs C h.length ρ vs as_ -> Hp C ρ h σ -> ∃ e sz z cells, Zar P t = some e /\ Zav P e = some sz /\ ZaS P e = some z /\ z.cells.size = sz /\ n * sz <= 16777216 /\
   ZdD (fun i => some (i * sz, sz)) ((List.range (n * sz)).map fun i => .ofV (z.cells[i % sz]!)) ((parts.toList.map (·.1)).zip as_) = some cells /\
   ∀ b, ¬ σ.used b -> σ.blk b = none -> ∃ ρ', SV C h'.length ρ' r (.raw (.slice (some ⟨b, 0, none⟩) n n)) /\ Hp C ρ' h' (σ.put b (.own e cells)) /\ Rel (fun _ => True) ρ h σ ρ' h' (σ.put b (.own e cells))) \/
  (∃ (t t' : TypeId) (x : Operand) (e : TypeId) (bs : List UInt8), op = .convert t t' x /\ P.underlying t = some .string /\ P.underlying t' = some (.slice e) /\ P.underlying e = some (.int .u8) /\ bs.length <= 140737488355328 /\ ∀ ρ σ as_, SVs C h.length ρ vs as_ -> Hp C ρ h σ -> as_ = [.raw (.string ⟨bs.toArray⟩)] /\
   ∀ b c, ¬ σ.used b -> σ.blk b = none -> bs.length <= c -> c <= maxLen -> ∃ ρ', SV C h'.length ρ' r (.lst (some ⟨b, 0, none⟩) bs.length c (bs.map fun u => AV.raw (.int .u8 (u.toNat : Int)))) /\ Hp C ρ' h' (σ.use b) /\ Rel (fun _ => True) ρ h σ ρ' h' (σ.use b)) \/
  (∀ ρ σ as_, SVs C h.length ρ vs as_ -> Hp C ρ h σ -> Zjl P ⟨d, op, ty, pos, af, g⟩ as_ σ fun rv τ => ∃ ρ', SV C h'.length ρ' r rv /\ Hp C ρ' h' τ /\ Rel (fun _ => True) ρ h σ ρ' h' τ)) := by
 have plain : xop C P orc op vs h k = some z -> ∃ r h', k r h' = some z /\ ∀ ρ σ as_, SVs C h.length ρ vs as_ -> Hp C ρ h σ -> ZdL P ⟨d, op, ty, pos, af, g⟩ as_ σ fun rv τ => ∃ ρ', SV C h'.length ρ' r rv /\ Hp C ρ' h' τ /\ Rel (fun _ => True) ρ h σ ρ' h' τ := fun hk =>
  Zpe (d := d) (ty := ty) (pos := pos) (af := af) (g := g) (U := fun _ => True) hO (fun _ _ => trivial) hn hk
 unfold ZCM at hk
 dsimp only at hk
 split at hk
 ·obtain ⟨r, h', h1, h2⟩ := plain hk
  exact ⟨r, h', h1, .inl h2⟩
 split at hk
 rotate_left
 ·split at hk
  ·obtain ⟨r, h', h1, h2⟩ := Zpf (d := d) (ty := ty) (pos := pos) (af := af) (g := g) hk
   exact ⟨r, h', h1, .inl h2⟩
  ·cases hk
 ·obtain ⟨r, h', h1, h2⟩ := plain hk
  exact ⟨r, h', h1, .inl h2⟩
 clear plain
 rename_i t n parts
 obtain ⟨r, h', h1, h2⟩ := Zlz (d := d) (ty := ty) (pos := pos) (af := af) (g := g) hk
 refine ⟨r, h', h1, .inr (.inl ⟨t, n, parts, rfl, fun ρ σ as_ hs H => ?_⟩)⟩
 obtain ⟨n', e, cells, ⟨t', parts', sz, zv, g1, g2, g3, g4, g5, g6, g7⟩, g8⟩ := h2 ρ σ as_ hs H
 injection g1 with e1 e2 e3
 subst e1 e2 e3
 exact ⟨e, sz, zv, cells, g2, g3, g4, g5, g6, g7, g8⟩
theorem Zii (hO : orc.Ok C P tou) {am : Bool} : ∀ (l : List Oper) (env : XE T) (h : List (HI T)) (k : XE T -> List (HI T) -> Option A), ZuA C P orc ops am l env h k = some z ->
 ∃ env' h', k env' h' = some z /\ ∀ ρ e σ, Sat C ρ env h e σ -> ∀ K : Env -> St -> Prop, (∀ ρ' e' σ', Sat C ρ' env' h' e' σ' -> Rel (fun _ => True) ρ h σ ρ' h' σ' -> K e' σ') -> Zbx P ops l e σ K
 | [], env, h, k, hk => ⟨env, h, hk, fun ρ e σ hs K hK => hK ρ e σ hs (.refl _ _ _ _)⟩
 | o :: l, env, h, k, hk => by
  unfold ZuA at hk
  obtain ⟨env1, w, hk, h1⟩ := Zly (C := C) hk
  cases w
  ·obtain ⟨env', h', h2, h3⟩ := Zii hO l _ _ _ hk
   refine ⟨env', h', h2, fun ρ e σ hs K hK => ?_⟩
   obtain ⟨hs1, hw⟩ := h1 ρ h e σ hs
   unfold Zbx
   refine .inl ?_
   unfold aOp
   rw [if_neg (by rw [hw]; exact Bool.false_ne_true)]
   exact h3 ρ _ σ (hs1.put (.refl (fun _ => True) _ _ _) hs1.hp (ZiA.2 rfl)) K hK
  ·change ZcN _ _ = some z at hk
   rw [ZbG] at hk
   obtain ⟨d, op, ty, pos, af, g⟩ := o
   obtain ⟨r, h', h2, h3⟩ := Zs5 (d := d) (ty := ty) (pos := pos) (af := af) (g := g) hO (by simp) hk
   obtain ⟨env', h'', h4, h5⟩ := Zii hO l _ _ _ h2
   refine ⟨env', h'', h4, fun ρ e σ hs K hK => ?_⟩
   obtain ⟨hs1, hw⟩ := h1 ρ h e σ hs
   unfold Zbx
   rcases h3 with h3 | ⟨t, n, parts, rfl, h3⟩ | ⟨t, t', x, te, bs, rfl, q1, q2, q3, q4, h3⟩ | h3
   ·refine .inl ?_
    unfold aOp
    rw [if_pos hw]
    refine Zdm ?_ (h3 ρ σ _ (Zjx hs1.env _) hs1.hp)
    rintro rv τ ⟨ρ', g1, g2, g3⟩
    exact h5 ρ' _ τ (hs1.put g3 g2 g1) K fun ρ'' e' σ' g4 g5 => hK ρ'' e' σ' g4 (g3.trans hs.hp g5)
   ·obtain ⟨te, sz, zv, cells, q1, q2, q3, q4, q5, q6, q7⟩ := h3 ρ σ _ (Zjx hs1.env _) hs1.hp
    refine .inr (.inl ⟨hw, t, n, parts, te, sz, zv, cells, rfl, q1, q2, q3, q4, q5, q6, fun b hb hn => ?_⟩)
    obtain ⟨ρ', g1, g2, g3⟩ := q7 b hb hn
    exact h5 ρ' _ _ (hs1.put g3 g2 g1) K fun ρ'' e' σ' g4 g5 => hK ρ'' e' σ' g4 (g3.trans hs.hp g5)
   ·obtain ⟨q5, q6⟩ := h3 ρ σ _ (Zjx hs1.env _) hs1.hp
    refine .inr (.inr (.inl ⟨hw, t, t', x, te, bs, rfl, q1, q2, q3, ?_, q4, fun b c hb hn hc hm => ?_⟩))
    ·have : (Op.convert t t' x).operands.toList.map (ev _) = [AV.raw (.string ⟨bs.toArray⟩)] := q5
     simp [Op.operands] at this
     rw [this]
     simp
    ·obtain ⟨ρ', g1, g2, g3⟩ := q6 b c hb hn hc hm
     exact h5 ρ' _ _ (hs1.put g3 g2 g1) K fun ρ'' e' σ' g4 g5 => hK ρ'' e' σ' g4 (g3.trans hs.hp g5)
   ·refine .inr (.inr (.inr ⟨hw, (h3 ρ σ _ (Zjx hs1.env _) hs1.hp).mono ?_⟩))
    rintro rv τ ⟨ρ', g1, g2, g3⟩
    exact h5 ρ' _ τ (hs1.put g3 g2 g1) K fun ρ'' e' σ' g4 g5 => hK ρ'' e' σ' g4 (g3.trans hs.hp g5)
end
end Go.Proofs.YteempnebenjkmaaGreatDoor
namespace Go.Proofs.YteempnebenjkmaaGreatDoor
open Go.RowKit
set_option maxRecDepth 100000
set_option linter.unusedVariables false
variable {T : Nat -> Type} {A : Type}
section
variable {C : ZaA T} {P : Program} {tou : Tou T} {orc : Orc T A} {ops : Array Oper} {env env' : XE T} {h h' : List (HI T)} {ρ ρ' : Nat -> AV} {e : Env} {σ τ : St} {z : A} {U : Nat -> Prop}
theorem ZuE {i : Nat} (hi : ZwU h i = true) : ∃ x, h[i]? = some x /\ x.alive = true := by
 unfold ZwU at hi
 split at hi
 ·exact ⟨_, ‹_›, rfl⟩
 ·exact ⟨_, ‹_›, rfl⟩
 ·exact ⟨_, ‹_›, rfl⟩
 ·exact ⟨_, ‹_›, rfl⟩
 ·cases hi
theorem ZnO {b c o p : Nat} (he : ptr b o = ptr c p) : b = c := by
 unfold ptr at he
 injection he with he; injection he with he; injection he with he; injection he
def ZBc (K : List Nat) (ρ : Nat -> AV) (b : Nat) : Prop := ∃ i ∈ K, (ρ i).owns b
theorem ZeI (hO : orc.Ok C P tou) {D : DrA} : ∀ (l : List Nat) (env : XE T) (h : List (HI T)) (k : XE T -> List (HI T) -> Option A), Zs4 C P tou orc ops D l env h k = some z ->
 ∃ env' h', k env' h' = some z /\ ∀ (ρ0 : Nat -> AV) (n0 : Nat), (∀ i ∈ D.keep, i < n0) -> ∀ ρ e σ, Sat C ρ env h e σ -> n0 <= h.length -> (∀ i, i < n0 -> ρ i = ρ0 i) -> ∀ K : Env -> St -> Prop, (∀ ρ' e' σ', Sat C ρ' env' h' e' σ' -> Rel (fun _ => True) ρ h σ ρ' h' σ' -> K e' σ') -> Za5 P ops (ZBc D.keep ρ0) D.lf.contains D.cf.contains D.ow.contains l e σ K
 | [], env, h, k, hk => ⟨env, h, hk, fun ρ0 n0 hD ρ e σ hs hn hρ K hK => hK ρ e σ hs (.refl _ _ _ _)⟩
 | i :: l, env, h, k, hk => by
  unfold Zs4 at hk
  split at hk
  ·rename_i ho
   obtain ⟨env', h', h2, h3⟩ := ZeI hO l _ _ _ hk
   refine ⟨env', h', h2, fun ρ0 n0 hD ρ e σ hs hn hρ K hK => ?_⟩
   unfold Za5
   rw [ho]
   exact h3 ρ0 n0 hD ρ e σ hs hn hρ K hK
  ·rename_i o ho
   obtain ⟨env1, w, hk, h1⟩ := Zly (C := C) hk
   cases w
   ·obtain ⟨env', h', h2, h3⟩ := ZeI hO l _ _ _ hk
    refine ⟨env', h', h2, fun ρ0 n0 hD ρ e σ hs hn hρ K hK => ?_⟩
    obtain ⟨hs1, hw⟩ := h1 ρ h e σ hs
    unfold Za5
    rw [ho]
    dsimp only
    refine (ZCr (by rw [hw]; exact Bool.false_ne_true) _ _).2 ?_
    exact h3 ρ0 n0 hD ρ _ σ (hs1.put (.refl (fun _ => True) _ _ _) hs1.hp (ZiA.2 rfl)) hn hρ K hK
   ·change ZcN _ _ = some z at hk
    rw [ZbG] at hk
    cases hlc : (ZCO D i o (o.op.operands.toList.map (xev env1)) && ZCP tou D i o (o.op.operands.toList.map (xev env1)) h)
    ·rw [hlc] at hk; cases hk
    rw [hlc] at hk
    simp only [Bool.and_eq_true] at hlc
    obtain ⟨hl, hc⟩ := hlc
    simp only [cond_true] at hk
    cases how : D.ow.contains i
    rotate_left
    ·rw [how] at hk
     unfold ZCN at hk
     split at hk
     ·rename_i hf; cases hf
     split at hk
     rotate_left
     ·cases hk
     rename_i t n parts hop
     obtain ⟨dd, op, ty, pos, af, g⟩ := o
     dsimp only at hop
     subst hop
     obtain ⟨r, h', h2, h3⟩ := Zlz (d := dd) (ty := ty) (pos := pos) (af := af) (g := g) hk
     obtain ⟨env', h'', h4, h5⟩ := ZeI hO l _ _ _ h2
     refine ⟨env', h'', h4, fun ρ0 n0 hD ρ e σ hs hn hρ K hK => ?_⟩
     obtain ⟨hs1, hw⟩ := h1 ρ h e σ hs
     unfold Za5
     rw [ho]
     dsimp only
     unfold ZfH
     rw [if_pos how, if_pos hw]
     obtain ⟨n', te, cells, q1, q2⟩ := h3 ρ σ _ (Zjx hs1.env _) hs1.hp
     refine ⟨n', te, cells, q1, fun b hb hnb => ?_⟩
     obtain ⟨ρ', g1, g2, g3⟩ := q2 b hb hnb
     exact h5 ρ0 n0 hD ρ' _ _ (hs1.put g3 g2 g1) (Nat.le_trans hn g3.len) (fun i hi => (g3.ext i (by omega)).trans (hρ i hi)) K fun ρ'' e' σ' g4 g5 => hK ρ'' e' σ' g4 (g3.trans hs.hp g5)
    rw [how] at hk
    unfold ZCN at hk
    dsimp only at hk
    obtain ⟨r, h', h2, h3⟩ := Zpe (d := o.dst) (ty := o.type) (pos := o.pos) (af := o.after) (g := o.guard) (U := (· ∈ ZiC tou o.op (o.op.operands.toList.map (xev env1)) h)) hO (fun _ hx => hx) (by simp) hk
    obtain ⟨env', h'', h4, h5⟩ := ZeI hO l _ _ _ h2
    refine ⟨env', h'', h4, fun ρ0 n0 hD ρ e σ hs hn hρ K hK => ?_⟩
    obtain ⟨hs1, hw⟩ := h1 ρ h e σ hs
    unfold Za5
    rw [ho]
    dsimp only
    unfold ZfH
    rw [if_neg (by rw [how]; exact Bool.false_ne_true)]
    unfold ZhO
    rw [if_pos hw]
    have hvs := Zjx hs1.env o.op.operands.toList
    refine ⟨fun hlf b o' hx => ?_, Zdm ?_ (h3 ρ σ _ hvs hs1.hp)⟩
    ·unfold ZCO at hl
     rw [hlf] at hl
     rw [hx] at hvs
     simp only [cond_true] at hl
     split at hl
     ·rename_i j p hv
      rw [hv] at hvs
      obtain ⟨a, ha, ha2⟩ := ZeG.1 hvs
      injection ha with ha
      subst ha
      obtain ⟨c, hc1, hc2, hc3⟩ := Zdp.1 ha2
      have hj : j ∈ D.keep := by simpa using hl
      refine ⟨j, hj, ?_⟩
      rw [<- hρ j (hD j hj), hc3, ZnO hc1]; rfl
     ·rename_i E j k p hv
      rw [hv] at hvs
      obtain ⟨a, ha, ha2⟩ := ZeG.1 hvs
      injection ha with ha
      subst ha
      obtain ⟨c, hc1, hc2, K, hc3, _⟩ := Zo1.1 ha2
      have hj : j ∈ D.keep := by simpa using hl
      refine ⟨j, hj, ?_⟩
      rw [<- hρ j (hD j hj), hc3, ZnO hc1]; rfl
     ·rename_i j c' l' hv
      rw [hv] at hvs
      obtain ⟨a, ha, ha2⟩ := ZeG.1 hvs
      injection ha with ha
      subst ha
      have hj : j ∈ D.keep := by simpa using hl
      refine ⟨j, hj, ?_⟩
      rw [<- hρ j (hD j hj)]
      exact C.gsv_ptr _ _ _ _ _ (Zqy.1 ha2).2
     ·rename_i E x p hv
      rw [hv] at hvs
      obtain ⟨a, ha, ha2⟩ := ZeG.1 hvs
      injection ha with ha
      subst ha
      obtain ⟨ad, cs, rest, hc1, _⟩ := Zo2.1 ha2
      cases hc1
     ·rename_i l hv
      rw [hv] at hvs
      obtain ⟨a, ha, ha2⟩ := ZeG.1 hvs
      injection ha with ha
      subst ha
      obtain ⟨ad, ls, rest, hc1, _⟩ := ZsU.1 ha2
      cases hc1
     ·cases hl
    ·rintro rv τ ⟨ρ', g1, g2, g3⟩
     refine ⟨fun hcf b t cs hP hb => ?_, h5 ρ0 n0 hD ρ' _ τ (hs1.put g3 g2 g1) (Nat.le_trans hn g3.len) (fun i hi => (g3.ext i (by omega)).trans (hρ i hi)) K fun ρ'' e' σ' g4 g5 => hK ρ'' e' σ' g4 (g3.trans hs.hp g5)⟩
     unfold ZCP at hc
     rw [hcf] at hc
     simp only [cond_true, Bool.and_eq_true, List.all_eq_true] at hc
     obtain ⟨hc1, hc2⟩ := hc
     obtain ⟨i0, hi0, hρ0⟩ := hP
     obtain ⟨x0, hget, al0⟩ := ZuE (hc1 i0 hi0)
     refine g3.but.keep b _ ?_ hb
     rintro ⟨j, x, hu, hx, ax, bx⟩
     have hρi : (ρ i0).owns b := by rw [hρ i0 (hD i0 hi0)]; exact hρ0
     have : i0 = j := hs.hp.dist i0 j _ x b hget hx al0 ax hρi bx
     subst this
     have := hc2 _ hu
     simp at this
     exact this hi0
theorem Zpg (hO : orc.Ok C P tou) {D : DrA} {k : XE T -> List (HI T) -> Option A} (hk : ZuB C P tou orc D ops env h k = some z) :
 ∃ env' h', k env' h' = some z /\ ∀ ρ e σ, Sat C ρ env h e σ -> ∀ K : Env -> St -> Prop, (∀ ρ' e' σ', Sat C ρ' env' h' e' σ' -> Rel (fun _ => True) ρ h σ ρ' h' σ' -> K e' σ') -> Zlm P ops e σ K := by
 unfold ZuB at hk
 cases hd : (Ziw P ops D.order (D.anc.getD · []) D.lf.contains D.cf.contains D.ow.contains && D.keep.all fun i => Nat.blt i h.length)
 ·rw [hd] at hk; cases hk
 rw [hd] at hk
 simp only [cond_true] at hk
 simp only [Bool.and_eq_true, List.all_eq_true] at hd
 obtain ⟨hd1, hd2⟩ := hd
 have hkeep : ∀ i ∈ D.keep, i < h.length := fun i hi => by
  have := hd2 i hi
  exact Nat.le_of_ble_eq_true this
 obtain ⟨env', h', h2, h3⟩ := ZeI hO _ _ _ _ hk
 exact ⟨env', h', h2, fun ρ e σ hs K hK => ⟨D.order, D.anc, ZBc D.keep ρ, D.lf, D.cf, D.ow, hd1, h3 ρ h.length hkeep ρ e σ hs (Nat.le_refl _) (fun _ _ => rfl) K hK⟩⟩
theorem ZwV {o : Oper} {K K' : Env -> St -> Prop} (hk : ∀ e σ, K e σ -> K' e σ) (h : aOp P ops o e σ K) : aOp P ops o e σ K' := by
 unfold aOp at h ⊢
 split
 ·rename_i hw
  rw [if_pos hw] at h
  exact Zdm (fun r τ => hk _ _) h
 ·rename_i hw
  rw [if_neg hw] at h
  exact hk _ _ h
theorem Zex {K K' : Env -> St -> Prop} (hk : ∀ e σ, K e σ -> K' e σ) : ∀ {l : List Oper} {e : Env} {σ : St}, Zbx P ops l e σ K -> Zbx P ops l e σ K'
 | [], e, σ, h => hk _ _ h
 | o :: l, e, σ, h => h.imp (ZwV (fun e σ h => Zex hk h)) fun h => h.imp (fun ⟨hw, t, n, parts, te, sz, z, cells, h1, h2, h3, h4, h5, h6, h7, h8⟩ => ⟨hw, t, n, parts, te, sz, z, cells, h1, h2, h3, h4, h5, h6, h7, fun b g1 g2 => Zex hk (h8 b g1 g2)⟩) fun h => h.imp (fun ⟨hw, t, t', x, te, bs, h1, h2, h3, h4, h5, h6, h7⟩ => ⟨hw, t, t', x, te, bs, h1, h2, h3, h4, h5, h6, fun b c g1 g2 g3 g4 => Zex hk (h7 b c g1 g2 g3 g4)⟩) (fun ⟨hw, h1⟩ => ⟨hw, h1.mono fun r σ' h => Zex hk h⟩)
theorem ZaR {O : Nat -> Prop} : ∀ {c : Code} {Q Q' : Zf7} {e : Env} {σ : St}, (∀ ex e σ, Q ex e σ -> Q' ex e σ) -> ZaJ P O c Q e σ -> ZaJ P O c Q' e σ
 | .skip, Q, Q', e, σ, hQ, h => hQ _ _ _ h
 | .region id ops false, Q, Q', e, σ, hQ, h => fun hK => by
  rcases h hK with h | ⟨G, h1, h2⟩
  ·exact .inl (Zex (hQ .normal) h)
  ·exact .inr ⟨G, h1, fun σ' hT => Zex (hQ .normal) (h2 σ' hT)⟩
 | .region id ops true, Q, Q', e, σ, hQ, h => fun hK => by
  have hm : ∀ {e σ}, Zlm P ops e σ (Q .normal) -> Zlm P ops e σ (Q' .normal) := fun ⟨a, b, c, d, f, g, h1, h2⟩ => ⟨a, b, c, d, f, g, h1, Zjp _ (hQ .normal) h2⟩
  rcases h hK with h | ⟨G, h1, h2⟩
  ·exact .inl (hm h)
  ·exact .inr ⟨G, h1, fun σ' hT => hm (h2 σ' hT)⟩
 | .seq a b, Q, Q', e, σ, hQ, h => ZaR (c := a) (fun ex e σ h => by
  cases ex with
  | normal => exact ZaR (c := b) hQ h
  | _ => exact hQ _ _ _ h) h
 | .cond c a b, Q, Q', e, σ, hQ, h => by
  obtain ⟨t, h1, h2, h3⟩ := h
  exact ⟨t, h1, fun ht => ZaR (c := a) hQ (h2 ht), fun ht => ZaR (c := b) hQ (h3 ht)⟩
 | .block id c, Q, Q', e, σ, hQ, h => ZaR (c := c) (fun ex e σ h => by
  cases ex with
  | exit id' => unfold Zf8 at h ⊢; dsimp only at h ⊢; split <;> rename_i hi <;> (first | rw [if_pos hi] at h | rw [if_neg hi] at h) <;> exact hQ _ _ _ h
  | _ => exact hQ _ _ _ h) h
 | .loop c, Q, Q', e, σ, hQ, h => by
  obtain ⟨I, n, h1, h2⟩ := h
  exact ⟨I, n, h1, fun n e σ hI => ZaR (c := c) (fun ex e σ h => by
   cases ex with
   | normal => exact h
   | _ => exact hQ _ _ _ h) (h2 n e σ hI)⟩
 | .exit id, Q, Q', e, σ, hQ, h => hQ _ _ _ h
 | .scope c, Q, Q', e, σ, hQ, h => ZaR (c := c) (fun ex e σ h => by
  cases ex with
  | goto l => exact h
  | _ => exact hQ _ _ _ h) h
 | .ret, Q, Q', e, σ, hQ, h => hQ _ _ _ h
 | .rangeFunc .., Q, Q', e, σ, hQ, h => h.elim
 | .label .., Q, Q', e, σ, hQ, h => h.elim
 | .goto .., Q, Q', e, σ, hQ, h => h.elim
 | .refuse .., Q, Q', e, σ, hQ, h => h.elim
theorem ZrJ (hs : Sat C ρ env h e σ) {c : Operand} {b : Bool} (hc : xev env c = .bool b) : Sat C ρ (ZCQ env c b) h e σ := by
 cases c with
 | tmp t => exact hs.sub hc
 | _ => exact hs
theorem Zca (hO : orc.Ok C P tou) {dr : Nat -> Nat -> DrA} {lps : Lps T A} : ∀ (c : Code) (env : XE T) (h : List (HI T)) (k : XK T A), (∀ l ∈ ZbB c, lps.Ok C P l) -> ZmH C P tou orc dr lps c env h k = some z -> ∃ ex env' h', k ex env' h' = some z /\ Zlx C P c env h ex env' h'
 | .skip, env, h, k, hL, hk => ⟨_, _, _, hk, fun O ρ e σ hs => ⟨rfl, ρ, hs, .refl _ _ _ _⟩⟩
 | .region id ops false, env, h, k, hL, hk => by
  obtain ⟨env', h', h1, h2⟩ := Zii hO _ _ _ _ hk
  exact ⟨_, _, _, h1, fun O ρ e σ hs _ => .inl (h2 ρ e σ hs _ fun ρ' e' σ' g1 g2 => ⟨rfl, ρ', g1, g2⟩)⟩
 | .region id ops true, env, h, k, hL, hk => by
  obtain ⟨env', h', h1, h2⟩ := Zpg hO hk
  exact ⟨_, _, _, h1, fun O ρ e σ hs _ => .inl (h2 ρ e σ hs _ fun ρ' e' σ' g1 g2 => ⟨rfl, ρ', g1, g2⟩)⟩
 | .seq a b, env, h, k, hL, hk => by
  obtain ⟨ex, env1, h1, k1, t1⟩ := Zca hO a env h _ (fun l hl => hL l (by unfold ZbB; exact List.mem_append_left _ hl)) hk
  by_cases hn : ex = .normal
  ·subst hn
   obtain ⟨ex2, env2, h2, k2, t2⟩ := Zca hO b env1 h1 _ (fun l hl => hL l (by unfold ZbB; exact List.mem_append_right _ hl)) k1
   refine ⟨ex2, env2, h2, k2, fun O ρ e σ hs => ?_⟩
   refine ZaR (c := a) ?_ (t1 O ρ e σ hs)
   rintro ex' e' σ' ⟨rfl, ρ', g1, g2⟩
   refine ZaR (c := b) ?_ (t2 O ρ' e' σ' g1)
   rintro ex'' e'' σ'' ⟨rfl, ρ'', g3, g4⟩
   exact ⟨rfl, ρ'', g3, g2.trans hs.hp g4⟩
  ·refine ⟨ex, env1, h1, by cases ex <;> first | exact k1 | exact absurd rfl hn, fun O ρ e σ hs => ?_⟩
   refine ZaR (c := a) ?_ (t1 O ρ e σ hs)
   rintro ex' e' σ' ⟨rfl, ρ', g1, g2⟩
   cases ex' <;> first | exact ⟨rfl, ρ', g1, g2⟩ | exact absurd rfl hn
 | .cond c a b, env, h, k, hL, hk => by
  unfold ZmH at hk
  split at hk
  ·rename_i t hc
   cases t
   ·obtain ⟨ex, env1, h1, k1, t1⟩ := Zca hO b _ h _ (fun l hl => hL l (by unfold ZbB; exact List.mem_append_right _ hl)) hk
    refine ⟨ex, env1, h1, k1, fun O ρ e σ hs => ⟨false, ?_, (fun x => by cases x), fun _ => t1 O ρ e σ (ZrJ hs hc)⟩⟩
    have := ZuC hs.env c
    rw [hc, Za7] at this
    rw [this]; simp
   ·obtain ⟨ex, env1, h1, k1, t1⟩ := Zca hO a _ h _ (fun l hl => hL l (by unfold ZbB; exact List.mem_append_left _ hl)) hk
    refine ⟨ex, env1, h1, k1, fun O ρ e σ hs => ⟨true, ?_, fun _ => t1 O ρ e σ (ZrJ hs hc), fun x => by cases x⟩⟩
    have := ZuC hs.env c
    rw [hc, Za7] at this
    rw [this]; simp
  ·cases hk
 | .block id c, env, h, k, hL, hk => by
  obtain ⟨ex, env1, h1, k1, t1⟩ := Zca hO c env h _ (fun l hl => hL l hl) hk
  cases ex with
  | exit id' =>
   dsimp only at k1
   cases hb : Nat.beq id' id
   ·rw [hb] at k1
    refine ⟨_, _, _, k1, fun O ρ e σ hs => ?_⟩
    refine ZaR (c := c) ?_ (t1 O ρ e σ hs)
    rintro ex' e' σ' ⟨rfl, g⟩
    unfold Zf8
    dsimp only
    rw [if_neg (by rintro rfl; rw [Nat.beq_refl] at hb; cases hb)]
    exact ⟨rfl, g⟩
   ·rw [hb] at k1
    refine ⟨_, _, _, k1, fun O ρ e σ hs => ?_⟩
    refine ZaR (c := c) ?_ (t1 O ρ e σ hs)
    rintro ex' e' σ' ⟨rfl, g⟩
    unfold Zf8
    dsimp only
    rw [if_pos (Nat.eq_of_beq_eq_true hb)]
    exact ⟨rfl, g⟩
  | _ =>
   refine ⟨_, _, _, k1, fun O ρ e σ hs => ?_⟩
   refine ZaR (c := c) ?_ (t1 O ρ e σ hs)
   rintro ex' e' σ' ⟨rfl, g⟩
   exact ⟨rfl, g⟩
 | .loop c, env, h, k, hL, hk => hL c (List.mem_singleton.2 rfl) env h k z hk
 | .exit id, env, h, k, hL, hk => ⟨_, _, _, hk, fun O ρ e σ hs => ⟨rfl, ρ, hs, .refl _ _ _ _⟩⟩
 | .scope c, env, h, k, hL, hk => by
  obtain ⟨ex, env1, h1, k1, t1⟩ := Zca hO c env h _ (fun l hl => hL l hl) hk
  cases ex with
  | goto l => cases k1
  | _ =>
   refine ⟨_, _, _, k1, fun O ρ e σ hs => ?_⟩
   refine ZaR (c := c) ?_ (t1 O ρ e σ hs)
   rintro ex' e' σ' ⟨rfl, g⟩
   exact ⟨rfl, g⟩
 | .ret, env, h, k, hL, hk => ⟨_, _, _, hk, fun O ρ e σ hs => ⟨rfl, ρ, hs, .refl _ _ _ _⟩⟩
 | .rangeFunc .., env, h, k, hL, hk => by cases hk
 | .label .., env, h, k, hL, hk => by cases hk
 | .goto .., env, h, k, hL, hk => by cases hk
 | .refuse .., env, h, k, hL, hk => by cases hk
end
end Go.Proofs.YteempnebenjkmaaGreatDoor
namespace Go.Proofs.YteempnebenjkmaaGreatDoor
open Go.RowKit
set_option linter.unusedSimpArgs false
set_option maxRecDepth 100000
set_option linter.unusedVariables false
inductive Cs where
 | int (k : IntKind) | bool | str | sl (E : Nat) | slx (E : Nat) | own (E i : Nat) | ptr (i o : Nat) | nilptr | nil | fn (f : Nat) | as (E i : Nat) | asu (E i : Nat) | asz (E i : Nat) | clo (f : Nat) (ps : List Nat) | mp (E : Nat) (k : IntKind) | mo (i : Nat) | gv (i c n : Nat) | junk
inductive Vs where
 | one (c : Cs) | agg (l : List Cs) | cod (E : Nat) | vl (l : List Cs) | ce (l : List Cs)
inductive Rs where
 | val (v : Vs) | tup (l : List Vs)
inductive Hs where
 | obj (t : TypeId) (l : List Cs) | cobj (t : TypeId) (E : Nat) | row (e sz : Nat) | arr (e : TypeId) (E : Nat) (kp : Bool) | mmap (K V : MK) | lobj (t : TypeId) (l : List Cs) | lmap (K V : MK) | gen (E : Nat) (kp : Bool) | dead
@[reducible] def ND : Nat -> Type
 | 0 => Unit
 | n + 1 => Nat × ND n
def ndl : (n : Nat) -> ND n -> List Nat
 | 0, _ => []
 | n + 1, d => d.1 :: ndl n d.2
section
variable (T : Nat -> Type)
@[reducible] def Cs.D : Cs -> Type
 | .int _ => Int
 | .bool => Bool
 | .str => List UInt8
 | .sl E => List (T E)
 | .slx E => List (T E) × List (T E)
 | .own E _ => List (T E)
 | .as _ _ => Nat × Nat × Nat
 | .asu _ _ => Nat × Nat
 | .asz _ _ => Nat
 | .mp E _ => List (Int × List (T E))
 | .gv _ _ n => ND n
 | _ => Unit
@[reducible] def CsD : List Cs -> Type
 | [] => Unit
 | c :: l => c.D T × CsD l
@[reducible] def Vs.D : Vs -> Type
 | .one c => c.D T
 | .agg l => CsD T l
 | .cod E => T E
 | .vl l => CsD T l
 | .ce l => CsD T l
@[reducible] def VsD : List Vs -> Type
 | [] => Unit
 | v :: l => v.D T × VsD l
@[reducible] def Rs.D : Rs -> Type
 | .val v => v.D T
 | .tup l => VsD T l
@[reducible] def Hs.D : Hs -> Type
 | .obj _ l => CsD T l
 | .cobj _ E => T E
 | .arr _ E _ => List (T E)
 | .mmap K V => List (K.ty × V.ty)
 | .lobj _ l => CsD T l
 | .lmap K V => List (K.ty × V.ty)
 | .gen E _ => T E
 | _ => Unit
@[reducible] def HsD : List Hs -> Type
 | [] => Unit
 | x :: l => x.D T × HsD l
end
variable {T : Nat -> Type} {A : Type}
def Cs.st : (c : Cs) -> c.D T -> XV T
 | .int k, n => .int k n
 | .bool, b => .bool b
 | .str, s => .str s
 | .sl E, xs => .sl E xs none
 | .slx E, d => .slx E d.1 d.2
 | .own E i, xs => .sl E xs (some i)
 | .ptr i o, _ => .ptr i o
 | .nilptr, _ => .nilptr
 | .nil, _ => .nil
 | .fn f, _ => .fn f
 | .as E i, d => .as E i d.1 d.2.1 (some d.2.2)
 | .asu E i, d => .as E i d.1 d.2 none
 | .asz E i, d => .as E i 0 d none
 | .clo f ps, _ => .clo f ps
 | .mp E k, tb => .mp E k tb
 | .mo i, _ => .mo i
 | .gv i c n, d => .gv i c (ndl n d)
 | .junk, _ => .junk
def Zyq : (l : List Cs) -> CsD T l -> List (XV T)
 | [], _ => []
 | c :: l, d => c.st d.1 :: Zyq l d.2
def Vs.st (C : ZaA T) : (v : Vs) -> v.D T -> XV T
 | .one c, d => c.st d
 | .agg l, d => .agg (Zyq l d)
 | .cod E, x => .agg (C.enc E x)
 | .vl l, d => .vl (Zyq l d)
 | .ce l, d => .ce (Zyq l d)
def ZkY (C : ZaA T) : (l : List Vs) -> VsD T l -> List (XV T)
 | [], _ => []
 | v :: l, d => v.st C d.1 :: ZkY C l d.2
def Rs.st (C : ZaA T) : (r : Rs) -> r.D T -> XV T
 | .val v, d => v.st C d
 | .tup l, d => .tup (ZkY C l d)
def Hs.st (C : ZaA T) : (x : Hs) -> x.D T -> HI T
 | .obj t l, d => .obj t (Zyq l d)
 | .cobj t E, x => .obj t (C.enc E x)
 | .row e sz, _ => .row e sz
 | .arr e E kp, xs => .arr e E kp xs
 | .mmap K V, es => .mmap K V es
 | .lobj t l, d => .obj t (Zyq l d)
 | .lmap K V, es => .mmap K V es
 | .gen E _, x => .gen E x
 | .dead, _ => .dead
def Zed (C : ZaA T) : (l : List Hs) -> HsD T l -> List (HI T)
 | [], _ => []
 | x :: l, d => x.st C d.1 :: Zed C l d.2
abbrev Pi := List (Nat × Option Nat)
def ZaP : Pi -> Nat -> Option (Option Nat)
 | [], _ => none
 | (j, x) :: l, i => bif Nat.beq j i then some x else ZaP l i
def ZAA : Pi -> Nat -> Option Nat
 | [], _ => none
 | (i, some j) :: l, k => bif Nat.beq j k then some i else ZAA l k
 | (_, none) :: l, k => ZAA l k
def oeq : Option Nat -> Option Nat -> Bool
 | some a, some b => Nat.beq a b
 | none, none => true
 | _, _ => false
def ZwW (π : Pi) : Option Nat -> Bool
 | none => true
 | some j => (ZAA π j).isNone
def ZgB (π : Pi) (i : Nat) (j : Option Nat) (k : Pi -> Option A) : Option A := match ZaP π i with
 | some j' => cond (oeq j' j) (k π) none
 | none => cond (ZwW π j) (k ((i, j) :: π)) none
def Zm9 : Pi -> List Nat -> List Nat -> (Pi -> Option A) -> Option A
 | π, [], [], k => k π
 | π, i :: ps, j :: qs, k => ZgB π i (some j) fun π => Zm9 π ps qs k
 | _, _, _, _ => none
def rdN : (n : Nat) -> List Nat -> (ND n -> Option A) -> Option A
 | 0, [], k => k ()
 | n + 1, a :: l, k => rdN n l fun d => k (a, d)
 | _, _, _ => none
def Cs.rd (c : Cs) (v : XV T) (π : Pi) (k : c.D T -> Pi -> Option A) : Option A := match c, v with
 | .int kd, .int kd' n => if kd = kd' then k n π else none
 | .bool, .bool b => k b π
 | .str, .str s => k s π
 | .sl E, .sl E' xs _ => if h : E' = E then k (h ▸ xs) π else none
 | .sl E, .nil => k [] π
 | .sl E, .slx E' xs _ => if h : E' = E then k (h ▸ xs) π else none
 | .slx E, .slx E' xs ys => if h : E' = E then k (h ▸ xs, h ▸ ys) π else none
 | .slx E, .nil => k ([], []) π
 | .own E i, .sl E' xs (some r) => if h : E' = E then ZgB π i (some r) fun π => k (h ▸ xs) π else none
 | .own E i, .nil => ZgB π i none fun π => k [] π
 | .ptr i o, .ptr j o' => cond (Nat.beq o o') (ZgB π i (some j) fun π => k () π) none
 | .mo i, .mo j => ZgB π i (some j) fun π => k () π
 | .nilptr, .nilptr => k () π
 | .nil, .nil => k () π
 | .fn f, .fn f' => cond (Nat.beq f f') (k () π) none
 | .as E i, .as E' j lo n (some c) => cond (Nat.beq E' E) (ZgB π i (some j) fun π => k (lo, n, c) π) none
 | .asu E i, .as E' j lo n _ => cond (Nat.beq E' E) (ZgB π i (some j) fun π => k (lo, n) π) none
 | .asz E i, .as E' j lo n _ => cond (Nat.beq E' E && Nat.beq lo 0) (ZgB π i (some j) fun π => k n π) none
 | .as E i, .nil => ZgB π i none fun π => k (0, 0, 0) π
 | .asu E i, .nil => ZgB π i none fun π => k (0, 0) π
 | .asz E i, .nil => ZgB π i none fun π => k 0 π
 | .clo f ps, .clo f' qs => cond (Nat.beq f f') (Zm9 π ps qs fun π => k () π) none
 | .gv i c n, .gv j c' l => cond (Nat.beq c c') (ZgB π i (some j) fun π => rdN n l fun d => k d π) none
 | .junk, _ => k () π
 | _, _ => none
def ZwX : (l : List Cs) -> List (XV T) -> Pi -> (CsD T l -> Pi -> Option A) -> Option A
 | [], [], π, k => k () π
 | c :: l, v :: vs, π, k => c.rd v π fun d π => ZwX l vs π fun ds π => k (d, ds) π
 | [], _ :: _, _, _ => none
 | _ :: _, [], _, _ => none
def Vs.rd (C : ZaA T) (s : Vs) (v : XV T) (π : Pi) (k : s.D T -> Pi -> Option A) : Option A := match s with
 | .one c => c.rd v π k
 | .agg l => match v with
  | .agg vs => ZwX l vs π k
  | _ => none
 | .cod E => match v with
  | .agg vs => (C.dec E vs).bind fun x => k x π
  | _ => none
 | .vl l => match v with
  | .vl vs => ZwX l vs π k
  | _ => none
 | .ce _ => none
def ZuF (C : ZaA T) : (l : List Vs) -> List (XV T) -> Pi -> (VsD T l -> Pi -> Option A) -> Option A
 | [], [], π, k => k () π
 | s :: l, v :: vs, π, k => s.rd C v π fun d π => ZuF C l vs π fun ds π => k (d, ds) π
 | [], _ :: _, _, _ => none
 | _ :: _, [], _, _ => none
def Rs.rd (C : ZaA T) (s : Rs) (v : XV T) (π : Pi) (k : s.D T -> Pi -> Option A) : Option A := match s with
 | .val s => s.rd C v π k
 | .tup l => match v with
  | .tup vs => ZuF C l vs π k
  | _ => none
def Hs.rd (C : ZaA T) (x : Hs) (i : Nat) (h : List (HI T)) (π : Pi) (k : x.D T -> Pi -> Option A) : Option A := match x with
 | .obj t l => match ZaP π i with
  | some (some j) => match h[j]? with
   | some (.obj t' cs) => cond (Nat.beq t t') (ZwX l cs π k) none
   | _ => none
  | _ => none
 | .cobj t E => match ZaP π i with
  | some (some j) => match h[j]? with
   | some (.obj t' cs) => cond (Nat.beq t t') ((C.dec E cs).bind fun x => k x π) none
   | _ => none
  | _ => none
 | .row e sz => match ZaP π i with
  | some (some j) => match h[j]? with
   | some (.row e' sz') => cond (Nat.beq e e' && Nat.beq sz sz') (k () π) none
   | _ => none
  | some none => k () π
  | none => none
 | .arr e E _ => match ZaP π i with
  | some (some j) => match h[j]? with
   | some (.arr e' E' _ xs) => cond (Nat.beq e e') (if hE : E' = E then k (hE ▸ xs) π else none) none
   | _ => none
  | some none => k [] π
  | none => none
 | .mmap K V => match ZaP π i with
  | some (some j) => match h[j]? with
   | some (.mmap K' V' es) => if hE : K' = K /\ V' = V then k (hE.1 ▸ hE.2 ▸ es) π else none
   | _ => none
  | _ => none
 | .lobj t l => match ZaP π i with
  | some (some j) => match h[j]? with
   | some (.obj t' cs) => cond (Nat.beq t t') (ZwX l cs π k) none
   | _ => none
  | _ => none
 | .lmap K V => match ZaP π i with
  | some (some j) => match h[j]? with
   | some (.mmap K' V' es) => if hE : K' = K /\ V' = V then k (hE.1 ▸ hE.2 ▸ es) π else none
   | _ => none
  | _ => none
 | .gen E _ => match ZaP π i with
  | some (some j) => match h[j]? with
   | some (.gen E' x) => if hE : E' = E then k (hE ▸ x) π else none
   | _ => none
  | _ => none
 | .dead => k () π
def ZAB (C : ZaA T) (h : List (HI T)) : Nat -> (l : List Hs) -> Pi -> (HsD T l -> Pi -> Option A) -> Option A
 | _, [], π, k => k () π
 | i, x :: l, π, k => x.rd C i h π fun d π => ZAB C h (i + 1) l π fun ds π => k (d, ds) π
def PLe (π π' : Pi) : Prop := ∀ i x, ZaP π i = some x -> ZaP π' i = some x
def Inj (π : Pi) : Prop := ∀ i j x, ZaP π i = some (some x) -> ZaP π j = some (some x) -> i = j
def ZcF (π : Pi) (ρ : Nat -> AV) (i : Nat) : AV := match ZaP π i with
 | some (some j) => ρ j
 | _ => .lst none 0 0 []
section
variable {C : ZaA T} {ρ : Nat -> AV} {π π' π'' : Pi} {N M : Nat} {z : A} {h : List (HI T)} {σ : St}
theorem PLe.refl (π : Pi) : PLe π π := fun _ _ h => h
theorem PLe.trans (h : PLe π π') (k : PLe π' π'') : PLe π π'' := fun i x hx => k i x (h i x hx)
theorem ZaI (j : Nat) (x : Option Nat) (l : Pi) (i : Nat) : ZaP ((j, x) :: l) i = if j = i then some x else ZaP l i := by
 show (bif Nat.beq j i then some x else ZaP l i) = _
 by_cases hi : j = i
 ·subst hi; simp
 ·have : Nat.beq j i = false := by cases hb : Nat.beq j i <;> simp_all
  rw [this, if_neg hi]; rfl
theorem ZrK {a b : Option Nat} (h : oeq a b = true) : a = b := by
 cases a <;> cases b <;> simp_all [oeq]
theorem ZlA {j : Nat} : ∀ {π : Pi}, ZAA π j = none -> ∀ i, ZaP π i ≠ some (some j)
 | [], _, i => by simp [ZaP]
 | (a, none) :: l, h, i => by
  rw [ZaI]
  split
  ·simp
  ·exact ZlA (π := l) h i
 | (a, some b) :: l, h, i => by
  have h' : (bif Nat.beq b j then some a else ZAA l j) = none := h
  rw [ZaI]
  cases hb : Nat.beq b j
  ·rw [hb] at h'
   split
   ·intro e; injection e with e; injection e with e; subst e; rw [Nat.beq_refl] at hb; cases hb
   ·exact ZlA (π := l) h' i
  ·rw [hb] at h'; cases h'
theorem Zbo {i : Nat} {j : Option Nat} {k : Pi -> Option A} (hk : ZgB π i j k = some z) : ∃ π', k π' = some z /\ PLe π π' /\ ZaP π' i = some j /\ (Inj π -> Inj π') := by
 unfold ZgB at hk
 split at hk
 ·rename_i j' hl
  cases hb : oeq j' j
  ·rw [hb] at hk; cases hk
  ·rw [hb] at hk
   exact ⟨π, hk, .refl _, by rw [hl, ZrK hb], id⟩
 ·rename_i hl
  cases hb : ZwW π j
  ·rw [hb] at hk; cases hk
  ·rw [hb] at hk
   refine ⟨_, hk, fun a x hx => ?_, by rw [ZaI, if_pos rfl], fun hI a b x ha hb' => ?_⟩
   ·rw [ZaI, if_neg (by rintro rfl; rw [hl] at hx; cases hx)]; exact hx
   ·rw [ZaI] at ha hb'
    have hno : ∀ c, ZaP π c = some (some x) -> j ≠ some x := fun c hc e => by
     subst e
     unfold ZwW at hb
     have : ZAA π x = none := by simpa using hb
     exact ZlA this c hc
    split at ha
    ·rename_i e1
     split at hb'
     ·rename_i e2; rw [<- e1, <- e2]
     ·injection ha with ha; exact absurd ha (hno b hb')
    ·split at hb'
     ·injection hb' with hb'; exact absurd hb' (hno a ha)
     ·exact hI a b x ha hb'
theorem Zkn : ∀ {ps qs : List Nat} {π : Pi} {k : Pi -> Option A}, Zm9 π ps qs k = some z -> ∃ π', k π' = some z /\ PLe π π' /\ (Inj π -> Inj π') /\ ∀ (π'' : Pi) (ρ : Nat -> AV) (N M : Nat) (bs : List Nat), PLe π' π'' -> (∀ i x, ZaP π'' i = some x -> i < M) -> Ze6 N ρ qs bs -> Ze6 M (ZcF π'' ρ) ps bs
 | [], [], π, k, hk => ⟨π, hk, .refl _, id, fun π'' ρ N M bs _ _ hb => by cases bs <;> first | trivial | exact hb.elim⟩
 | i :: ps, j :: qs, π, k, hk => by
  obtain ⟨π1, h1, h2, h3, h4⟩ := Zbo hk
  obtain ⟨π2, g1, g2, g3, g4⟩ := Zkn h1
  refine ⟨π2, g1, h2.trans g2, fun hI => g3 (h4 hI), fun π'' ρ N M bs hp hM hb => ?_⟩
  cases bs with
  | nil => exact hb.elim
  | cons b bs =>
   have hl := hp _ _ (g2 _ _ h3)
   exact ⟨⟨hM _ _ hl, by unfold ZcF; rw [hl]; exact hb.1.2⟩, g4 π'' ρ N M bs hp hM hb.2⟩
 | [], _ :: _, π, k, hk => by cases hk
 | _ :: _, [], π, k, hk => by cases hk
def Zs6 (C : ZaA T) (N M : Nat) (π : Pi) (v u : XV T) : Prop := ∀ π' ρ a, PLe π π' -> (∀ i x, ZaP π' i = some x -> i < M) -> SV C N ρ v a -> SV C M (ZcF π' ρ) u a
theorem Zs6.more {v u : XV T} (h : Zs6 C N M π v u) (hp : PLe π π') : Zs6 C N M π' v u := fun π'' ρ a h1 h2 h3 => h π'' ρ a (hp.trans h1) h2 h3
theorem ZuG {E i N M : Nat} {co : Option Nat} {a : AV} (hs : SV C N ρ .nil a) (hl : ZaP π i = some none) (hi : i < M) (hc : ∀ c', co = some c' -> 0 = c') : SV C M (ZcF π ρ) (.as E i 0 0 co) a := by
 rw [Zek.1 hs]
 exact ZbQ.2 (.inr ⟨rfl, rfl, hi, by unfold ZcF; rw [hl], fun c' h => (hc c' h).symm⟩)
theorem Zph : ∀ {n : Nat} {l : List Nat} {k : ND n -> Option A}, rdN n l k = some z -> ∃ d, k d = some z /\ ndl n d = l
 | 0, [], k, hk => ⟨(), hk, rfl⟩
 | n + 1, a :: l, k, hk => by
  obtain ⟨d, h1, h2⟩ := Zph (n := n) hk
  exact ⟨(a, d), h1, by show a :: ndl n d = _; rw [h2]⟩
 | 0, _ :: _, k, hk => by cases hk
 | _ + 1, [], k, hk => by cases hk
theorem ZBd {c : Cs} {v : XV T} {k : c.D T -> Pi -> Option A} (hk : c.rd v π k = some z) : ∃ d π', k d π' = some z /\ PLe π π' /\ (Inj π -> Inj π') /\ ∀ (C : ZaA T) N M, Zs6 C N M π' v (c.st d) := by
 unfold Cs.rd at hk
 split at hk
 ·split at hk
  ·rename_i e; subst e
   exact ⟨_, _, hk, .refl _, id, fun C N M π' ρ a _ _ hs => by rw [Zaw.1 hs]; exact Zaw.2 rfl⟩
  ·cases hk
 ·exact ⟨_, _, hk, .refl _, id, fun C N M π' ρ a _ _ hs => by rw [Za7.1 hs]; exact Za7.2 rfl⟩
 ·exact ⟨_, _, hk, .refl _, id, fun C N M π' ρ a _ _ hs => by rw [ZgH.1 hs]; exact ZgH.2 rfl⟩
 ·split at hk
  ·rename_i e; subst e
   refine ⟨_, _, hk, .refl _, id, fun C N M π' ρ a _ _ hs => ?_⟩
   obtain ⟨A, c, cs, rest, rfl, l1, l2, l3, l4, l5⟩ := Zfp hs
   exact Zb8.2 ⟨A, c, cs, rest, rfl, l1, l2, l3, l4, l5.shut (ZcA _)⟩
  ·cases hk
 ·refine ⟨_, _, hk, .refl _, id, fun C N M π' ρ a _ _ hs => ?_⟩
  rw [Zek.1 hs]
  exact Zb8.2 ⟨none, 0, [], [], rfl, Nat.le_refl _, Nat.zero_le _, Nat.zero_le _, fun _ => ⟨rfl, rfl⟩, .none⟩
 ·split at hk
  ·rename_i e; subst e
   refine ⟨_, _, hk, .refl _, id, fun C N M π' ρ a _ _ hs => ?_⟩
   exact SVs.shut ((Wk.spare _ _ _).sv hs) (by intro v hv; simp at hv; subst hv; rfl)
  ·cases hk
 ·split at hk
  ·rename_i e; subst e
   exact ⟨_, _, hk, .refl _, id, fun C N M π' ρ a _ _ hs => SVs.shut hs (by intro v hv; simp at hv; subst hv; rfl)⟩
  ·cases hk
 ·exact ⟨_, _, hk, .refl _, id, fun C N M π' ρ a _ _ hs => SVs.shut ((Wk.nilx _).sv hs) (by intro v hv; simp [Cs.st] at hv; subst hv; rfl)⟩
 ·split at hk
  ·rename_i e; subst e
   obtain ⟨π1, h1, h2, h3, h4⟩ := Zbo hk
   refine ⟨_, _, h1, h2, h4, fun C N M π' ρ a hp hM hs => ?_⟩
   obtain ⟨rfl, _, h5⟩ := ZfK.1 hs
   obtain ⟨A, c, cs, rest, ea, l1, l2, l3, l4, l5⟩ := Zb8.1 h5
   have hl := hp _ _ h3
   exact ZfK.2 ⟨by unfold ZcF; rw [hl], hM _ _ hl, Zb8.2 ⟨A, c, cs, rest, ea, l1, l2, l3, l4, l5.shut (ZcA _)⟩⟩
  ·cases hk
 ·obtain ⟨π1, h1, h2, h3, h4⟩ := Zbo hk
  refine ⟨_, _, h1, h2, h4, fun C N M π' ρ a hp hM hs => ?_⟩
  rw [Zek.1 hs]
  have hl := hp _ _ h3
  exact ZfK.2 ⟨by unfold ZcF; rw [hl], hM _ _ hl, Zb8.2 ⟨none, 0, [], [], rfl, Nat.le_refl _, Nat.zero_le _, Nat.zero_le _, fun _ => ⟨rfl, rfl⟩, .none⟩⟩
 ·rename_i i o j o' k'
  cases hb : Nat.beq o o'
  ·rw [hb] at hk; cases hk
  rw [hb] at hk
  have ho := Nat.eq_of_beq_eq_true hb
  subst ho
  obtain ⟨π1, h1, h2, h3, h4⟩ := Zbo (A := A) hk
  refine ⟨_, _, h1, h2, h4, fun C N M π' ρ a hp hM hs => ?_⟩
  obtain ⟨b, rfl, h5, h6⟩ := Zdp.1 hs
  have hl := hp _ _ h3
  exact Zdp.2 ⟨b, rfl, hM _ _ hl, by unfold ZcF; rw [hl]; exact h6⟩
 ·rename_i i j k'
  obtain ⟨π1, h1, h2, h3, h4⟩ := Zbo (A := A) hk
  refine ⟨_, _, h1, h2, h4, fun C N M π' ρ a hp hM hs => ?_⟩
  obtain ⟨b, rfl, h5, h6⟩ := Zqx.1 hs
  have hl := hp _ _ h3
  exact Zqx.2 ⟨b, rfl, hM _ _ hl, by unfold ZcF; rw [hl]; exact h6⟩
 ·exact ⟨_, _, hk, .refl _, id, fun C N M π' ρ a _ _ hs => by rw [ZbU.1 hs]; exact ZbU.2 rfl⟩
 ·exact ⟨_, _, hk, .refl _, id, fun C N M π' ρ a _ _ hs => by rw [Zek.1 hs]; exact Zek.2 rfl⟩
 ·rename_i f f' k'
  cases hb : Nat.beq f f'
  ·rw [hb] at hk; cases hk
  rw [hb] at hk
  have ho := Nat.eq_of_beq_eq_true hb
  subst ho
  exact ⟨_, _, hk, .refl _, id, fun C N M π' ρ a _ _ hs => by rw [Zju.1 hs]; exact Zju.2 rfl⟩
 ·rename_i E i E' j lo n c k'
  cases hb : Nat.beq E' E
  ·rw [hb] at hk; cases hk
  rw [hb] at hk
  have ho := Nat.eq_of_beq_eq_true hb
  subst ho
  obtain ⟨π1, h1, h2, h3, h4⟩ := Zbo (A := A) hk
  refine ⟨_, _, h1, h2, h4, fun C N M π' ρ a hp hM hs => ?_⟩
  have hl := hp _ _ h3
  rcases ZbQ.1 hs with ⟨ad, c', rfl, hA⟩ | ⟨rfl, hn0, hiN, hρi, hco⟩
  ·obtain ⟨b, q1, q2⟩ := hA.at_
   exact ZbQ.2 (.inl ⟨ad, c', rfl, hM _ _ hl, hA.le, hA.max, hA.len, ⟨b, by unfold ZcF; rw [hl]; exact q1, q2⟩, hA.cap⟩)
  ·exact ZbQ.2 (.inr ⟨rfl, hn0, hM _ _ hl, by unfold ZcF; rw [hl]; exact hρi, hco⟩)
 ·rename_i E i E' j lo n c k'
  cases hb : Nat.beq E' E
  ·rw [hb] at hk; cases hk
  rw [hb] at hk
  have ho := Nat.eq_of_beq_eq_true hb
  subst ho
  obtain ⟨π1, h1, h2, h3, h4⟩ := Zbo (A := A) hk
  refine ⟨_, _, h1, h2, h4, fun C N M π' ρ a hp hM hs => ?_⟩
  have hl := hp _ _ h3
  rcases ZbQ.1 hs with ⟨ad, c', rfl, hA⟩ | ⟨rfl, hn0, hiN, hρi, hco⟩
  ·obtain ⟨b, q1, q2⟩ := hA.at_
   exact ZbQ.2 (.inl ⟨ad, c', rfl, hM _ _ hl, hA.le, hA.max, hA.len, ⟨b, by unfold ZcF; rw [hl]; exact q1, q2⟩, fun c'' hc => by cases hc⟩)
  ·exact ZbQ.2 (.inr ⟨rfl, hn0, hM _ _ hl, by unfold ZcF; rw [hl]; exact hρi, fun c'' hc => by cases hc⟩)
 ·rename_i E i E' j lo n c k'
  cases hb : (Nat.beq E' E && Nat.beq lo 0)
  ·rw [hb] at hk; cases hk
  rw [hb] at hk
  simp only [Bool.and_eq_true] at hb
  obtain ⟨hb, hb2⟩ := hb
  have ho := Nat.eq_of_beq_eq_true hb
  have ho2 := Nat.eq_of_beq_eq_true hb2
  subst ho ho2
  obtain ⟨π1, h1, h2, h3, h4⟩ := Zbo (A := A) hk
  refine ⟨_, _, h1, h2, h4, fun C N M π' ρ a hp hM hs => ?_⟩
  have hl := hp _ _ h3
  rcases ZbQ.1 hs with ⟨ad, c', rfl, hA⟩ | ⟨rfl, hn0, hiN, hρi, hco⟩
  ·obtain ⟨b, q1, q2⟩ := hA.at_
   exact ZbQ.2 (.inl ⟨ad, c', rfl, hM _ _ hl, hA.le, hA.max, hA.len, ⟨b, by unfold ZcF; rw [hl]; exact q1, q2⟩, fun c'' hc => by cases hc⟩)
  ·exact ZbQ.2 (.inr ⟨rfl, hn0, hM _ _ hl, by unfold ZcF; rw [hl]; exact hρi, fun c'' hc => by cases hc⟩)
 ·obtain ⟨π1, h1, h2, h3, h4⟩ := Zbo hk
  refine ⟨_, _, h1, h2, h4, fun C N M π' ρ a hp hM hs => ?_⟩
  have hl := hp _ _ h3
  exact ZuG hs hl (hM _ _ hl) (fun c' hc => by injection hc)
 ·obtain ⟨π1, h1, h2, h3, h4⟩ := Zbo hk
  refine ⟨_, _, h1, h2, h4, fun C N M π' ρ a hp hM hs => ?_⟩
  have hl := hp _ _ h3
  exact ZuG hs hl (hM _ _ hl) (fun c' hc => by cases hc)
 ·obtain ⟨π1, h1, h2, h3, h4⟩ := Zbo hk
  refine ⟨_, _, h1, h2, h4, fun C N M π' ρ a hp hM hs => ?_⟩
  have hl := hp _ _ h3
  exact ZuG hs hl (hM _ _ hl) (fun c' hc => by cases hc)
 ·rename_i f ps f' qs k'
  cases hb : Nat.beq f f'
  ·rw [hb] at hk; cases hk
  rw [hb] at hk
  have ho := Nat.eq_of_beq_eq_true hb
  subst ho
  obtain ⟨π1, h1, h2, h3, h4⟩ := Zkn (A := A) hk
  refine ⟨_, _, h1, h2, h3, fun C N M π' ρ a hp hM hs => ?_⟩
  obtain ⟨bs, rfl, h5⟩ := Ziz.1 hs
  exact Ziz.2 ⟨bs, rfl, h4 π' ρ N M bs hp hM h5⟩
 ·rename_i i c n j c' l k'
  cases hb : Nat.beq c c'
  ·rw [hb] at hk; cases hk
  rw [hb] at hk
  have ho := Nat.eq_of_beq_eq_true hb
  subst ho
  have hk : (ZgB π i (some j) fun π => rdN n l fun d => k' d π) = some z := hk
  obtain ⟨π1, h1, h2, h3, h4⟩ := Zbo (A := A) hk
  obtain ⟨dd, h5, h6⟩ := Zph h1
  refine ⟨dd, _, h5, h2, h4, fun C N M π' ρ a hp hM hs => ?_⟩
  obtain ⟨g1, g2⟩ := Zqy.1 hs
  have hl := hp _ _ h3
  show SV C M (ZcF π' ρ) (.gv i c (ndl n dd)) _
  rw [h6]
  exact Zqy.2 ⟨hM _ _ hl, by unfold ZcF; rw [hl]; exact g2⟩
 ·exact ⟨_, _, hk, .refl _, id, fun C N M π' ρ a _ _ hs => ZbV⟩
 ·cases hk
def Zpi (C : ZaA T) (N M : Nat) (π : Pi) (v u : List (XV T)) : Prop := ∀ π' ρ as_, PLe π π' -> (∀ i x, ZaP π' i = some x -> i < M) -> SVs C N ρ v as_ -> SVs C M (ZcF π' ρ) u as_
theorem Zpi.more {v u : List (XV T)} (h : Zpi C N M π v u) (hp : PLe π π') : Zpi C N M π' v u := fun π'' ρ a h1 h2 h3 => h π'' ρ a (hp.trans h1) h2 h3
theorem Zpj : ∀ {l : List Cs} {vs : List (XV T)} {π : Pi} {k : CsD T l -> Pi -> Option A}, ZwX l vs π k = some z -> ∃ d π', k d π' = some z /\ PLe π π' /\ (Inj π -> Inj π') /\ ∀ (C : ZaA T) N M, Zpi C N M π' vs (Zyq l d)
 | [], [], π, k, hk => ⟨_, _, hk, .refl _, id, fun C N M π' ρ as_ _ _ hs => by rw [ZbA.1 hs]; exact .none⟩
 | c :: l, v :: vs, π, k, hk => by
  obtain ⟨d, π1, h1, h2, h3, h4⟩ := ZBd hk
  obtain ⟨ds, π2, g1, g2, g3, g4⟩ := Zpj h1
  refine ⟨_, _, g1, h2.trans g2, fun hI => g3 (h3 hI), fun C N M π' ρ as_ hp hM hs => ?_⟩
  obtain ⟨a, bs, rfl, s1, s2⟩ := hs.to
  exact .cons (h4 C N M π' ρ a (g2.trans hp) hM s1) (g4 C N M π' ρ bs hp hM s2)
 | [], _ :: _, π, k, hk => by cases hk
 | _ :: _, [], π, k, hk => by cases hk
theorem ZBe {s : Vs} {v : XV T} {k : s.D T -> Pi -> Option A} (hk : s.rd C v π k = some z) : ∃ d π', k d π' = some z /\ PLe π π' /\ (Inj π -> Inj π') /\ ∀ N M, Zs6 C N M π' v (s.st C d) := by
 cases s with
 | one c =>
  obtain ⟨d, π1, h1, h2, h3, h4⟩ := ZBd (c := c) hk
  exact ⟨d, π1, h1, h2, h3, h4 C⟩
 | agg l =>
  unfold Vs.rd at hk
  dsimp only at hk
  split at hk
  ·obtain ⟨d, π1, h1, h2, h3, h4⟩ := Zpj hk
   refine ⟨d, π1, h1, h2, h3, fun N M π' ρ a hp hM hs => ?_⟩
   obtain ⟨ls, rfl, hl⟩ := ZcE.1 hs
   exact ZcE.2 ⟨ls, rfl, h4 C N M π' ρ ls hp hM hl⟩
  ·cases hk
 | cod E =>
  unfold Vs.rd at hk
  dsimp only at hk
  split at hk
  ·rename_i vs
   cases hd : C.dec E vs with
   | none => rw [hd] at hk; cases hk
   | some x =>
    rw [hd] at hk
    refine ⟨x, π, hk, .refl _, id, fun N M π' ρ a hp hM hs => ?_⟩
    obtain ⟨ls, rfl, hl⟩ := ZcE.1 hs
    exact ZcE.2 ⟨ls, rfl, (Wks.sv (C.back E _ _ hd) hl).shut (C.shut E x)⟩
  ·cases hk
 | vl l =>
  unfold Vs.rd at hk
  dsimp only at hk
  split at hk
  ·obtain ⟨d, π1, h1, h2, h3, h4⟩ := Zpj hk
   refine ⟨d, π1, h1, h2, h3, fun N M π' ρ a hp hM hs => ?_⟩
   obtain ⟨A, c, ls, rest, rfl, l1, l2, l3, l4, hl⟩ := Zuj.1 hs
   have hq := h4 C N M π' ρ ls hp hM hl
   have e : (Zyq l d).length = _ := hq.len.symm.trans hl.len
   refine Zuj.2 ⟨A, c, ls, rest, by rw [e], by rw [e]; exact l1, l2, by rw [e]; exact l3, by rw [e]; exact l4, hq⟩
  ·cases hk
 | ce l => cases hk
theorem Zna : ∀ {l : List Vs} {vs : List (XV T)} {π : Pi} {k : VsD T l -> Pi -> Option A}, ZuF C l vs π k = some z -> ∃ d π', k d π' = some z /\ PLe π π' /\ (Inj π -> Inj π') /\ ∀ N M, Zpi C N M π' vs (ZkY C l d)
 | [], [], π, k, hk => ⟨_, _, hk, .refl _, id, fun N M π' ρ as_ _ _ hs => by rw [ZbA.1 hs]; exact .none⟩
 | c :: l, v :: vs, π, k, hk => by
  obtain ⟨d, π1, h1, h2, h3, h4⟩ := ZBe hk
  obtain ⟨ds, π2, g1, g2, g3, g4⟩ := Zna h1
  refine ⟨_, _, g1, h2.trans g2, fun hI => g3 (h3 hI), fun N M π' ρ as_ hp hM hs => ?_⟩
  obtain ⟨a, bs, rfl, s1, s2⟩ := hs.to
  exact .cons (h4 N M π' ρ a (g2.trans hp) hM s1) (g4 N M π' ρ bs hp hM s2)
 | [], _ :: _, π, k, hk => by cases hk
 | _ :: _, [], π, k, hk => by cases hk
theorem ZCR {s : Rs} {v : XV T} {k : s.D T -> Pi -> Option A} (hk : s.rd C v π k = some z) : ∃ d π', k d π' = some z /\ PLe π π' /\ (Inj π -> Inj π') /\ ∀ N M, Zs6 C N M π' v (s.st C d) := by
 cases s with
 | val s => exact ZBe (s := s) hk
 | tup l =>
  unfold Rs.rd at hk
  dsimp only at hk
  split at hk
  ·obtain ⟨d, π1, h1, h2, h3, h4⟩ := Zna hk
   refine ⟨d, π1, h1, h2, h3, fun N M π' ρ a hp hM hs => ?_⟩
   obtain ⟨ls, rfl, hl⟩ := Ze7.1 hs
   exact Ze7.2 ⟨ls, rfl, h4 N M π' ρ ls hp hM hl⟩
  ·cases hk
def Zyr (C : ZaA T) (M : Nat) (π : Pi) (h : List (HI T)) (i : Nat) (u : HI T) : Prop := ∀ π' ρ σ, PLe π π' -> (∀ i x, ZaP π' i = some x -> i < M) -> Hp C ρ h σ ->
 SH C M (ZcF π' ρ) σ i u /\ (u.alive = true -> ∀ b, (ZcF π' ρ i).owns b -> ∃ j x, ZaP π' i = some (some j) /\ h[j]? = some x /\ x.alive = true /\ (ρ j).owns b)
theorem ZCS {x : Hs} {i : Nat} {k : x.D T -> Pi -> Option A} (hk : x.rd C i h π k = some z) : ∃ d π', k d π' = some z /\ PLe π π' /\ (Inj π -> Inj π') /\ ((x.st C d).alive = true -> ∃ w, ZaP π' i = some w) /\ ∀ M, Zyr C M π' h i (x.st C d) := by
 cases x with
 | obj t l =>
  unfold Hs.rd at hk
  dsimp only at hk
  split at hk
  ·rename_i j hj
   split at hk
   ·rename_i t' cs hg
    cases hb : Nat.beq t t'
    ·rw [hb] at hk; cases hk
    rw [hb] at hk
    have ht := Nat.eq_of_beq_eq_true hb
    subst ht
    obtain ⟨d, π1, h1, h2, h3, h4⟩ := Zpj (A := A) hk
    refine ⟨d, π1, h1, h2, h3, fun _ => ⟨_, h2 _ _ hj⟩, fun M π' ρ σ hp hM H => ⟨?_, fun _ b hb' => ?_⟩⟩
    ·have hl := hp _ _ (h2 _ _ hj)
     obtain ⟨b, acs, e1, e2, e3, e4⟩ := H.it j _ hg
     exact ⟨b, acs, by unfold ZcF; rw [hl]; exact e1, e2, e3, h4 C _ M π' ρ acs hp hM e4⟩
    ·have hl := hp _ _ (h2 _ _ hj)
     unfold ZcF at hb'
     rw [hl] at hb'
     exact ⟨j, _, hl, hg, rfl, hb'⟩
   ·cases hk
  ·cases hk
 | cobj t E =>
  unfold Hs.rd at hk
  dsimp only at hk
  split at hk
  ·rename_i j hj
   split at hk
   ·rename_i t' cs hg
    cases hb : Nat.beq t t'
    ·rw [hb] at hk; cases hk
    rw [hb] at hk
    have ht := Nat.eq_of_beq_eq_true hb
    subst ht
    cases hd : C.dec E cs with
    | none => rw [hd] at hk; cases hk
    | some x =>
     rw [hd] at hk
     refine ⟨x, π, hk, .refl _, id, fun _ => ⟨_, hj⟩, fun M π' ρ σ hp hM H => ⟨?_, fun _ b hb' => ?_⟩⟩
     ·have hl := hp _ _ hj
      obtain ⟨b, acs, e1, e2, e3, e4⟩ := H.it j _ hg
      exact ⟨b, acs, by unfold ZcF; rw [hl]; exact e1, e2, e3, (Wks.sv (C.back E _ _ hd) e4).shut (C.shut E x)⟩
     ·have hl := hp _ _ hj
      unfold ZcF at hb'
      rw [hl] at hb'
      exact ⟨j, _, hl, hg, rfl, hb'⟩
   ·cases hk
  ·cases hk
 | arr e E kp =>
  unfold Hs.rd at hk
  dsimp only at hk
  split at hk
  ·rename_i j hj
   split at hk
   ·rename_i e' E' kp' xs hg
    cases hb : Nat.beq e e'
    ·rw [hb] at hk; cases hk
    rw [hb] at hk
    have ht := Nat.eq_of_beq_eq_true hb
    subst ht
    simp only [cond_true] at hk
    split at hk
    ·rename_i hE
     subst hE
     refine ⟨xs, π, hk, .refl _, id, fun _ => ⟨_, hj⟩, fun M π' ρ σ hp hM H => ⟨?_, fun _ b hb' => ?_⟩⟩
     ·have hl := hp _ _ hj
      have e : ZcF π' ρ i = ρ j := by unfold ZcF; rw [hl]
      have := H.it j _ hg
      unfold SH at this ⊢
      rw [e]
      exact this
     ·have hl := hp _ _ hj
      unfold ZcF at hb'
      rw [hl] at hb'
      exact ⟨j, _, hl, hg, rfl, hb'⟩
    ·cases hk
   ·cases hk
  ·rename_i hj
   refine ⟨[], π, hk, .refl _, id, fun _ => ⟨_, hj⟩, fun M π' ρ σ hp hM H => ⟨?_, fun _ b hb' => ?_⟩⟩
   ·have hl := hp _ _ hj
    exact .inr ⟨by unfold ZcF; rw [hl], rfl⟩
   ·have hl := hp _ _ hj
    unfold ZcF at hb'
    rw [hl] at hb'
    cases hb'
  ·cases hk
 | mmap K V =>
  unfold Hs.rd at hk
  dsimp only at hk
  split at hk
  ·rename_i j hj
   split at hk
   ·rename_i K' V' es hg
    split at hk
    ·rename_i hE
     obtain ⟨e1, e2⟩ := hE
     subst e1 e2
     refine ⟨es, π, hk, .refl _, id, fun _ => ⟨_, hj⟩, fun M π' ρ σ hp hM H => ⟨?_, fun _ b hb' => ?_⟩⟩
     ·have hl := hp _ _ hj
      obtain ⟨b, q1, q2, q3⟩ := H.it j _ hg
      exact ⟨b, by unfold ZcF; rw [hl]; exact q1, q2, q3⟩
     ·have hl := hp _ _ hj
      unfold ZcF at hb'
      rw [hl] at hb'
      exact ⟨j, _, hl, hg, rfl, hb'⟩
    ·cases hk
   ·cases hk
  ·cases hk
 | lobj t l =>
  unfold Hs.rd at hk
  dsimp only at hk
  split at hk
  ·rename_i j hj
   split at hk
   ·rename_i t' cs hg
    cases hb : Nat.beq t t'
    ·rw [hb] at hk; cases hk
    rw [hb] at hk
    have ht := Nat.eq_of_beq_eq_true hb
    subst ht
    obtain ⟨d, π1, h1, h2, h3, h4⟩ := Zpj (A := A) hk
    refine ⟨d, π1, h1, h2, h3, fun _ => ⟨_, h2 _ _ hj⟩, fun M π' ρ σ hp hM H => ⟨?_, fun _ b hb' => ?_⟩⟩
    ·have hl := hp _ _ (h2 _ _ hj)
     obtain ⟨b, acs, e1, e2, e3, e4⟩ := H.it j _ hg
     exact ⟨b, acs, by unfold ZcF; rw [hl]; exact e1, e2, e3, h4 C _ M π' ρ acs hp hM e4⟩
    ·have hl := hp _ _ (h2 _ _ hj)
     unfold ZcF at hb'
     rw [hl] at hb'
     exact ⟨j, _, hl, hg, rfl, hb'⟩
   ·cases hk
  ·cases hk
 | lmap K V =>
  unfold Hs.rd at hk
  dsimp only at hk
  split at hk
  ·rename_i j hj
   split at hk
   ·rename_i K' V' es hg
    split at hk
    ·rename_i hE
     obtain ⟨e1, e2⟩ := hE
     subst e1 e2
     refine ⟨es, π, hk, .refl _, id, fun _ => ⟨_, hj⟩, fun M π' ρ σ hp hM H => ⟨?_, fun _ b hb' => ?_⟩⟩
     ·have hl := hp _ _ hj
      obtain ⟨b, q1, q2, q3⟩ := H.it j _ hg
      exact ⟨b, by unfold ZcF; rw [hl]; exact q1, q2, q3⟩
     ·have hl := hp _ _ hj
      unfold ZcF at hb'
      rw [hl] at hb'
      exact ⟨j, _, hl, hg, rfl, hb'⟩
    ·cases hk
   ·cases hk
  ·cases hk
 | gen E kp =>
  unfold Hs.rd at hk
  dsimp only at hk
  split at hk
  ·rename_i j hj
   split at hk
   ·rename_i E' x hg
    split at hk
    ·rename_i hE
     subst hE
     refine ⟨x, π, hk, .refl _, id, fun _ => ⟨_, hj⟩, fun M π' ρ σ hp hM H => ⟨?_, fun _ b hb' => ?_⟩⟩
     ·have hl := hp _ _ hj
      have e : ZcF π' ρ i = ρ j := by unfold ZcF; rw [hl]
      have := H.it j _ hg
      unfold SH at this ⊢
      rw [e]
      exact this
     ·have hl := hp _ _ hj
      unfold ZcF at hb'
      rw [hl] at hb'
      exact ⟨j, _, hl, hg, rfl, hb'⟩
    ·cases hk
   ·cases hk
  ·cases hk
 | row e sz =>
  unfold Hs.rd at hk
  dsimp only at hk
  split at hk
  ·rename_i j hj
   split at hk
   ·rename_i e' sz' hg
    cases hb : (Nat.beq e e' && Nat.beq sz sz')
    ·rw [hb] at hk; cases hk
    rw [hb] at hk
    simp only [Bool.and_eq_true] at hb
    have h1 := Nat.eq_of_beq_eq_true hb.1
    have h2 := Nat.eq_of_beq_eq_true hb.2
    subst h1 h2
    refine ⟨(), π, hk, .refl _, id, fun _ => ⟨_, hj⟩, fun M π' ρ σ hp hM H => ⟨?_, fun _ b hb' => ?_⟩⟩
    ·have hl := hp _ _ hj
     obtain ⟨n, cells, ho⟩ := H.it j _ hg
     exact ⟨n, cells, by unfold ZcF; rw [hl]; exact ho⟩
    ·have hl := hp _ _ hj
     unfold ZcF at hb'
     rw [hl] at hb'
     exact ⟨j, _, hl, hg, rfl, hb'⟩
   ·cases hk
  ·rename_i hj
   refine ⟨(), π, hk, .refl _, id, fun _ => ⟨_, hj⟩, fun M π' ρ σ hp hM H => ⟨?_, fun _ b hb' => ?_⟩⟩
   ·have hl := hp _ _ hj
    exact ⟨0, [], by unfold ZcF; rw [hl]; exact ⟨by simp, .inl ⟨rfl, rfl⟩⟩⟩
   ·have hl := hp _ _ hj
    unfold ZcF at hb'
    rw [hl] at hb'
    cases hb'
  ·cases hk
 | dead => exact ⟨(), π, hk, .refl _, id, (fun h => by cases h), fun M π' ρ σ hp hM H => ⟨trivial, fun h => by cases h⟩⟩
theorem Zys : ∀ {l : List Hs} {i : Nat} {π : Pi} {k : HsD T l -> Pi -> Option A}, ZAB C h i l π k = some z -> ∃ d π', k d π' = some z /\ PLe π π' /\ (Inj π -> Inj π') /\ ∀ M j x, (Zed C l d)[j]? = some x -> (x.alive = true -> ∃ w, ZaP π' (i + j) = some w) /\ Zyr C M π' h (i + j) x
 | [], i, π, k, hk => ⟨(), π, hk, .refl _, id, fun M j x hx => by simp [Zed] at hx⟩
 | x :: l, i, π, k, hk => by
  obtain ⟨d, π1, h1, h2, h3, h5, h4⟩ := ZCS hk
  obtain ⟨ds, π2, g1, g2, g3, g4⟩ := Zys h1
  refine ⟨(d, ds), π2, g1, h2.trans g2, fun hI => g3 (h3 hI), fun M j y hy => ?_⟩
  cases j with
  | zero =>
   simp [Zed] at hy
   subst hy
   exact ⟨fun ha => (h5 ha).elim fun w hw => ⟨w, g2 _ _ hw⟩, fun π' ρ σ hp hM H => h4 M π' ρ σ (g2.trans hp) hM H⟩
  | succ j =>
   simp [Zed] at hy
   have := g4 M j y hy
   rwa [show i + 1 + j = i + (j + 1) from by omega] at this
theorem Zcb : ∀ (l : List Hs) (d : HsD T l), (Zed C l d).length = l.length
 | [], _ => rfl
 | x :: l, d => by simp [Zed, Zcb l d.2]
end
end Go.Proofs.YteempnebenjkmaaGreatDoor
namespace Go.Proofs.YteempnebenjkmaaGreatDoor
open Go.RowKit
set_option maxRecDepth 100000
set_option linter.unusedVariables false
variable {T : Nat -> Type} {A : Type}
def pok (n N : Nat) (π : Pi) : Bool := π.all fun p => Nat.blt p.1 n && (match p.2 with | some j => Nat.blt j N | none => true)
def ZlB (C : ZaA T) (hs : List Hs) (h : List (HI T)) (π : Pi) (k : HsD T hs -> Pi -> Option A) : Option A :=
 ZAB C h 0 hs π fun dh π => cond (pok hs.length h.length π) (k dh π) none
def ZmI (C : ZaA T) (vs : List Vs) (hs : List Hs) (xs : List (XV T)) (h : List (HI T)) (k : VsD T vs -> HsD T hs -> Pi -> Option A) : Option A :=
 ZuF C vs xs [] fun d π => ZlB C hs h π fun dh π => k d dh π
def ZBf (f : Nat -> Option Nat) : XV T -> XV T
 | .sl E xs (some i) => .sl E xs (f i)
 | .ptr i o => match f i with
  | some j => .ptr j o
  | none => .junk
 | .mo i => match f i with
  | some j => .mo j
  | none => .junk
 | .gv i c l => match f i with
  | some j => .gv j c l
  | none => .junk
 | .as E i lo n co => match f i with
  | some j => .as E j lo n co
  | none => .junk
 | .ap E i k o => match f i with
  | some j => .ap E j k o
  | none => .junk
 | .clo g ps => match ps.mapM f with
  | some qs => .clo g qs
  | none => .junk
 | .agg _ => .junk
 | .tup _ => .junk
 | .vl _ => .junk
 | .ce _ => .junk
 | v => v
def ZAC (f : Nat -> Option Nat) : XV T -> XV T
 | .agg l => .agg (l.map (ZBf f))
 | v => ZBf f v
def ZBg (f : Nat -> Option Nat) : XV T -> XV T
 | .tup l => .tup (l.map (ZAC f))
 | v => ZAC f v
def ZBh (f : Nat -> Option Nat) : HI T -> HI T
 | .obj t cs => .obj t (cs.map (ZBf f))
 | x => x
def pf (π : Pi) (n N i : Nat) : Option Nat := cond (Nat.blt i n) (match ZaP π i with | some x => x | none => none) (some (N + (i - n)))
def ZlC (π : Pi) (j : Nat) : Nat -> Option Nat
 | 0 => none
 | n + 1 => match ZaP π n with
  | some (some j') => cond (Nat.beq j' j) (some n) (ZlC π j n)
  | _ => ZlC π j n
def upd (π : Pi) (n : Nat) (f : Nat -> Option Nat) (ht : List (HI T)) (j : Nat) (x : HI T) : HI T := match ZlC π j n with
 | some i => match ht[i]? with
  | some y => ZBh f y
  | none => .dead
 | none => x
def ZgL {α β : Type} (g : Nat -> α -> β) : Nat -> List α -> List β
 | _, [] => []
 | i, x :: l => g i x :: ZgL g (i + 1) l
def ZiG (π : Pi) (n : Nat) (h ht : List (HI T)) : List (HI T) := ZgL (upd π n (pf π n h.length) ht) 0 h ++ (ht.drop n).map (ZBh (pf π n h.length))
def ZAD : Pi -> List Nat
 | [] => []
 | (_, some j) :: l => j :: ZAD l
 | (_, none) :: l => ZAD l
section
variable {C : ZaA T} {ρ ρ' ρt : Nat -> AV} {π π' π'' : Pi} {n N : Nat} {z : A} {h ht : List (HI T)} {σ τ : St} {f : Nat -> Option Nat}
theorem ZgM {i : Nat} {x : Option Nat} : ∀ {π : Pi}, ZaP π i = some x -> (i, x) ∈ π
 | [], hx => by simp [ZaP] at hx
 | (j, y) :: l, hx => by
  rw [ZaI] at hx
  split at hx
  ·rename_i e; subst e; injection hx with hx; subst hx; exact List.mem_cons_self
  ·exact List.mem_cons_of_mem _ (ZgM hx)
theorem Ze8 (hp : pok n N π = true) {i : Nat} {x : Option Nat} (hx : ZaP π i = some x) : i < n /\ ∀ j, x = some j -> j < N := by
 have := List.all_eq_true.1 hp _ (ZgM hx)
 simp only [Bool.and_eq_true] at this
 refine ⟨Nat.le_of_ble_eq_true this.1, fun j hj => ?_⟩
 subst hj
 exact Nat.le_of_ble_eq_true this.2
theorem ZnP {i j : Nat} : ∀ {π : Pi}, ZaP π i = some (some j) -> j ∈ ZAD π
 | [], hx => by simp [ZaP] at hx
 | (k, y) :: l, hx => by
  rw [ZaI] at hx
  split at hx
  ·injection hx with hx; subst hx; exact List.mem_cons_self
  ·cases y with
   | none => exact ZnP (π := l) hx
   | some a => exact List.mem_cons_of_mem _ (ZnP (π := l) hx)
theorem Zjy {j i : Nat} : ∀ {n : Nat}, ZlC π j n = some i -> i < n /\ ZaP π i = some (some j)
 | 0, hx => by simp [ZlC] at hx
 | n + 1, hx => by
  unfold ZlC at hx
  split at hx
  ·rename_i j' hj
   cases hb : Nat.beq j' j
   ·rw [hb] at hx
    have := Zjy (n := n) hx
    exact ⟨by omega, this.2⟩
   ·rw [hb] at hx
    injection hx with hx
    subst hx
    exact ⟨by omega, by rw [hj, Nat.eq_of_beq_eq_true hb]⟩
  ·have := Zjy (n := n) hx
   exact ⟨by omega, this.2⟩
theorem Zjz {j : Nat} : ∀ {n : Nat}, ZlC π j n = none -> ∀ i, i < n -> ZaP π i ≠ some (some j)
 | 0, hx, i, hi => by omega
 | n + 1, hx, i, hi => by
  unfold ZlC at hx
  split at hx
  ·rename_i j' hj
   cases hb : Nat.beq j' j
   ·rw [hb] at hx
    by_cases hin : i = n
    ·subst hin; rw [hj]; intro e; injection e with e; injection e with e; subst e; rw [Nat.beq_refl] at hb; cases hb
    ·exact Zjz (n := n) hx i (by omega)
   ·rw [hb] at hx; cases hx
  ·rename_i hno
   by_cases hin : i = n
   ·subst hin; exact hno j
   ·exact Zjz (n := n) hx i (by omega)
theorem ZgN {hs : List Hs} {k : HsD T hs -> Pi -> Option A} (hk : ZlB C hs h π k = some z) : ∃ dh π', k dh π' = some z /\ PLe π π' /\ (Inj π -> Inj π') /\ pok hs.length h.length π' = true /\
 ∀ π'' ρ σ, Inj π' -> PLe π' π'' -> (∀ i x, ZaP π'' i = some x -> i < hs.length) -> Hp C ρ h σ -> Hp C (ZcF π'' ρ) (Zed C hs dh) σ /\
  ∀ i x b, (Zed C hs dh)[i]? = some x -> x.alive = true -> (ZcF π'' ρ i).owns b -> ∃ j y, ZaP π' i = some (some j) /\ h[j]? = some y /\ y.alive = true /\ (ρ j).owns b := by
 unfold ZlB at hk
 obtain ⟨dh, π', h1, h2, h3, h4⟩ := Zys hk
 cases hp : pok hs.length h.length π'
 ·rw [hp] at h1; cases h1
 rw [hp] at h1
 refine ⟨dh, π', h1, h2, h3, hp, fun π'' ρ σ hI hle hM H => ?_⟩
 have hM' : ∀ i x, ZaP π' i = some x -> i < hs.length := fun i x hx => (Ze8 hp hx).1
 have key : ∀ i x b, (Zed C hs dh)[i]? = some x -> x.alive = true -> (ZcF π'' ρ i).owns b -> ∃ j y, ZaP π' i = some (some j) /\ h[j]? = some y /\ y.alive = true /\ (ρ j).owns b := fun i x b hx ha hb => by
  have g := h4 hs.length i x hx
  rw [Nat.zero_add] at g
  obtain ⟨j, y, g1, g2, g3, g4⟩ := (g.2 π'' ρ σ hle hM H).2 ha b hb
  refine ⟨j, y, ?_, g2, g3, g4⟩
  obtain ⟨w, hl⟩ := g.1 ha
  have := hle _ _ hl
  rw [g1] at this
  injection this with this
  rw [this]; exact hl
 refine ⟨⟨fun i x hx => ?_, fun i j x y b hx hy ax ay bx by_ => ?_⟩, key⟩
 ·have g := h4 hs.length i x hx
  rw [Nat.zero_add] at g
  rw [Zcb]
  exact (g.2 π'' ρ σ hle hM H).1
 ·obtain ⟨a, u, g1, g2, g3, g4⟩ := key i x b hx ax bx
  obtain ⟨c, v, g5, g6, g7, g8⟩ := key j y b hy ay by_
  have := H.dist a c u v b g2 g6 g3 g7 g4 g8
  subst this
  exact hI i j a g1 g5
end
end Go.Proofs.YteempnebenjkmaaGreatDoor
namespace Go.Proofs.YteempnebenjkmaaGreatDoor
open Go.RowKit
set_option linter.unusedSimpArgs false
set_option maxRecDepth 100000
set_option linter.unusedVariables false
variable {T : Nat -> Type} {A : Type}
section
variable {C : ZaA T} {ρ ρ' ρt : Nat -> AV} {π π' π'' : Pi} {n N N' : Nat} {z : A} {h ht : List (HI T)} {σ τ : St} {f : Nat -> Option Nat} {P : Program}
def ZnQ (f : Nat -> Option Nat) (N' : Nat) (ρ' : Nat -> AV) (n : Nat) (ρt : Nat -> AV) : Prop := ∀ i, i < n -> ∀ j, f i = some j -> j < N' /\ ρ' j = ρt i
theorem ZrL (hr : ZnQ f N' ρ' n ρt) : ∀ {ps qs bs : List Nat}, ps.mapM f = some qs -> Ze6 n ρt ps bs -> Ze6 N' ρ' qs bs
 | [], qs, bs, hm, hp => by
  simp at hm
  subst hm
  cases bs <;> first | trivial | exact hp.elim
 | i :: ps, qs, bs, hm, hp => by
  cases bs with
  | nil => exact hp.elim
  | cons b bs =>
   rw [List.mapM_cons] at hm
   cases hf : f i with
   | none => rw [hf] at hm; cases hm
   | some j =>
    rw [hf] at hm
    cases hq : ps.mapM f with
    | none => rw [hq] at hm; cases hm
    | some qs' =>
     rw [hq] at hm
     injection hm with hm
     subst hm
     obtain ⟨g1, g2⟩ := hr i hp.1.1 j hf
     exact ⟨⟨g1, g2.trans hp.1.2⟩, ZrL hr hq hp.2⟩
theorem ZuH (hr : ZnQ f N' ρ' n ρt) {v : XV T} {a : AV} (hs : SV C n ρt v a) : SV C N' ρ' (ZBf f v) a := by
 cases v with
 | sl E xs o =>
  cases o with
  | none => exact SVs.shut hs (by intro v hv; simp at hv; subst hv; rfl)
  | some i =>
   obtain ⟨ea, hi, h2⟩ := ZfK.1 hs
   have h2' : SV C N' ρ' (.sl E xs none) a := SVs.shut h2 (by intro v hv; simp at hv; subst hv; rfl)
   show SV C N' ρ' (.sl E xs (f i)) a
   cases hf : f i with
   | none => exact h2'
   | some j =>
    obtain ⟨g1, g2⟩ := hr i hi j hf
    exact ZfK.2 ⟨ea.trans g2.symm, g1, h2'⟩
 | slx E xs ys => exact SVs.shut hs (by intro v hv; simp at hv; subst hv; rfl)
 | mp E kk tb =>
  obtain ⟨b, ls, rfl, h5⟩ := ZA7.1 hs
  exact ZA7.2 ⟨b, ls, rfl, SVs.shut h5 (by
   intro v hv
   obtain ⟨p, _, rfl⟩ := List.mem_map.1 hv
   rfl)⟩
 | ptr i o =>
  obtain ⟨b, ea, hi, h2⟩ := Zdp.1 hs
  show SV C N' ρ' (match f i with | some j => .ptr j o | none => .junk) a
  cases hf : f i with
  | none => exact ZbV
  | some j =>
   obtain ⟨g1, g2⟩ := hr i hi j hf
   exact Zdp.2 ⟨b, ea, g1, g2.trans h2⟩
 | mo i =>
  obtain ⟨b, ea, hi, h2⟩ := Zqx.1 hs
  show SV C N' ρ' (match f i with | some j => .mo j | none => .junk) a
  cases hf : f i with
  | none => exact ZbV
  | some j =>
   obtain ⟨g1, g2⟩ := hr i hi j hf
   exact Zqx.2 ⟨b, ea, g1, g2.trans h2⟩
 | gv i c l =>
  obtain ⟨hi, h2⟩ := Zqy.1 hs
  show SV C N' ρ' (match f i with | some j => .gv j c l | none => .junk) a
  cases hf : f i with
  | none => exact ZbV
  | some j =>
   obtain ⟨g1, g2⟩ := hr i hi j hf
   exact Zqy.2 ⟨g1, by rw [g2]; exact h2⟩
 | as E i lo m co =>
  show SV C N' ρ' (match f i with | some j => .as E j lo m co | none => .junk) a
  cases hf : f i with
  | none => exact ZbV
  | some j =>
   rcases ZbQ.1 hs with ⟨ad, c, ea, hA⟩ | ⟨ea, hn0, hiN, hρi, hco⟩
   ·obtain ⟨g1, g2⟩ := hr i hA.lt j hf
    obtain ⟨b, q1, q2⟩ := hA.at_
    exact ZbQ.2 (.inl ⟨ad, c, ea, g1, hA.le, hA.max, hA.len, ⟨b, g2.trans q1, q2⟩, hA.cap⟩)
   ·obtain ⟨g1, g2⟩ := hr i hiN j hf
    exact ZbQ.2 (.inr ⟨ea, hn0, g1, g2.trans hρi, hco⟩)
 | ap E i k o =>
  obtain ⟨b, ea, hi, K, h2⟩ := Zo1.1 hs
  show SV C N' ρ' (match f i with | some j => .ap E j k o | none => .junk) a
  cases hf : f i with
  | none => exact ZbV
  | some j =>
   obtain ⟨g1, g2⟩ := hr i hi j hf
   exact Zo1.2 ⟨b, ea, g1, K, g2.trans h2.1, h2.2⟩
 | clo g ps =>
  obtain ⟨bs, ea, h2⟩ := Ziz.1 hs
  show SV C N' ρ' (match ps.mapM f with | some qs => .clo g qs | none => .junk) a
  cases hf : ps.mapM f with
  | none => exact ZbV
  | some qs => exact Ziz.2 ⟨bs, ea, ZrL hr hf h2⟩
 | agg l => exact ZbV
 | tup l => exact ZbV
 | vl l => exact ZbV
 | ce l => exact ZbV
 | el E x o =>
  obtain ⟨ad, cs, rest, ea, h2⟩ := Zo2.1 hs
  exact Zo2.2 ⟨ad, cs, rest, ea, h2.shut fun v hv => C.shut E x v (List.mem_of_mem_drop hv)⟩
 | int k m => exact Zaw.2 (Zaw.1 hs)
 | bool b => exact Za7.2 (Za7.1 hs)
 | str s => exact ZgH.2 (ZgH.1 hs)
 | nil => exact Zek.2 (Zek.1 hs)
 | nilptr => exact ZbU.2 (ZbU.1 hs)
 | nmap => exact Zjt.2 (Zjt.1 hs)
 | fn g => exact Zju.2 (Zju.1 hs)
 | undef => exact ZiA.2 (ZiA.1 hs)
 | junk => exact ZbV
theorem ZrM (hr : ZnQ f N' ρ' n ρt) {vs : List (XV T)} {as_ : List AV} (hs : SVs C n ρt vs as_) : SVs C N' ρ' (vs.map (ZBf f)) as_ := by
 induction vs generalizing as_ with
 | nil => rw [ZbA.1 hs]; exact .none
 | cons v vs ih => obtain ⟨a, bs, rfl, h1, h2⟩ := hs.to; exact .cons (ZuH hr h1) (ih h2)
theorem ZuI (hr : ZnQ f N' ρ' n ρt) {v : XV T} {a : AV} (hs : SV C n ρt v a) : SV C N' ρ' (ZAC f v) a := by
 cases v with
 | agg l => obtain ⟨ls, rfl, hl⟩ := ZcE.1 hs; exact ZcE.2 ⟨ls, rfl, ZrM hr hl⟩
 | _ => exact ZuH hr hs
theorem ZrN (hr : ZnQ f N' ρ' n ρt) {vs : List (XV T)} {as_ : List AV} (hs : SVs C n ρt vs as_) : SVs C N' ρ' (vs.map (ZAC f)) as_ := by
 induction vs generalizing as_ with
 | nil => rw [ZbA.1 hs]; exact .none
 | cons v vs ih => obtain ⟨a, bs, rfl, h1, h2⟩ := hs.to; exact .cons (ZuI hr h1) (ih h2)
theorem ZuJ (hr : ZnQ f N' ρ' n ρt) {v : XV T} {a : AV} (hs : SV C n ρt v a) : SV C N' ρ' (ZBg f v) a := by
 cases v with
 | tup l => obtain ⟨ls, rfl, hl⟩ := Ze7.1 hs; exact Ze7.2 ⟨ls, rfl, ZrN hr hl⟩
 | _ => exact ZuI hr hs
theorem Zze (hr : ZnQ f N' ρ' n ρt) {x : HI T} {i j : Nat} (hs : SH C n ρt τ i x) (he : ρ' j = ρt i) : SH C N' ρ' τ j (ZBh f x) := by
 cases x with
 | obj t cs =>
  obtain ⟨b, acs, h1, h2, h3, h4⟩ := hs
  exact ⟨b, acs, he.trans h1, h2, h3, ZrM hr h4⟩
 | mmap K V es =>
  obtain ⟨b, h1, h2, h3⟩ := hs
  exact ⟨b, he.trans h1, h2, h3⟩
 | row e sz =>
  obtain ⟨m, cs, ho⟩ := hs
  exact ⟨m, cs, by rw [he]; exact ho⟩
 | gen E x =>
  show C.gsh E x τ (ρ' j)
  rw [he]; exact hs
 | arr e E kp xs =>
  rcases hs with ⟨b, K', pre, rest, h1, h2, h3, h4⟩ | ⟨h1, h2⟩
  ·exact .inl ⟨b, K', pre, rest, he.trans h1, h2, h3, h4⟩
  ·exact .inr ⟨he.trans h1, h2⟩
 | dead => trivial
theorem Zhn (x : HI T) : (ZBh f x).alive = x.alive := by cases x <;> rfl
theorem ZlD {α β : Type} (g : Nat -> α -> β) : ∀ (l : List α) (i j : Nat), (ZgL g i l)[j]? = (l[j]?).map (g (i + j))
 | [], i, j => by simp [ZgL]
 | x :: l, i, 0 => by simp [ZgL]
 | x :: l, i, j + 1 => by
  rw [ZgL, List.getElem?_cons_succ, ZlD g l (i + 1) j, List.getElem?_cons_succ, show i + 1 + j = i + (j + 1) from by omega]
theorem Zij {α β : Type} (g : Nat -> α -> β) : ∀ (l : List α) (i : Nat), (ZgL g i l).length = l.length
 | [], i => rfl
 | x :: l, i => by simp [ZgL, Zij g l]
inductive ZDS (π : Pi) (n : Nat) (h ht : List (HI T)) (j : Nat) (x : HI T) : Prop where
 | old (hx : h[j]? = some x) (hp : ZlC π j n = none)
 | new (i : Nat) (y : HI T) (hy : ht[i]? = some y) (e : x = ZBh (pf π n h.length) y) (w : (j < h.length /\ i < n /\ ZaP π i = some (some j)) \/ (n <= i /\ j = h.length + (i - n)))
theorem ZiH (hn : n <= ht.length) {j : Nat} {x : HI T} (hx : (ZiG π n h ht)[j]? = some x) : ZDS π n h ht j x := by
 unfold ZiG at hx
 rw [List.getElem?_append, Zij] at hx
 split at hx
 ·rename_i hj
  rw [ZlD, Nat.zero_add] at hx
  obtain ⟨y, hy⟩ : ∃ y, h[j]? = some y := ⟨_, List.getElem?_eq_getElem hj⟩
  rw [hy] at hx
  simp only [Option.map_some, Option.some.injEq] at hx
  unfold upd at hx
  split at hx
  ·rename_i i hi
   obtain ⟨h1, h2⟩ := Zjy hi
   obtain ⟨w, hw⟩ : ∃ w, ht[i]? = some w := ⟨_, List.getElem?_eq_getElem (by omega)⟩
   rw [hw] at hx
   exact .new i w hw hx.symm (.inl ⟨hj, h1, h2⟩)
  ·rename_i hi
   subst hx
   exact .old hy hi
 ·rename_i hj
  rw [List.getElem?_map] at hx
  cases hd : (ht.drop n)[j - h.length]? with
  | none => rw [hd] at hx; cases hx
  | some y =>
   rw [hd] at hx
   simp only [Option.map_some, Option.some.injEq] at hx
   rw [List.getElem?_drop] at hd
   exact .new (n + (j - h.length)) y hd hx.symm (.inr ⟨by omega, by omega⟩)
theorem ZlE (π : Pi) (n : Nat) (h ht : List (HI T)) : (ZiG π n h ht).length = h.length + (ht.length - n) := by
 unfold ZiG
 rw [List.length_append, Zij, List.length_map, List.length_drop]
theorem ZCT {V : Nat -> Prop} {hs : List (HI T)} (hn : hs.length = n) (hp : pok n h.length π = true) (H : Hp C ρ h σ) (Ht : Hp C ρt ht τ) (R : Rel V (ZcF π ρ) hs σ ρt ht τ)
 (key : ∀ i x b, hs[i]? = some x -> x.alive = true -> (ZcF π ρ i).owns b -> ∃ j y, ZaP π i = some (some j) /\ h[j]? = some y /\ y.alive = true /\ (ρ j).owns b) :
 ∃ ρ', ZnQ (pf π n h.length) (ZiG π n h ht).length ρ' ht.length ρt /\ Hp C ρ' (ZiG π n h ht) τ /\ Rel (· ∈ ZAD π) ρ h σ ρ' (ZiG π n h ht) τ := by
 have hle : n <= ht.length := by rw [<- hn]; exact R.len
 refine ⟨fun j => if j < h.length then ρ j else ρt (n + (j - h.length)), ?_⟩
 generalize hρ' : (fun j => if j < h.length then ρ j else ρt (n + (j - h.length))) = ρ'
 have r1 : ∀ j, j < h.length -> ρ' j = ρ j := fun j hj => by subst hρ'; exact if_pos hj
 have r2 : ∀ i, n <= i -> ρ' (h.length + (i - n)) = ρt i := fun i hi => by
  subst hρ'
  show (if h.length + (i - n) < h.length then _ else ρt (n + (h.length + (i - n) - h.length))) = _
  rw [if_neg (by omega)]; congr 1; omega
 have r3 : ∀ i j, i < n -> ZaP π i = some (some j) -> ρ j = ρt i := fun i j hi hl => by
  rw [R.ext i (by omega)]
  unfold ZcF; rw [hl]
 have hren : ZnQ (pf π n h.length) (ZiG π n h ht).length ρ' ht.length ρt := fun i hi j hj => by
  rw [ZlE]
  unfold pf at hj
  cases hb : Nat.blt i n
  ·rw [hb] at hj
   have hin : n <= i := by
    refine Nat.le_of_not_lt fun hlt => ?_
    have : Nat.blt i n = true := Nat.ble_eq_true_of_le hlt
    rw [hb] at this; cases this
   injection hj with hj
   subst hj
   exact ⟨by omega, r2 i hin⟩
  ·rw [hb] at hj
   have hin : i < n := Nat.le_of_ble_eq_true hb
   simp only [cond_true] at hj
   cases hl : ZaP π i with
   | none => rw [hl] at hj; cases hj
   | some x =>
    rw [hl] at hj
    simp only at hj
    subst hj
    have hjN := (Ze8 hp hl).2 j rfl
    exact ⟨by omega, (r1 j hjN).trans (r3 i j hin hl)⟩
 have hfrom : ∀ {i j : Nat} {y : HI T}, ht[i]? = some y -> ((j < h.length /\ i < n /\ ZaP π i = some (some j)) \/ (n <= i /\ j = h.length + (i - n))) -> ρ' j = ρt i := fun hy w => by
  rcases w with ⟨w1, w2, w3⟩ | ⟨w1, rfl⟩
  ·exact (r1 _ w1).trans (r3 _ _ w2 w3)
  ·exact r2 _ w1
 have hback : ∀ b, ZCh V (ZcF π ρ) hs b -> ∃ i j y, ZaP π i = some (some j) /\ h[j]? = some y /\ y.alive = true /\ (ρ j).owns b := fun b ⟨i, x, _, h2, h3, h4⟩ => (key i x b h2 h3 h4).elim fun j ⟨y, g⟩ => ⟨i, j, y, g⟩
 have hback' : ∀ b, Liv (ZcF π ρ) hs b -> ∃ i j y, ZaP π i = some (some j) /\ h[j]? = some y /\ y.alive = true /\ (ρ j).owns b := fun b ⟨i, x, h2, h3, h4⟩ => (key i x b h2 h3 h4).elim fun j ⟨y, g⟩ => ⟨i, j, y, g⟩
 have hold : ∀ j x b, h[j]? = some x -> x.alive = true -> (ρ j).owns b -> ZlC π j n = none -> ∀ i' j' y, ZaP π i' = some (some j') -> h[j']? = some y -> y.alive = true -> (ρ j').owns b -> False := fun j x b hx hxa hb hpi i' j' y g1 g2 g3 g4 => by
  have := H.dist j j' x y b hx g2 hxa g3 hb g4
  subst this
  exact Zjz hpi i' (Ze8 hp g1).1 g1
 refine ⟨hren, ⟨fun j x hx => ?_, fun j k x y b hx hy ax ay bx by_ => ?_⟩, ⟨by rw [ZlE]; omega, r1, R.but.more fun b hb => ?_, fun b hb => ?_⟩⟩
 ·rcases ZiH hle hx with ⟨hx, hpi⟩ | ⟨i, y, hy, rfl, w⟩
  ·have hj := Zat hx
   have hN : h.length <= (ZiG π n h ht).length := by rw [ZlE]; omega
   have := H.it j x hx
   cases x with
   | obj t cs =>
    obtain ⟨b, acs, g1, g2, g3, g4⟩ := this
    refine ⟨b, acs, (r1 j hj).trans g1, R.but.keep b _ (fun hl => ?_) g2, R.but.used _ g3, g4.ext hN r1⟩
    obtain ⟨i', j', y, q1, q2, q3, q4⟩ := hback b hl
    exact hold j _ b hx rfl (by rw [g1]; rfl) hpi i' j' y q1 q2 q3 q4
   | arr e E kp xs =>
    rcases this with ⟨b, K', pre, rest, g1, g2, g3, g4⟩ | ⟨g1, g2⟩
    ·refine .inl ⟨b, K', pre, rest, (r1 j hj).trans g1, R.but.keep b _ (fun hl => ?_) g2, R.but.used _ g3, g4⟩
     obtain ⟨i', j', y, q1, q2, q3, q4⟩ := hback b hl
     exact hold j _ b hx rfl (by rw [g1]; rfl) hpi i' j' y q1 q2 q3 q4
    ·exact .inr ⟨(r1 j hj).trans g1, g2⟩
   | mmap K V es =>
    obtain ⟨b, g1, g2, g3⟩ := this
    refine ⟨b, (r1 j hj).trans g1, R.but.keep b _ (fun hl => ?_) g2, R.but.used _ g3⟩
    obtain ⟨i', j', y, q1, q2, q3, q4⟩ := hback b hl
    exact hold j _ b hx rfl (by rw [g1]; rfl) hpi i' j' y q1 q2 q3 q4
   | row e sz =>
    obtain ⟨m, cs, ho⟩ := this
    refine ⟨m, cs, ?_⟩
    rw [r1 j hj]
    refine ho.but' R.but fun b hb hl => ?_
    obtain ⟨i', j', y, q1, q2, q3, q4⟩ := hback b hl
    exact hold j _ b hx rfl hb hpi i' j' y q1 q2 q3 q4
   | gen E x =>
    show C.gsh E x τ (ρ' j)
    rw [r1 j hj]
    refine C.gsh_but _ _ _ _ _ _ this R.but fun b hb hl => ?_
    obtain ⟨i', j', y, q1, q2, q3, q4⟩ := hback b hl
    exact hold j _ b hx rfl hb hpi i' j' y q1 q2 q3 q4
   | dead => trivial
  ·exact Zze hren (Ht.it i y hy) (hfrom hy w)
 ·have cross : ∀ {j k : Nat} {x y : HI T} {i : Nat}, h[j]? = some x -> ZlC π j n = none -> x.alive = true -> (ρ' j).owns b -> ht[i]? = some y -> y.alive = true -> (ρt i).owns b -> False := fun {j k x y i} hx hpi ax bx hy ay by_ => by
   have hj := Zat hx
   rw [r1 j hj] at bx
   rcases R.born b ⟨i, y, hy, ay, by_⟩ with g | g
   ·obtain ⟨i', j', w, q1, q2, q3, q4⟩ := hback' b g
    exact hold j x b hx ax bx hpi i' j' w q1 q2 q3 q4
   ·exact g.2 (H.used ⟨j, x, hx, ax, bx⟩)
  rcases ZiH hle hx with ⟨hx, hpi⟩ | ⟨i, x', hx', rfl, w⟩ <;> rcases ZiH hle hy with ⟨hy, hpk⟩ | ⟨i2, y', hy', rfl, w2⟩
  ·rw [r1 j (Zat hx)] at bx
   rw [r1 k (Zat hy)] at by_
   exact H.dist j k x y b hx hy ax ay bx by_
  ·rw [Zhn] at ay
   rw [hfrom hy' w2] at by_
   exact (cross (k := k) hx hpi ax bx hy' ay by_).elim
  ·rw [Zhn] at ax
   rw [hfrom hx' w] at bx
   exact (cross (k := j) hy hpk ay by_ hx' ax bx).elim
  ·rw [Zhn] at ax ay
   rw [hfrom hx' w] at bx
   rw [hfrom hy' w2] at by_
   have := Ht.dist i i2 x' y' b hx' hy' ax ay bx by_
   subst this
   rcases w with ⟨w1, w3, w4⟩ | ⟨w1, w3⟩ <;> rcases w2 with ⟨u1, u3, u4⟩ | ⟨u1, u3⟩
   ·rw [w4] at u4; injection u4 with u4; injection u4
   ·omega
   ·omega
   ·omega
 ·obtain ⟨i', j', y, q1, q2, q3, q4⟩ := hback b hb
  exact ⟨j', y, ZnP q1, q2, q3, q4⟩
 ·obtain ⟨j, x, hx, ax, bx⟩ := hb
  rcases ZiH hle hx with ⟨hx, hpi⟩ | ⟨i, y, hy, rfl, w⟩
  ·rw [r1 j (Zat hx)] at bx
   exact .inl ⟨j, x, hx, ax, bx⟩
  ·rw [Zhn] at ax
   rw [hfrom hy w] at bx
   rcases R.born b ⟨i, y, hy, ax, bx⟩ with g | g
   ·obtain ⟨i', j', w, q1, q2, q3, q4⟩ := hback' b g
    exact .inl ⟨j', w, q2, q3, q4⟩
   ·exact .inr g
theorem ZlF {vs : List Vs} {hs : List Hs} {xs : List (XV T)} {k : VsD T vs -> HsD T hs -> Pi -> Option A} (hk : ZmI C vs hs xs h k = some z) : ∃ d dh π, k d dh π = some z /\ pok hs.length h.length π = true /\
 ∀ ρ σ as_, SVs C h.length ρ xs as_ -> Hp C ρ h σ -> SVs C hs.length (ZcF π ρ) (ZkY C vs d) as_ /\ Hp C (ZcF π ρ) (Zed C hs dh) σ /\
  ∀ i x b, (Zed C hs dh)[i]? = some x -> x.alive = true -> (ZcF π ρ i).owns b -> ∃ j y, ZaP π i = some (some j) /\ h[j]? = some y /\ y.alive = true /\ (ρ j).owns b := by
 unfold ZmI at hk
 obtain ⟨d, π1, h1, h2, h3, h4⟩ := Zna hk
 obtain ⟨dh, π2, g1, g2, g3, g4, g5⟩ := ZgN h1
 have hI : Inj π2 := g3 (h3 fun i j x hx _ => by simp [ZaP] at hx)
 refine ⟨d, dh, π2, g1, g4, fun ρ σ as_ hs H => ?_⟩
 have hM : ∀ i x, ZaP π2 i = some x -> i < _ := fun i x hx => (Ze8 g4 hx).1
 exact ⟨h4 _ _ π2 ρ as_ g2 hM hs, g5 π2 ρ σ hI (.refl _) hM H⟩
end
end Go.Proofs.YteempnebenjkmaaGreatDoor
namespace Go.Proofs.YteempnebenjkmaaGreatDoor
open Go.RowKit
set_option linter.unusedSimpArgs false
set_option maxRecDepth 100000
set_option linter.unusedVariables false
variable {T : Nat -> Type} {A : Type}
def Zik : Nat -> List Hs -> Pi
 | _, [] => []
 | i, .obj _ _ :: l => (i, some i) :: Zik (i + 1) l
 | i, .cobj _ _ :: l => (i, some i) :: Zik (i + 1) l
 | i, .arr _ _ true :: l => (i, some i) :: Zik (i + 1) l
 | i, .mmap _ _ :: l => (i, some i) :: Zik (i + 1) l
 | i, .gen _ true :: l => (i, some i) :: Zik (i + 1) l
 | i, _ :: l => Zik (i + 1) l
def ZuK (n m : Nat) (π : Pi) : Bool := Nat.ble n m && π.all fun p => Nat.ble n p.1 || oeq p.2 (some p.1)
def Zpk (n : Nat) (π : Pi) : Pi := π ++ (List.range n).map fun i => (i, some i)
def ZwY (C : ZaA T) (n : Nat) (r : Rs) (outs : List Hs) (π0 : Pi) (v : XV T) (h : List (HI T)) (k : r.D T -> HsD T outs -> Option A) : Option A :=
 r.rd C v π0 fun d π => ZlB C outs h π fun dh π => cond (ZuK n outs.length π) (k d dh) none
section
variable {C : ZaA T} {ρ ρ' ρt ρ0 : Nat -> AV} {π π' π'' π0 : Pi} {n N N' : Nat} {z : A} {h ht h0 : List (HI T)} {σ τ σ0 : St} {P : Program} {U : Nat -> Prop}
theorem ZlG {l : Pi} {i : Nat} : ∀ {π : Pi}, ZaP (π ++ l) i = match ZaP π i with | some x => some x | none => ZaP l i
 | [] => rfl
 | (j, y) :: π => by
  rw [List.cons_append, ZaI, ZaI]
  split
  ·rfl
  ·exact ZlG
theorem Zpl {i : Nat} {x : Option Nat} : ∀ {l : List Nat}, ZaP (l.map fun i => (i, some i)) i = some x -> i ∈ l /\ x = some i
 | [], h => by simp [ZaP] at h
 | j :: l, h => by
  rw [List.map_cons, ZaI] at h
  split at h
  ·rename_i e; subst e; injection h with h; exact ⟨List.mem_cons_self, h.symm⟩
  ·obtain ⟨h1, h2⟩ := Zpl h; exact ⟨List.mem_cons_of_mem _ h1, h2⟩
theorem ZiI {i : Nat} : ∀ {l : List Nat}, i ∈ l -> ZaP (l.map fun i => (i, some i)) i = some (some i)
 | j :: l, h => by
  rw [List.map_cons, ZaI]
  split
  ·rename_i e; rw [e]
  ·rename_i e
   rcases List.mem_cons.1 h with rfl | h
   ·exact absurd rfl e
   ·exact ZiI h
theorem Zho (hok : ZuK n N π = true) (hn : n <= N) {i : Nat} : (i < n -> ZaP (Zpk n π) i = some (some i)) /\ (n <= i -> ZaP (Zpk n π) i = ZaP π i) := by
 unfold ZuK at hok
 simp only [Bool.and_eq_true] at hok
 unfold Zpk
 rw [ZlG]
 refine ⟨fun hi => ?_, fun hi => ?_⟩
 ·cases hl : ZaP π i with
  | none => exact ZiI (List.mem_range.2 hi)
  | some x =>
   have := List.all_eq_true.1 hok.2 _ (ZgM hl)
   simp only [Bool.or_eq_true] at this
   rcases this with h1 | h1
   ·have := Nat.le_of_ble_eq_true h1; omega
   ·rw [ZrK h1]
 ·cases hl : ZaP π i with
  | none =>
   cases hr : ZaP ((List.range n).map fun i => (i, some i)) i with
   | none => rfl
   | some x => have := List.mem_range.1 (Zpl hr).1; omega
  | some x => rfl
theorem ZuL {s : Rs} {outs : List Hs} {v : XV T} {k : s.D T -> HsD T outs -> Option A} (hI0 : Inj π0) (hk : ZwY C n s outs π0 v h k = some z) : ∃ d dh, k d dh = some z /\
 ∀ ρ0 h0 σ0 ρ σ a, h0.length = n -> SV C h.length ρ v a -> Hp C ρ h σ -> Rel (T := T) U ρ0 h0 σ0 ρ h σ -> ∃ ρ', SV C (Zed C outs dh).length ρ' (s.st C d) a /\ Hp C ρ' (Zed C outs dh) σ /\ Rel U ρ0 h0 σ0 ρ' (Zed C outs dh) σ := by
 unfold ZwY at hk
 obtain ⟨d, π1, h1, h2, h3, h4⟩ := ZCR hk
 obtain ⟨dh, π2, g1, g2, g3, g4, g5⟩ := ZgN h1
 cases ho : ZuK n outs.length π2
 ·rw [ho] at g1; cases g1
 rw [ho] at g1
 refine ⟨d, dh, g1, fun ρ0 h0 σ0 ρ σ a hn hs H R => ?_⟩
 have hnm : n <= outs.length := by
  unfold ZuK at ho
  simp only [Bool.and_eq_true] at ho
  exact Nat.le_of_ble_eq_true ho.1
 have hlen := Zcb (C := C) outs dh
 have hle : PLe π2 (Zpk n π2) := fun i x hx => by
  by_cases hi : i < n
  ·rw [(Zho ho hnm).1 hi]
   have := List.all_eq_true.1 (Bool.and_eq_true _ _ ▸ ho : _ /\ _).2 _ (ZgM hx)
   simp only [Bool.or_eq_true] at this
   rcases this with h1 | h1
   ·have := Nat.le_of_ble_eq_true h1; omega
   ·rw [ZrK h1]
  ·rw [(Zho ho hnm).2 (by omega)]; exact hx
 have hM : ∀ i x, ZaP (Zpk n π2) i = some x -> i < outs.length := fun i x hx => by
  by_cases hi : i < n
  ·omega
  ·rw [(Zho ho hnm).2 (by omega)] at hx; exact (Ze8 g4 hx).1
 obtain ⟨q1, q2⟩ := g5 (Zpk n π2) ρ σ (g3 (h3 hI0)) hle hM H
 refine ⟨ZcF (Zpk n π2) ρ, ?_, q1, ?_⟩
 ·rw [hlen]; exact h4 _ _ (Zpk n π2) ρ a (g2.trans hle) hM hs
 ·refine ⟨by rw [hlen, hn]; exact hnm, fun i hi => ?_, R.but, fun b hb => ?_⟩
  ·rw [hn] at hi
   unfold ZcF
   rw [(Zho ho hnm).1 hi]
   exact R.ext i (by omega)
  ·obtain ⟨i, x, e1, e2, e3⟩ := hb
   obtain ⟨j, y, w1, w2, w3, w4⟩ := q2 i x b e1 e2 e3
   exact R.born b ⟨j, y, w2, w3, w4⟩
theorem ZcB : ∀ (l : List Hs) (i : Nat), (∀ a x, ZaP (Zik i l) a = some x -> x = some a)
 | [], i, a, x, h => by simp [Zik, ZaP] at h
 | .obj t c :: l, i, a, x, h => by
  unfold Zik at h
  rw [ZaI] at h
  split at h
  ·rename_i e; subst e; injection h with h; exact h.symm
  ·exact ZcB l (i + 1) a x h
 | .cobj t c :: l, i, a, x, h => by
  unfold Zik at h
  rw [ZaI] at h
  split at h
  ·rename_i e; subst e; injection h with h; exact h.symm
  ·exact ZcB l (i + 1) a x h
 | .arr t c true :: l, i, a, x, h => by
  unfold Zik at h
  rw [ZaI] at h
  split at h
  ·rename_i e; subst e; injection h with h; exact h.symm
  ·exact ZcB l (i + 1) a x h
 | .mmap t c :: l, i, a, x, h => by
  unfold Zik at h
  rw [ZaI] at h
  split at h
  ·rename_i e; subst e; injection h with h; exact h.symm
  ·exact ZcB l (i + 1) a x h
 | .gen t true :: l, i, a, x, h => by
  unfold Zik at h
  rw [ZaI] at h
  split at h
  ·rename_i e; subst e; injection h with h; exact h.symm
  ·exact ZcB l (i + 1) a x h
 | .gen _ false :: l, i, a, x, h => ZcB l (i + 1) a x h
 | .arr _ _ false :: l, i, a, x, h => ZcB l (i + 1) a x h
 | .row _ _ :: l, i, a, x, h => ZcB l (i + 1) a x h
 | .lobj _ _ :: l, i, a, x, h => ZcB l (i + 1) a x h
 | .lmap _ _ :: l, i, a, x, h => ZcB l (i + 1) a x h
 | .dead :: l, i, a, x, h => ZcB l (i + 1) a x h
theorem ZnR (l : List Hs) : Inj (Zik 0 l) := fun i j x hi hj => by
 have h1 := ZcB l 0 i _ hi
 have h2 := ZcB l 0 j _ hj
 injection h1 with h1; injection h2 with h2
 rw [<- h1, <- h2]
end
structure CE (C : ZaA T) (P : Program) where
 f : FuncId
 args : List Vs
 hs : List Hs
 res : Rs
 outs : List Hs
 m : VsD T args -> HsD T hs -> Option (res.D T × HsD T outs)
 ok : ∀ d dh r, m d dh = some r -> Tr C P (fun _ => True) f (ZkY C args d) (Zed C hs dh) (res.st C r.1) (Zed C outs r.2)
 ro : Bool := false
 roOk : ro = true -> ∀ d dh r, m d dh = some r -> Tr C P (fun _ => False) f (ZkY C args d) (Zed C hs dh) (res.st C r.1) (Zed C outs r.2) := by exact fun h => absurd h Bool.false_ne_true
 two : Bool := false
 res2 : Rs := .tup []
 outs2 : List Hs := []
 mm : VsD T args -> HsD T hs -> Option ((res.D T × HsD T outs) ⊕ (res2.D T × HsD T outs2)) := fun _ _ => none
 okm : (∀ d dh r, mm d dh = some (.inl r) -> Tr C P (fun _ => True) f (ZkY C args d) (Zed C hs dh) (res.st C r.1) (Zed C outs r.2)) /\ (∀ d dh r, mm d dh = some (.inr r) -> Tr C P (fun _ => True) f (ZkY C args d) (Zed C hs dh) (res2.st C r.1) (Zed C outs2 r.2)) := by exact ⟨fun _ _ _ h => (nomatch h), fun _ _ _ h => (nomatch h)⟩
def ZDz : Cs -> XV T -> Bool
 | .ptr _ _, .ptr _ _ => true
 | .ptr _ _, _ => false
 | .mo _, .mo _ => true
 | .mo _, _ => false
 | .gv _ c _, .gv _ c' _ => Nat.beq c c'
 | .gv _ _ _, _ => false
 | .nilptr, .nilptr => true
 | .nilptr, _ => false
 | .fn f, .fn g => Nat.beq f g
 | .slx _, .slx _ _ _ => true
 | .slx _, .nil => true
 | .slx _, _ => false
 | .own _ _, .sl _ _ (some _) => true
 | .own _ _, .nil => true
 | .own _ _, _ => false
 | .as _ _, .as _ _ _ _ (some _) => true
 | .as _ _, .nil => true
 | .asu _ _, .nil => true
 | .asz _ _, .nil => true
 | .as _ _, _ => false
 | .asu _ _, .as _ _ _ _ _ => true
 | .asu _ _, _ => false
 | .asz _ _, .as _ _ _ _ _ => true
 | .asz _ _, _ => false
 | .clo f _, .clo g _ => Nat.beq f g
 | .clo _ _, _ => false
 | .sl _, .as _ _ _ _ _ => false
 | .mp _ _, _ => false
 | _, _ => true
def ZrO : List Cs -> List (XV T) -> Bool
 | c :: l, v :: vs => ZDz c v && ZrO l vs
 | _, _ => true
def ZDT : XV T -> Bool
 | .as _ _ _ _ _ => false
 | _ => true
def ZCU : Vs -> XV T -> Bool
 | .one c, v => ZDz c v
 | .agg cs, .agg l => ZrO cs l
 | .cod _, .agg l => l.all ZDT
 | .vl cs, .vl l => Nat.beq cs.length l.length && ZrO cs l
 | .vl _, _ => false
 | .ce _, _ => false
 | _, .vl _ => false
 | _, _ => true
def ZBi : List Vs -> List (XV T) -> Bool
 | [], [] => true
 | c :: l, v :: vs => ZCU c v && ZBi l vs
 | _, _ => false
def pick {C : ZaA T} {P : Program} : List (CE C P) -> FuncId -> List (XV T) -> Option (CE C P)
 | [], _, _ => none
 | E :: l, f, xs => cond (Nat.beq E.f f && ZBi E.args xs) (some E) (pick l f xs)
def ZCV : XV T -> Bool
 | .sl _ _ (some _) => false
 | _ => true
def ZDU (h : List (HI T)) (x : Hs) (v : XV T) : Bool := match x, v with
 | .obj _ cs, .ptr j _ => match h[j]? with
  | some (.obj _ l) => ZrO cs l
  | _ => true
 | .cobj _ _, .ptr j _ => match h[j]? with
  | some (.obj _ l) => l.all ZCV
  | _ => true
 | _, _ => true
def ZwZ (hs : List Hs) (h : List (HI T)) : List Vs -> List (XV T) -> Bool
 | .one (.ptr i _) :: l, v :: vs => (match hs[i]? with
  | some x => ZDU h x v
  | none => true) && ZwZ hs h l vs
 | _ :: l, _ :: vs => ZwZ hs h l vs
 | _, _ => true
def Zw0 {C : ZaA T} {P : Program} : List (CE C P) -> FuncId -> List (XV T) -> List (HI T) -> Option (CE C P)
 | [], _, _, _ => none
 | E :: l, f, xs, h => cond (Nat.beq E.f f && (ZBi E.args xs && ZwZ E.hs h E.args xs)) (some E) (Zw0 l f xs h)
def Zw1 {C : ZaA T} {P : Program} (tbl : List (CE C P)) (f : FuncId) (xs : List (XV T)) (h : List (HI T)) : Option (CE C P) := match Zw0 tbl f xs h with
 | some E => some E
 | none => pick tbl f xs
def ZBj {C : ZaA T} {P : Program} (E : CE C P) (xs : List (XV T)) (h : List (HI T)) (k : XV T -> List (HI T) -> Option A) : Option A :=
 cond E.two (ZmI C E.args E.hs xs h fun d dh π => (E.mm d dh).bind fun s => match s with
  | .inl r => (ZBg (pf π E.hs.length h.length) (E.res.st C r.1)).force fun v => Zce (ZiG π E.hs.length h (Zed C E.outs r.2)) fun h' => k v h'
  | .inr r => (ZBg (pf π E.hs.length h.length) (E.res2.st C r.1)).force fun v => Zce (ZiG π E.hs.length h (Zed C E.outs2 r.2)) fun h' => k v h')
 (ZmI C E.args E.hs xs h fun d dh π => (E.m d dh).bind fun r =>
  (ZBg (pf π E.hs.length h.length) (E.res.st C r.1)).force fun v => Zce (ZiG π E.hs.length h (Zed C E.outs r.2)) fun h' => k v h')
structure ZD1 (C : ZaA T) (P : Program) where
 on : Op -> List (XV T) -> Bool
 op : {A : Type} -> Op -> List (XV T) -> List (HI T) -> (XV T -> List (HI T) -> Option A) -> Option A
 ok : ∀ {A : Type} (tou : Tou T) o vs h (k : XV T -> List (HI T) -> Option A) z, on o vs = true -> op o vs h k = some z -> ∃ r h', k r h' = some z /\ ∀ d ty pos af g, ZmF C P (· ∈ ZiC tou o vs h) ⟨d, o, ty, pos, af, g⟩ vs h r h'
def ZuM {C : ZaA T} {P : Program} (tbl : List (CE C P)) (f : FuncId) (xs : List (XV T)) (h : List (HI T)) (k : XV T -> List (HI T) -> Option A) : Option A := match Zw1 tbl f xs h with
 | some E => ZBj E xs h k
 | none => none
def ZBk {C : ZaA T} {P : Program} (tbl : List (CE C P)) : Orc T A := ⟨ZuM tbl, fun _ _ => false, fun _ _ _ _ => none⟩
def Zpm {C : ZaA T} {P : Program} (tbl : List (CE C P)) : Tou T := fun f xs h => match Zw1 tbl f xs h with
 | some E => bif !E.two && E.ro then [] else match ZmI C E.args E.hs xs h (fun _ _ π => some (ZAD π)) with
  | some l => l
  | none => []
 | none => []
theorem Zyt {C : ZaA T} {P : Program} {f : FuncId} {xs : List (XV T)} {E : CE C P} : ∀ {tbl : List (CE C P)}, pick tbl f xs = some E -> E.f = f
 | [], h => by cases h
 | D :: l, h => by
  unfold pick at h
  cases hb : (Nat.beq D.f f && ZBi D.args xs)
  ·rw [hb] at h; exact Zyt (tbl := l) h
  ·rw [hb] at h
   injection h with h
   subst h
   simp only [Bool.and_eq_true] at hb
   exact Nat.eq_of_beq_eq_true hb.1
theorem ZuN {C : ZaA T} {P : Program} {f : FuncId} {xs : List (XV T)} {h : List (HI T)} {E : CE C P} : ∀ {tbl : List (CE C P)}, Zw0 tbl f xs h = some E -> E.f = f
 | [], h => by cases h
 | D :: l, h' => by
  unfold Zw0 at h'
  cases hb : (Nat.beq D.f f && (ZBi D.args xs && ZwZ D.hs h D.args xs))
  ·rw [hb] at h'; exact ZuN (tbl := l) h'
  ·rw [hb] at h'
   injection h' with h'
   subst h'
   simp only [Bool.and_eq_true] at hb
   exact Nat.eq_of_beq_eq_true hb.1
theorem Zzf {C : ZaA T} {P : Program} {f : FuncId} {xs : List (XV T)} {h : List (HI T)} {E : CE C P} {tbl : List (CE C P)} (hp : Zw1 tbl f xs h = some E) : E.f = f := by
 unfold Zw1 at hp
 split at hp
 ·rename_i hs
  injection hp with hp
  subst hp
  exact ZuN hs
 ·exact Zyt hp
section
variable {C : ZaA T} {π : Pi} {h : List (HI T)}
theorem ZaU {i : Nat} {j : Option Nat} (k : Pi -> Option A) : ZgB π i j k = (ZgB π i j some).bind k := by
 unfold ZgB
 split
 ·cases oeq _ j <;> rfl
 ·cases ZwW π j <;> rfl
theorem ZjA : ∀ {B : Type} {ps qs : List Nat} {π : Pi} (k : Pi -> Option B), Zm9 π ps qs k = (Zm9 π ps qs some).bind k
 | B, [], [], π, k => rfl
 | B, i :: ps, j :: qs, π, k => by
  unfold Zm9
  rw [ZaU]; conv => rhs; rw [ZaU]
  rw [Option.bind_assoc]
  congr 1; funext π'
  exact ZjA k
 | B, [], _ :: _, π, k => rfl
 | B, _ :: _, [], π, k => rfl
theorem ZnS : ∀ {B : Type} {n : Nat} {l : List Nat} (k : ND n -> Option B), rdN n l k = (rdN n l some).bind k
 | B, 0, [], k => rfl
 | B, n + 1, a :: l, k => by
  show (rdN n l fun d => k (a, d)) = (rdN n l fun d => some (a, d)).bind k
  rw [ZnS, ZnS (fun d => some (a, d)), Option.bind_assoc]; rfl
 | B, 0, _ :: _, k => rfl
 | B, _ + 1, [], k => rfl
theorem ZuO {c : Cs} {v : XV T} (k : c.D T -> Pi -> Option A) : c.rd v π k = (c.rd v π fun d π => some (d, π)).bind fun p => k p.1 p.2 := by
 cases c with
 | own E i => cases v with
  | sl E' xs o => cases o with
   | none => rfl
   | some r =>
    unfold Cs.rd
    dsimp only
    split
    ·rw [ZaU]; conv => rhs; rw [ZaU]
     rw [Option.bind_assoc]; rfl
    ·rfl
  | nil =>
   unfold Cs.rd
   dsimp only
   rw [ZaU]; conv => rhs; rw [ZaU]
   rw [Option.bind_assoc]; rfl
  | _ => rfl
 | ptr i o => cases v with
  | ptr j o' =>
   unfold Cs.rd
   dsimp only
   cases Nat.beq o o'
   ·rfl
   ·simp only [cond_true]
    rw [ZaU]; conv => rhs; rw [ZaU]
    rw [Option.bind_assoc]; rfl
  | _ => rfl
 | mo i => cases v with
  | mo j =>
   unfold Cs.rd
   dsimp only
   rw [ZaU]; conv => rhs; rw [ZaU]
   rw [Option.bind_assoc]; rfl
  | _ => rfl
 | gv i c n => cases v with
  | gv j c' l =>
   unfold Cs.rd
   dsimp only
   cases Nat.beq c c'
   ·rfl
   ·simp only [cond_true]
    rw [ZaU]; conv => rhs; rw [ZaU]
    rw [Option.bind_assoc]
    congr 1; funext π'
    rw [ZnS]; conv => rhs; rw [ZnS]
    rw [Option.bind_assoc]; rfl
  | _ => rfl
 | int kd => cases v with
  | int kd' n => unfold Cs.rd; dsimp only; split <;> rfl
  | _ => rfl
 | sl E => cases v with
  | sl E' xs o => unfold Cs.rd; dsimp only; split <;> rfl
  | slx E' xs ys => unfold Cs.rd; dsimp only; split <;> rfl
  | _ => rfl
 | slx E => cases v with
  | slx E' xs ys => unfold Cs.rd; dsimp only; split <;> rfl
  | _ => rfl
 | fn f => cases v with
  | fn g => unfold Cs.rd; dsimp only; cases Nat.beq f g <;> rfl
  | _ => rfl
 | as E i => cases v with
  | as E' j lo n co =>
   cases co with
   | none => rfl
   | some c =>
    unfold Cs.rd
    dsimp only
    cases Nat.beq E' E
    ·rfl
    ·simp only [cond_true]
     rw [ZaU]; conv => rhs; rw [ZaU]
     rw [Option.bind_assoc]; rfl
  | nil =>
   unfold Cs.rd
   dsimp only
   rw [ZaU]; conv => rhs; rw [ZaU]
   rw [Option.bind_assoc]; rfl
  | _ => rfl
 | asu E i => cases v with
  | as E' j lo n co =>
   unfold Cs.rd
   dsimp only
   cases Nat.beq E' E
   ·rfl
   ·simp only [cond_true]
    rw [ZaU]; conv => rhs; rw [ZaU]
    rw [Option.bind_assoc]; rfl
  | nil =>
   unfold Cs.rd
   dsimp only
   rw [ZaU]; conv => rhs; rw [ZaU]
   rw [Option.bind_assoc]; rfl
  | _ => rfl
 | asz E i => cases v with
  | as E' j lo n co =>
   unfold Cs.rd
   dsimp only
   cases (Nat.beq E' E && Nat.beq lo 0)
   ·rfl
   ·simp only [cond_true]
    rw [ZaU]; conv => rhs; rw [ZaU]
    rw [Option.bind_assoc]; rfl
  | nil =>
   unfold Cs.rd
   dsimp only
   rw [ZaU]; conv => rhs; rw [ZaU]
   rw [Option.bind_assoc]; rfl
  | _ => rfl
 | clo f ps => cases v with
  | clo g qs =>
   unfold Cs.rd
   dsimp only
   cases Nat.beq f g
   ·rfl
   ·simp only [cond_true]
    rw [ZjA]; conv => rhs; rw [ZjA]
    rw [Option.bind_assoc]; rfl
  | _ => rfl
 | _ => cases v <;> rfl
theorem ZjB : ∀ {B : Type} {l : List Cs} {vs : List (XV T)} {π : Pi} (k : CsD T l -> Pi -> Option B), ZwX l vs π k = (ZwX l vs π fun d π => some (d, π)).bind fun p => k p.1 p.2
 | B, [], [], π, k => rfl
 | B, c :: l, v :: vs, π, k => by
  unfold ZwX
  rw [ZuO]; conv => rhs; rw [ZuO]
  rw [Option.bind_assoc]
  congr 1; funext p
  rw [ZjB]; conv => rhs; rw [ZjB]
  rw [Option.bind_assoc]; rfl
 | B, [], _ :: _, π, k => rfl
 | B, _ :: _, [], π, k => rfl
theorem Zyu {s : Vs} {v : XV T} (k : s.D T -> Pi -> Option A) : s.rd C v π k = (s.rd C v π fun d π => some (d, π)).bind fun p => k p.1 p.2 := by
 cases s with
 | one c => exact ZuO (c := c) k
 | agg l =>
  unfold Vs.rd
  dsimp only
  split
  ·exact ZjB k
  ·rfl
 | cod E =>
  unfold Vs.rd
  dsimp only
  split
  ·rw [Option.bind_assoc]; rfl
  ·rfl
 | vl l =>
  unfold Vs.rd
  dsimp only
  split
  ·exact ZjB k
  ·rfl
 | ce l => rfl
theorem ZnT : ∀ {B : Type} {l : List Vs} {vs : List (XV T)} {π : Pi} (k : VsD T l -> Pi -> Option B), ZuF C l vs π k = (ZuF C l vs π fun d π => some (d, π)).bind fun p => k p.1 p.2
 | B, [], [], π, k => rfl
 | B, c :: l, v :: vs, π, k => by
  unfold ZuF
  rw [Zyu]; conv => rhs; rw [Zyu]
  rw [Option.bind_assoc]
  congr 1; funext p
  rw [ZnT]; conv => rhs; rw [ZnT]
  rw [Option.bind_assoc]; rfl
 | B, [], _ :: _, π, k => rfl
 | B, _ :: _, [], π, k => rfl
theorem Zyv {x : Hs} {i : Nat} (k : x.D T -> Pi -> Option A) : x.rd C i h π k = (x.rd C i h π fun d π => some (d, π)).bind fun p => k p.1 p.2 := by
 cases x with
 | obj t l =>
  unfold Hs.rd
  dsimp only
  split
  ·split
   ·cases Nat.beq t _
    ·rfl
    ·exact ZjB k
   ·rfl
  ·rfl
 | cobj t E =>
  unfold Hs.rd
  dsimp only
  split
  ·split
   ·cases Nat.beq t _
    ·rfl
    ·simp only [cond_true]; rw [Option.bind_assoc]; rfl
   ·rfl
  ·rfl
 | arr e E kp =>
  unfold Hs.rd
  dsimp only
  split
  ·split
   ·cases Nat.beq e _
    ·rfl
    ·simp only [cond_true]
     split <;> rfl
   ·rfl
  ·rfl
  ·rfl
 | mmap K V =>
  unfold Hs.rd
  dsimp only
  split
  ·split
   ·split <;> rfl
   ·rfl
  ·rfl
 | lobj t l =>
  unfold Hs.rd
  dsimp only
  split
  ·split
   ·cases Nat.beq t _
    ·rfl
    ·exact ZjB k
   ·rfl
  ·rfl
 | lmap K V =>
  unfold Hs.rd
  dsimp only
  split
  ·split
   ·split <;> rfl
   ·rfl
  ·rfl
 | gen E kp =>
  unfold Hs.rd
  dsimp only
  split
  ·split
   ·split <;> rfl
   ·rfl
  ·rfl
 | row e sz =>
  unfold Hs.rd
  dsimp only
  split
  ·split
   ·cases (Nat.beq e _ && Nat.beq sz _) <;> rfl
   ·rfl
  ·rfl
  ·rfl
 | dead => rfl
theorem ZnU : ∀ {B : Type} {l : List Hs} {i : Nat} {π : Pi} (k : HsD T l -> Pi -> Option B), ZAB C h i l π k = (ZAB C h i l π fun d π => some (d, π)).bind fun p => k p.1 p.2
 | B, [], i, π, k => rfl
 | B, c :: l, i, π, k => by
  unfold ZAB
  rw [Zyv]; conv => rhs; rw [Zyv]
  rw [Option.bind_assoc]
  congr 1; funext p
  rw [ZnU]; conv => rhs; rw [ZnU]
  rw [Option.bind_assoc]; rfl
theorem ZuP {hs : List Hs} (k : HsD T hs -> Pi -> Option A) : ZlB C hs h π k = (ZlB C hs h π fun d π => some (d, π)).bind fun p => k p.1 p.2 := by
 unfold ZlB
 rw [ZnU]; conv => rhs; rw [ZnU]
 rw [Option.bind_assoc]
 congr 1; funext p
 cases pok hs.length h.length p.2 <;> rfl
theorem ZnV {vs : List Vs} {hs : List Hs} {xs : List (XV T)} (k : VsD T vs -> HsD T hs -> Pi -> Option A) : ZmI C vs hs xs h k = (ZmI C vs hs xs h fun d dh π => some (d, dh, π)).bind fun p => k p.1 p.2.1 p.2.2 := by
 unfold ZmI
 rw [ZnT]; conv => rhs; rw [ZnT]
 rw [Option.bind_assoc]
 congr 1; funext p
 rw [ZuP]; conv => rhs; rw [ZuP]
 rw [Option.bind_assoc]; rfl
end
theorem Zaj {α β : Type} {o : Option α} {f : α -> Option β} {z : β} (h : o.bind f = some z) : ∃ a, o = some a /\ f a = some z := by
 cases o with
 | none => cases h
 | some a => exact ⟨a, rfl, h⟩
theorem ZuQ {C : ZaA T} {P : Program} (tbl : List (CE C P)) : ∀ f xs h (k : XV T -> List (HI T) -> Option A) z, ZuM tbl f xs h k = some z -> ∃ r h', k r h' = some z /\ Tr C P (· ∈ Zpm tbl f xs h) f xs h r h' := by
 intro f xs h k z hk
 unfold ZuM at hk
 split at hk
 ·rename_i E hE
  have hf := Zzf hE
  unfold ZBj at hk
  have fin : ∀ {d : VsD T E.args} {dh : HsD T E.hs} {π : Pi} {r : XV T} {h' : List (HI T)}, ZmI C E.args E.hs xs h (fun d dh π => some (d, dh, π)) = some (d, dh, π) -> (!E.two && E.ro) = false -> Tr C P (fun _ => True) f (ZkY C E.args d) (Zed C E.hs dh) r h' ->
   Tr C P (· ∈ Zpm tbl f xs h) f xs h (ZBg (pf π E.hs.length h.length) r) (ZiG π E.hs.length h h') := by
   intro d dh π r h' h1 hro ht
   obtain ⟨d', dh', π', e1, hp, hS⟩ := ZlF h1
   injection e1 with e1
   injection e1 with e1 e2
   injection e2 with e2 e3
   subst e1 e2 e3
   have htou : Zpm tbl f xs h = ZAD π' := by
    unfold Zpm
    rw [hE]
    dsimp only
    rw [hro, cond_false, ZnV, h1]
    rfl
   intro ρ σ as_ hs H
   obtain ⟨s1, s2, s3⟩ := hS ρ σ as_ hs H
   have s1' : SVs C (Zed C E.hs dh').length (ZcF π' ρ) (ZkY C E.args d') as_ := by rw [Zcb]; exact s1
   refine (ht (ZcF π' ρ) σ as_ s1' s2).mono fun rv τ ⟨ρt, g1, g2, g3⟩ => ?_
   obtain ⟨ρ', q1, q2, q3⟩ := ZCT (Zcb _ _) hp H g2 g3 s3
   refine ⟨ρ', ZuJ q1 g1, q2, ?_⟩
   rw [htou]
   exact q3
  cases htw : E.two with
  | true =>
   rw [htw, cond_true, ZnV] at hk
   obtain ⟨⟨d, dh, π⟩, h1, h2⟩ := Zaj hk
   dsimp only at h2
   obtain ⟨s, h3, h4⟩ := Zaj h2
   cases s with
   | inl r =>
    dsimp only at h4
    rw [ZdU, Zbr] at h4
    exact ⟨_, _, h4, fin h1 (by rw [htw]; rfl) (hf ▸ E.okm.1 d dh r h3)⟩
   | inr r =>
    dsimp only at h4
    rw [ZdU, Zbr] at h4
    exact ⟨_, _, h4, fin h1 (by rw [htw]; rfl) (hf ▸ E.okm.2 d dh r h3)⟩
  | false =>
  rw [htw, cond_false, ZnV] at hk
  obtain ⟨⟨d, dh, π⟩, h1, h2⟩ := Zaj hk
  dsimp only at h2
  obtain ⟨r, h3, h4⟩ := Zaj h2
  rw [ZdU, Zbr] at h4
  cases hro : E.ro with
  | true =>
   have hf2 := hf
   obtain ⟨d', dh', π', e1, hp, hS⟩ := ZlF h1
   injection e1 with e1
   injection e1 with e1 e2
   injection e2 with e2 e3
   subst e1 e2 e3
   have ht := E.roOk hro d' dh' r h3
   rw [hf] at ht
   have htou : Zpm tbl f xs h = [] := by
    unfold Zpm
    rw [hE]
    dsimp only
    rw [hro, htw]
    rfl
   refine ⟨_, _, h4, fun ρ σ as_ hs H => ?_⟩
   obtain ⟨s1, s2, s3⟩ := hS ρ σ as_ hs H
   have s1' : SVs C (Zed C E.hs dh').length (ZcF π' ρ) (ZkY C E.args d') as_ := by rw [Zcb]; exact s1
   refine (ht (ZcF π' ρ) σ as_ s1' s2).mono fun rv τ ⟨ρt, g1, g2, g3⟩ => ?_
   obtain ⟨ρ', q1, q2, q3⟩ := ZCT (Zcb _ _) hp H g2 g3 s3
   refine ⟨ρ', ZuJ q1 g1, q2, ?_⟩
   rw [htou]
   exact ⟨q3.len, q3.ext, ⟨fun c k _ hk => g3.but.keep c k (fun ⟨_, _, hF, _⟩ => hF) hk, q3.but.used⟩, q3.born⟩
  | false => exact ⟨_, _, h4, fin h1 (by rw [htw, hro]; rfl) (hf ▸ E.ok d dh r h3)⟩
 ·cases hk
theorem Zau {C : ZaA T} {P : Program} (tbl : List (CE C P)) : (ZBk tbl : Orc T A).Ok C P (Zpm tbl) := ⟨ZuQ tbl, fun o vs h k z h1 => by cases h1⟩
def ZCj (P : Program) (env : XE T) (h : List (HI T)) (r : ResultVar) (k : XV T -> Option A) : Option A := match r with
 | .tmp t => (ZkX env t).force k
 | .cell a t => match ZkX env a with
  | .ptr i o => match h[i]? with
   | some (.obj _ cs) => Zdq (Ze0 P t) (Zav P t) cs o k
   | _ => none
  | _ => none
def Zw2 (P : Program) (env : XE T) (h : List (HI T)) : List ResultVar -> (List (XV T) -> Option A) -> Option A
 | [], k => k []
 | r :: l, k => ZCj P env h r fun v => Zw2 P env h l fun vs => k (v :: vs)
def ZkZ (P : Program) (env : XE T) (h : List (HI T)) (l : List ResultVar) (k : XV T -> Option A) : Option A := match l with
 | [r] => ZCj P env h r k
 | l => Zw2 P env h l fun vs => k (.tup vs)
def Zs7 : Nat -> List (XV T) -> XE T
 | _, [] => []
 | i, v :: l => (i, v) :: Zs7 (i + 1) l
def ZAE (P : Program) (fn : Func) (n : Nat) : Bool := match fn.body with
 | some c => ZeC fn.ntmps c && (fn.name != "runtime.NumGoroutine") && Nat.ble n fn.ntmps
 | none => false
def ZCk (C : ZaA T) (P : Program) (tou : Tou T) (orc : Orc T A) (dr : Nat -> Nat -> DrA) (lps : Lps T A) (fn : Func) (xs : List (XV T)) (h : List (HI T)) (k : XV T -> List (HI T) -> Option A) : Option A := match fn.body with
 | some c => ZmH C P tou orc dr lps c (Zs7 0 xs) h fun ex env h => match ex with
  | .normal => ZkZ P env h fn.results.toList fun v => k v h
  | .ret => ZkZ P env h fn.results.toList fun v => k v h
  | _ => none
 | none => none
section
variable {C : ZaA T} {P : Program} {ρ : Nat -> AV} {env : XE T} {h : List (HI T)} {e : Env} {σ : St} {z : A}
theorem Znb {r : ResultVar} {k : XV T -> Option A} (hk : ZCj P env h r k = some z) : ∃ v, k v = some z /\ ∀ ρ e σ, Sat C ρ env h e σ -> ∃ a, Zbf P e σ r = some a /\ SV C h.length ρ v a := by
 unfold ZCj at hk
 split at hk
 ·rw [ZdU] at hk
  exact ⟨_, hk, fun ρ e σ hs => ⟨_, rfl, hs.env _⟩⟩
 ·rename_i a t
  split at hk
  ·rename_i i o hg
   split at hk
   ·rename_i t' cs hi
    obtain ⟨v, h1, h2⟩ := ZcO (C := C) hk
    refine ⟨v, h1, fun ρ e σ hs => ?_⟩
    have hp := hs.env a
    rw [hg] at hp
    obtain ⟨b, hb, _, hρ⟩ := Zdp.1 hp
    obtain ⟨b', acs, g1, g2, g3, g4⟩ := hs.hp.it i _ hi
    rw [hρ] at g1
    have := ZnO g1
    subst this
    obtain ⟨a', q1, q2⟩ := h2 h.length ρ acs [] g4
    rw [List.append_nil] at q1
    refine ⟨a', ?_, q2⟩
    show Zdk P t σ (e a) = some a'
    rw [hb]
    unfold Zdk ptr
    dsimp only
    rw [g2]
    exact q1
   ·cases hk
  ·cases hk
theorem ZlH : ∀ {l : List ResultVar} {k : List (XV T) -> Option A}, Zw2 P env h l k = some z -> ∃ vs, k vs = some z /\ ∀ ρ e σ, Sat C ρ env h e σ -> ∃ as_, l.mapM (Zbf P e σ) = some as_ /\ SVs C h.length ρ vs as_
 | [], k, hk => ⟨[], hk, fun ρ e σ hs => ⟨[], rfl, .none⟩⟩
 | r :: l, k, hk => by
  unfold Zw2 at hk
  obtain ⟨v, h1, h2⟩ := Znb (C := C) hk
  obtain ⟨vs, h3, h4⟩ := ZlH h1
  refine ⟨v :: vs, h3, fun ρ e σ hs => ?_⟩
  obtain ⟨a, g1, g2⟩ := h2 ρ e σ hs
  obtain ⟨as_, g3, g4⟩ := h4 ρ e σ hs
  exact ⟨a :: as_, by simp [g1, g3], .cons g2 g4⟩
theorem ZhW {fn : Func} {k : XV T -> Option A} (hk : ZkZ P env h fn.results.toList k = some z) : ∃ v, k v = some z /\ ∀ ρ e σ, Sat C ρ env h e σ -> ∃ a, Za1 P fn e σ a /\ SV C h.length ρ v a := by
 unfold ZkZ at hk
 unfold Za1
 split at hk
 ·rename_i r hl
  obtain ⟨v, h1, h2⟩ := Znb (C := C) hk
  refine ⟨v, h1, fun ρ e σ hs => ?_⟩
  rw [hl]
  exact h2 ρ e σ hs
 ·rename_i hl
  obtain ⟨vs, h1, h2⟩ := ZlH (C := C) hk
  refine ⟨_, h1, fun ρ e σ hs => ?_⟩
  obtain ⟨as_, g1, g2⟩ := h2 ρ e σ hs
  refine ⟨.tup as_, ?_, Ze7.2 ⟨as_, rfl, g2⟩⟩
  split
  ·rename_i x hx; exact absurd hx (hl x)
  ·exact ⟨as_, g1, rfl⟩
theorem Zpn : ∀ (l : List (XV T)) (i j : Nat), ZkX (Zs7 i l) j = if i <= j then (l[j - i]?).getD .junk else .junk
 | [], i, j => by simp [Zs7, ZkX]
 | v :: l, i, j => by
  unfold Zs7
  rw [ZiF, Zpn l (i + 1) j]
  by_cases h1 : i = j
  ·subst h1; simp
  ·rw [if_neg h1]
   by_cases h2 : i <= j
   ·rw [if_pos h2, if_pos (by omega), show j - i = (j - (i + 1)) + 1 from by omega, List.getElem?_cons_succ]
   ·rw [if_neg h2, if_neg (by omega)]
theorem Zs8 {tou : Tou T} {orc : Orc T A} {dr : Nat -> Nat -> DrA} {lps : Lps T A} {f : FuncId} {fn : Func} {xs : List (XV T)} {k : XV T -> List (HI T) -> Option A} (hm : P.follows .mixedOrders = true) (hf : P.funcs[f]? = some fn) (hok : ZAE P fn xs.length = true) (hO : orc.Ok C P tou) (hL : ∀ c, fn.body = some c -> ∀ l ∈ ZbB c, lps.Ok C P l)
 (hk : ZCk C P tou orc dr lps fn xs h k = some z) : ∃ r h', k r h' = some z /\ Tr C P (fun _ => True) f xs h r h' := by
 unfold ZCk at hk
 split at hk
 ·rename_i c hc
  unfold ZAE at hok
  rw [hc] at hok
  simp only [Bool.and_eq_true] at hok
  obtain ⟨⟨o1, o2⟩, o3⟩ := hok
  obtain ⟨ex, env', h', k1, t1⟩ := Zca hO c _ _ _ (hL c hc) hk
  have fin : ∀ v, (k v h' = some z /\ ∀ ρ e σ, Sat C ρ env' h' e σ -> ∃ a, Za1 P fn e σ a /\ SV C h'.length ρ v a) -> (ex = .normal \/ ex = .ret) -> ∃ r h', k r h' = some z /\ Tr C P (fun _ => True) f xs h r h' := by
   rintro v ⟨k2, k3⟩ hex
   refine ⟨v, h', k2, fun ρ σ vs hs H => ?_⟩
   have hlen := hs.len
   refine Zas hm hf hc o2 o1 (by rw [hlen]; exact Nat.le_of_ble_eq_true o3) ?_
   have hsat : Sat C ρ (Zs7 0 xs) h (ZwH vs) σ := by
    refine ⟨fun i => ?_, H⟩
    rw [Zpn, if_pos (Nat.zero_le _), Nat.sub_zero]
    unfold ZwH
    rw [List.getD_eq_getElem?_getD]
    cases hx : xs[i]? with
    | none => exact ZbV
    | some x =>
     obtain ⟨a, g1, g2⟩ := hs.get hx
     rw [g1]; exact g2
   refine ZaR ?_ (t1 σ.used ρ _ σ hsat)
   rintro ex' e' σ' ⟨rfl, ρ', g1, g2⟩
   obtain ⟨a, q1, q2⟩ := k3 ρ' e' σ' g1
   rcases hex with rfl | rfl
   ·exact ⟨a, q1, ρ', q2, g1.hp, g2⟩
   ·exact ⟨a, q1, ρ', q2, g1.hp, g2⟩
  split at k1
  ·obtain ⟨v, q1, q2⟩ := ZhW (C := C) k1
   exact fin v ⟨q1, q2⟩ (.inl rfl)
  ·obtain ⟨v, q1, q2⟩ := ZhW (C := C) k1
   exact fin v ⟨q1, q2⟩ (.inr rfl)
  ·cases k1
 ·cases hk
theorem ZdE {tou : Tou T} {f : FuncId} {fn : Func} {args : List Vs} {hs : List Hs} {res : Rs} {outs : List Hs} {m : VsD T args -> HsD T hs -> Option (res.D T × HsD T outs)} {orc : Orc T (res.D T × HsD T outs)} {dr : Nat -> Nat -> DrA} {lps : Lps T (res.D T × HsD T outs)}
 (hm : P.follows .mixedOrders = true) (hf : P.funcs[f]? = some fn) (hok : ZAE P fn args.length = true) (hO : orc.Ok C P tou) (hL : ∀ c, fn.body = some c -> ∀ l ∈ ZbB c, lps.Ok C P l)
 (hrun : ∀ d dh, ZCk C P tou orc dr lps fn (ZkY C args d) (Zed C hs dh) (fun v h => ZwY C hs.length res outs (Zik 0 hs) v h fun d dh => some (d, dh)) = m d dh) :
 ∀ d dh r, m d dh = some r -> Tr C P (fun _ => True) f (ZkY C args d) (Zed C hs dh) (res.st C r.1) (Zed C outs r.2) := by
 intro d dh r hr
 have hlen : ∀ (l : List Vs) (d : VsD T l), (ZkY C l d).length = l.length := by
  intro l
  induction l with
  | nil => intro d; rfl
  | cons v l ih => intro d; simp [ZkY, ih]
 rw [<- hrun] at hr
 obtain ⟨v, h', h1, h2⟩ := Zs8 hm hf (by rw [hlen]; exact hok) hO hL hr
 obtain ⟨d', dh', h3, h4⟩ := ZuL (U := fun _ => True) (ZnR hs) h1
 injection h3 with h3
 subst h3
 intro ρ σ vs hs' H
 refine (h2 ρ σ vs hs' H).mono fun rv τ ⟨ρ', g1, g2, g3⟩ => ?_
 exact h4 ρ _ σ ρ' τ rv (Zcb _ _) g1 g2 g3
end
end Go.Proofs.YteempnebenjkmaaGreatDoor
namespace Go.Proofs.YteempnebenjkmaaGreatDoor
open Go.RowKit
set_option linter.unusedSimpArgs false
set_option maxRecDepth 100000
set_option linter.unusedVariables false
variable {T : Nat -> Type} {A : Type}
section
variable {α β : Type}
def Zil (step : α -> Option (α ⊕ β)) : Nat -> α -> Option β
 | 0, _ => none
 | n + 1, a => match step a with
  | none => none
  | some (.inl a') => Zil step n a'
  | some (.inr b) => some b
theorem Znc {step : α -> Option (α ⊕ β)} : ∀ {n : Nat} {a : α} {b : β}, Zil step n a = some b -> Zil step (n + 1) a = some b
 | 0, a, b, h => by cases h
 | n + 1, a, b, h => by
  unfold Zil at h ⊢
  split at h
  ·cases h
  ·exact Znc h
  ·exact h
theorem ZrP {step : α -> Option (α ⊕ β)} {n m : Nat} (hnm : n <= m) {a : α} {b : β} (h : Zil step n a = some b) : Zil step m a = some b := by
 induction m with
 | zero => obtain rfl : n = 0 := by omega
           exact h
 | succ m ih =>
  rcases Nat.lt_or_ge m n with h1 | h1
  ·obtain rfl : n = m + 1 := by omega
   exact h
  ·exact Znc (ih h1)
open Classical in
noncomputable def Za2 (step : α -> Option (α ⊕ β)) (a : α) : Option β := if h : ∃ n b, Zil step n a = some b then some (Classical.choose (Classical.choose_spec h)) else none
theorem ZnW {step : α -> Option (α ⊕ β)} {n : Nat} {a : α} {b : β} (h : Zil step n a = some b) : Za2 step a = some b := by
 unfold Za2
 have hex : ∃ n b, Zil step n a = some b := ⟨n, b, h⟩
 rw [dif_pos hex]
 have h2 := Classical.choose_spec (Classical.choose_spec hex)
 have h3 := ZrP (Nat.le_max_left _ n) h2
 have h4 := ZrP (Nat.le_max_right (Classical.choose hex) n) h
 rw [h4] at h3
 injection h3 with h3
 rw [h3]
theorem ZjC {step : α -> Option (α ⊕ β)} {a : α} {b : β} (h : Za2 step a = some b) : ∃ n, Zil step n a = some b := by
 unfold Za2 at h
 split at h
 ·rename_i hex
  injection h with h
  have h2 := Classical.choose_spec (Classical.choose_spec hex)
  rw [h] at h2
  exact ⟨_, h2⟩
 ·cases h
theorem ZrQ (step : α -> Option (α ⊕ β)) (a : α) : Za2 step a = match step a with
 | none => none
 | some (.inl a') => Za2 step a'
 | some (.inr b) => some b := by
 have up : ∀ {b}, Za2 step a = some b -> (match step a with | none => none | some (.inl a') => Za2 step a' | some (.inr b) => some b) = some b := fun {b} h => by
  obtain ⟨n, hn⟩ := ZjC h
  cases n with
  | zero => cases hn
  | succ n =>
   unfold Zil at hn
   split at hn
   ·cases hn
   ·exact ZnW hn
   ·exact hn
 have down : ∀ {b}, (match step a with | none => none | some (.inl a') => Za2 step a' | some (.inr b) => some b) = some b -> Za2 step a = some b := fun {b} h => by
  split at h
  ·cases h
  ·rename_i a' ha
   obtain ⟨n, hn⟩ := ZjC h
   exact ZnW (n := n + 1) (by unfold Zil; rw [ha]; exact hn)
  ·rename_i b' hb
   exact ZnW (n := 1) (by unfold Zil; rw [hb]; exact h)
 cases h1 : Za2 step a with
 | some b => exact (up h1).symm
 | none =>
  cases h2 : (match step a with | none => none | some (.inl a') => Za2 step a' | some (.inr b) => some b) with
  | none => rfl
  | some b => rw [down h2] at h1; cases h1
end
structure Ou where
 ex : Exit
 slots : List Nat
 vs : List Vs
 hs : List Hs
@[reducible] def Ou.D (T : Nat -> Type) (o : Ou) : Type := VsD T o.vs × HsD T o.hs
@[reducible] def OsD (T : Nat -> Type) : List Ou -> Type
 | [] => Empty
 | [o] => o.D T
 | o :: o' :: l => o.D T ⊕ OsD T (o' :: l)
def Zw3 : Exit -> Exit -> Bool
 | .normal, .normal => true
 | .ret, .ret => true
 | .exit a, .exit b => Nat.beq a b
 | _, _ => false
theorem ZqN {a b : Exit} (h : Zw3 a b = true) : a = b := by
 cases a <;> cases b <;> simp_all [Zw3]
def ZdH (hs : List Hs) (i : Nat) : Bool := match hs[i]? with
 | some (.obj _ _) => true
 | some (.cobj _ _) => true
 | some (.arr _ _ true) => true
 | some (.mmap _ _) => true
 | some (.gen _ true) => true
 | _ => false
def Zpo (hs : List Hs) (m : Nat) (π : Pi) : Bool := Nat.ble hs.length m && π.all fun p => Nat.ble hs.length p.1 || (oeq p.2 (some p.1) && ZdH hs p.1)
def ZBl (C : ZaA T) (hs0 : List Hs) (π0 : Pi) (ex : Exit) (env : XE T) (h : List (HI T)) : (os : List Ou) -> (OsD T os -> Option A) -> Option A
 | [], _ => none
 | [o], k => cond (Zw3 ex o.ex) (ZuF C o.vs (o.slots.map (ZkX env)) π0 fun d π => ZlB C o.hs h π fun dh π => cond (Zpo hs0 o.hs.length π) (k (d, dh)) none) none
 | o :: o' :: l, k => cond (Zw3 ex o.ex) (ZuF C o.vs (o.slots.map (ZkX env)) π0 fun d π => ZlB C o.hs h π fun dh π => cond (Zpo hs0 o.hs.length π) (k (.inl (d, dh))) none) (ZBl C hs0 π0 ex env h (o' :: l) fun d => k (.inr d))
def ZCl (C : ZaA T) : (os : List Ou) -> OsD T os -> (Exit -> List Nat -> List (XV T) -> List (HI T) -> Option A) -> Option A
 | [], d, _ => d.elim
 | [o], d, k => k o.ex o.slots (ZkY C o.vs d.1) (Zed C o.hs d.2)
 | o :: o' :: l, d, k => match d with
  | .inl d => k o.ex o.slots (ZkY C o.vs d.1) (Zed C o.hs d.2)
  | .inr d => ZCl C (o' :: l) d k
def ZAF : List Nat -> List (XV T) -> XE T
 | i :: l, v :: vs => (i, v) :: ZAF l vs
 | _, _ => []
def ZCW (C : ZaA T) (slots : List Nat) (vs : List Vs) (hs : List Hs) (os : List Ou) : XK T ((VsD T vs × HsD T hs) ⊕ OsD T os) := fun ex env h =>
 cond (Zw3 ex .normal) (ZuF C vs (slots.map (ZkX env)) (Zik 0 hs) fun d π => ZlB C hs h π fun dh π => some (.inl (d, dh)))
  (ZBl C hs (Zik 0 hs) ex env h os fun d => some (.inr d))
structure LE (C : ZaA T) (P : Program) where
 id : Nat
 slots : List Nat
 vs : List Vs
 hs : List Hs
 os : List Ou
 step : VsD T vs × HsD T hs -> Option ((VsD T vs × HsD T hs) ⊕ OsD T os)
noncomputable def Zw4 {C : ZaA T} {P : Program} (E : LE C P) (env : XE T) (h : List (HI T)) (k : XK T A) : Option A :=
 ZmI C E.vs E.hs (E.slots.map (ZkX env)) h fun d dh π => (Za2 E.step (d, dh)).bind fun b => ZCl C E.os b fun ex slots vs ht =>
  ZcN (vs.map (ZAC (pf π E.hs.length h.length))) fun vs => Zce (ZiG π E.hs.length h ht) fun h' => k ex (ZAF slots vs) h'
def Zzg {C : ZaA T} {P : Program} : List (LE C P) -> Nat -> Option (LE C P)
 | [], _ => none
 | E :: l, i => cond (Nat.beq E.id i) (some E) (Zzg l i)
noncomputable def Zbj {C : ZaA T} {P : Program} (tbl : List (LE C P)) : Lps T A := fun i env h k => match Zzg tbl i with
 | some E => Zw4 E env h k
 | none => none
section
variable {C : ZaA T} {P : Program} {ρ ρ' ρ0 : Nat -> AV} {env env' : XE T} {h h0 h' : List (HI T)} {e : Env} {σ τ σ0 : St} {z : A} {n : Nat} {π0 : Pi}
structure ZBm (Kp : Nat -> Bool) (ρ0 : Nat -> AV) (h0 : List (HI T)) (σ0 : St) (ρ : Nat -> AV) (h : List (HI T)) (σ : St) : Prop where
 ext : ∀ i, Kp i = true -> ρ i = ρ0 i
 but : But (ZCh (fun _ => True) ρ0 h0) σ0 σ
 born : ∀ b, Liv ρ h b -> Liv ρ0 h0 b \/ (σ0.blk b = none /\ ¬ σ0.used b)
theorem ZqO (hs : ∀ i, SV C n ρ (ZkX env i) (e i)) (l : List Nat) : SVs C n ρ (l.map (ZkX env)) (l.map e) := by
 induction l with
 | nil => exact .none
 | cons i l ih => exact .cons (hs i) ih
theorem Zk0 : ∀ (slots : List Nat) (vs : List (XV T)), SVs C n ρ vs (slots.map e) -> ∀ i, SV C n ρ (ZkX (ZAF slots vs) i) (e i)
 | [], vs, hs, i => by cases vs <;> exact ZbV
 | s :: slots, [], hs, i => ZbV
 | s :: slots, v :: vs, hs, i => by
  have h1 := hs.head
  have h2 := hs.tail
  unfold ZAF
  rw [ZiF]
  split
  ·rename_i hi; subst hi; exact h1
  ·exact Zk0 slots vs h2 i
theorem Znd : ∀ (l : List Hs) (i k : Nat), ZdH l i = true -> ZaP (Zik k l) (k + i) = some (some (k + i))
 | [], i, k, hi => by simp [ZdH] at hi
 | x :: l, 0, k, hi => by
  cases x with
  | obj t c => unfold Zik; rw [ZaI, if_pos (by omega), Nat.add_zero]
  | cobj t c => unfold Zik; rw [ZaI, if_pos (by omega), Nat.add_zero]
  | mmap K V => unfold Zik; rw [ZaI, if_pos (by omega), Nat.add_zero]
  | arr t c kp => cases kp with
   | true => unfold Zik; rw [ZaI, if_pos (by omega), Nat.add_zero]
   | false => simp [ZdH] at hi
  | row a b => simp [ZdH] at hi
  | gen t kp => cases kp with
   | true => unfold Zik; rw [ZaI, if_pos (by omega), Nat.add_zero]
   | false => simp [ZdH] at hi
  | lobj a b => simp [ZdH] at hi
  | lmap a b => simp [ZdH] at hi
  | dead => simp [ZdH] at hi
 | x :: l, i + 1, k, hi => by
  have hi' : ZdH l i = true := by simpa [ZdH] using hi
  have ih := Znd l i (k + 1) hi'
  rw [show k + 1 + i = k + (i + 1) from by omega] at ih
  cases x with
  | obj t c => unfold Zik; rw [ZaI, if_neg (by omega)]; exact ih
  | cobj t c => unfold Zik; rw [ZaI, if_neg (by omega)]; exact ih
  | mmap K V => unfold Zik; rw [ZaI, if_neg (by omega)]; exact ih
  | arr t c kp => cases kp with
   | true => unfold Zik; rw [ZaI, if_neg (by omega)]; exact ih
   | false => exact ih
  | row a b => exact ih
  | gen t kp => cases kp with
   | true => unfold Zik; rw [ZaI, if_neg (by omega)]; exact ih
   | false => exact ih
  | lobj a b => exact ih
  | lmap a b => exact ih
  | dead => exact ih
theorem ZuR {l : List Hs} {i : Nat} (hi : ZdH l i = true) : i < l.length := by
 unfold ZdH at hi
 split at hi
 ·exact Zat ‹_›
 ·exact Zat ‹_›
 ·exact Zat ‹_›
 ·exact Zat ‹_›
 ·exact Zat ‹_›
 ·cases hi
theorem ZBm.step {Kp : Nat -> Bool} {V : Nat -> Prop} (H0 : Hp C ρ0 h0 σ0) (L : ZBm Kp ρ0 h0 σ0 ρ h σ) (R : Rel V ρ h σ ρ' h' τ) (hobj : ∀ i, Kp i = true -> i < h.length) : ZBm Kp ρ0 h0 σ0 ρ' h' τ := by
 refine ⟨fun i hi => (R.ext i (hobj i hi)).trans (L.ext i hi), L.but.ext2 (fun b hb => ?_) R.but, fun b hb => ?_⟩
 ·obtain ⟨i, x, _, h2⟩ := hb
  rcases L.born b ⟨i, x, h2⟩ with ⟨j, y, h3⟩ | h3
  ·exact .inl ⟨j, y, trivial, h3⟩
  ·exact .inr h3.1
 ·rcases R.born b hb with h1 | ⟨h1, h2⟩
  ·exact L.born b h1
  ·exact .inr ⟨L.but.noneOfB (fun b ⟨i, x, _, h4⟩ => H0.used ⟨i, x, h4⟩) h2 h1, fun hu => h2 (L.but.used _ hu)⟩
theorem Hp.ext (H : Hp C ρ h σ) (hρ : ∀ i, i < h.length -> ρ' i = ρ i) : Hp C ρ' h σ := by
 refine ⟨fun i x hx => ?_, fun i j x y b hx hy ax ay bx by_ => ?_⟩
 ·have hi := Zat hx
  have := H.it i x hx
  cases x with
  | obj t cs =>
   obtain ⟨b, acs, g1, g2, g3, g4⟩ := this
   exact ⟨b, acs, (hρ i hi).trans g1, g2, g3, g4.ext (Nat.le_refl _) hρ⟩
  | mmap K V es =>
   obtain ⟨b, g1, g2, g3⟩ := this
   exact ⟨b, (hρ i hi).trans g1, g2, g3⟩
  | row e sz =>
   obtain ⟨n, cs, ho⟩ := this
   exact ⟨n, cs, by rw [hρ i hi]; exact ho⟩
  | gen E x =>
   show C.gsh E x σ (ρ' i)
   rw [hρ i hi]; exact this
  | arr e E kp xs =>
   rcases this with ⟨b, K', pre, rest, g1, g2, g3, g4⟩ | ⟨g1, g2⟩
   ·exact .inl ⟨b, K', pre, rest, (hρ i hi).trans g1, g2, g3, g4⟩
   ·exact .inr ⟨(hρ i hi).trans g1, g2⟩
  | dead => trivial
 ·rw [hρ i (Zat hx)] at bx
  rw [hρ j (Zat hy)] at by_
  exact H.dist i j x y b hx hy ax ay bx by_
def ZDA (C : ZaA T) (Kp : Nat -> Bool) (env : XE T) (h : List (HI T)) (h0 : List (HI T)) (slots : List Nat) (vs : List (XV T)) (ht : List (HI T)) : Prop :=
 ∀ ρ0 σ0 ρ e σ, Sat C ρ env h e σ -> ZBm Kp ρ0 h0 σ0 ρ h σ -> ∃ ρ', SVs C ht.length ρ' vs (slots.map e) /\ Hp C ρ' ht σ /\ Rel (fun _ => True) ρ0 h0 σ0 ρ' ht σ
theorem Zne {hs : List Hs} (dh0 : HsD T hs) {o : Ou} {k : Ou.D T o -> Option A} (hk : (ZuF C o.vs (o.slots.map (ZkX env)) (Zik 0 hs) fun d π => ZlB C o.hs h π fun dh π => cond (Zpo hs o.hs.length π) (k (d, dh)) none) = some z) :
 ∃ d, k d = some z /\ ZDA C (ZdH hs) env h (Zed C hs dh0) o.slots (ZkY C o.vs d.1) (Zed C o.hs d.2) := by
 obtain ⟨d, π1, h1, h2, h3, h4⟩ := Zna hk
 obtain ⟨dh, π2, g1, g2, g3, g4, g5⟩ := ZgN h1
 cases ho : Zpo hs o.hs.length π2
 ·rw [ho] at g1; cases g1
 rw [ho] at g1
 refine ⟨(d, dh), g1, fun ρ0 σ0 ρ e σ hs1 R => ?_⟩
 unfold Zpo at ho
 simp only [Bool.and_eq_true] at ho
 obtain ⟨ho1, ho2⟩ := ho
 have hnm : hs.length <= o.hs.length := Nat.le_of_ble_eq_true ho1
 have hbd : ∀ i x, i < hs.length -> ZaP π2 i = some x -> x = some i /\ ZdH hs i = true := fun i x hi hx => by
  have := List.all_eq_true.1 ho2 _ (ZgM hx)
  simp only [Bool.or_eq_true, Bool.and_eq_true] at this
  rcases this with h1 | h1
  ·have := Nat.le_of_ble_eq_true h1; omega
  ·exact ⟨ZrK h1.1, h1.2⟩
 generalize hρ1 : (fun k => if k < h.length then ρ k else ρ0 (k - h.length)) = ρ1
 have r1 : ∀ k, k < h.length -> ρ1 k = ρ k := fun k hk => by subst hρ1; exact if_pos hk
 have r2 : ∀ k, ρ1 (h.length + k) = ρ0 k := fun k => by subst hρ1; show (if h.length + k < h.length then _ else ρ0 (h.length + k - h.length)) = _; rw [if_neg (by omega)]; congr 1; omega
 generalize hπ : π2 ++ (List.range hs.length).map (fun i => (i, some (h.length + i))) = π3
 have hlk : ∀ i, ZaP π3 i = match ZaP π2 i with | some x => some x | none => ZaP ((List.range hs.length).map (fun i => (i, some (h.length + i)))) i := fun i => by subst hπ; exact ZlG
 have hsh : ∀ (l : List Nat) i x, ZaP (l.map (fun i => (i, some (h.length + i)))) i = some x -> i ∈ l /\ x = some (h.length + i) := by
  intro l
  induction l with
  | nil => intro i x hx; simp [ZaP] at hx
  | cons j l ih =>
   intro i x hx
   rw [List.map_cons, ZaI] at hx
   split at hx
   ·rename_i e; subst e; injection hx with hx; exact ⟨List.mem_cons_self, hx.symm⟩
   ·obtain ⟨a, b⟩ := ih i x hx; exact ⟨List.mem_cons_of_mem _ a, b⟩
 have hsh2 : ∀ (l : List Nat) i, i ∈ l -> ZaP (l.map (fun i => (i, some (h.length + i)))) i = some (some (h.length + i)) := by
  intro l
  induction l with
  | nil => intro i hi; cases hi
  | cons j l ih =>
   intro i hi
   rw [List.map_cons, ZaI]
   split
   ·rename_i e; rw [e]
   ·rename_i e
    rcases List.mem_cons.1 hi with rfl | hi
    ·exact absurd rfl e
    ·exact ih i hi
 have hle : PLe π2 π3 := fun i x hx => by rw [hlk, hx]
 have hM : ∀ i x, ZaP π3 i = some x -> i < o.hs.length := fun i x hx => by
  rw [hlk] at hx
  cases hl : ZaP π2 i with
  | some y => exact (Ze8 g4 hl).1
  | none =>
   rw [hl] at hx
   have := List.mem_range.1 (hsh _ _ _ hx).1
   omega
 have hsat : ∀ i, SV C h.length ρ1 (ZkX env i) (e i) := fun i => (hs1.env i).ext (Nat.le_refl _) r1
 obtain ⟨q1, q2⟩ := g5 π3 ρ1 σ (g3 (h3 (ZnR hs))) hle hM (hs1.hp.ext r1)
 have q3 := h4 h.length o.hs.length π3 ρ1 _ (g2.trans hle) hM (ZqO hsat o.slots)
 refine ⟨ZcF π3 ρ1, by rw [Zcb]; exact q3, q1, ⟨by rw [Zcb, Zcb]; exact hnm, fun i hi => ?_, R.but, fun b hb => ?_⟩⟩
 ·rw [Zcb] at hi
  unfold ZcF
  rw [hlk]
  cases hl : ZaP π2 i with
  | some x =>
   obtain ⟨rfl, hob⟩ := hbd i x hi hl
   have hj := (Ze8 g4 hl).2 i rfl
   show ρ1 i = ρ0 i
   rw [r1 i hj]
   exact R.ext i hob
  | none =>
   dsimp only
   rw [hsh2 _ _ (List.mem_range.2 hi)]
   exact r2 i
 ·obtain ⟨i, x, e1, e2, e3⟩ := hb
  obtain ⟨j, y, w1, w2, w3, w4⟩ := q2 i x b e1 e2 e3
  rw [r1 j (Zat w2)] at w4
  exact R.born b ⟨j, y, w2, w3, w4⟩
theorem ZnX {hs : List Hs} (dh0 : HsD T hs) : ∀ {os : List Ou} {ex : Exit} {k : OsD T os -> Option A}, ZBl C hs (Zik 0 hs) ex env h os k = some z -> ∃ d, k d = some z /\
 ∃ slots vs ht, (∀ (B : Type) (k' : Exit -> List Nat -> List (XV T) -> List (HI T) -> Option B), ZCl C os d k' = k' ex slots vs ht) /\ ZDA C (ZdH hs) env h (Zed C hs dh0) slots vs ht
 | [], ex, k, hk => by cases hk
 | [o], ex, k, hk => by
  unfold ZBl at hk
  cases hx : Zw3 ex o.ex
  ·rw [hx] at hk; cases hk
  rw [hx] at hk
  simp only [cond_true] at hk
  obtain ⟨d, h1, h2⟩ := Zne dh0 hk
  exact ⟨d, h1, _, _, _, fun B k' => by rw [ZqN hx]; rfl, h2⟩
 | o :: o' :: l, ex, k, hk => by
  unfold ZBl at hk
  cases hx : Zw3 ex o.ex
  ·rw [hx] at hk
   simp only [cond_false] at hk
   obtain ⟨d, h1, slots, vs, ht, h2, h3⟩ := ZnX dh0 hk
   exact ⟨.inr d, h1, slots, vs, ht, fun B k' => h2 B k', h3⟩
  ·rw [hx] at hk
   simp only [cond_true] at hk
   obtain ⟨d, h1, h2⟩ := Zne (k := fun d => k (.inl d)) dh0 hk
   exact ⟨.inl d, h1, _, _, _, fun B k' => by rw [ZqN hx]; rfl, h2⟩
theorem Znf : ∀ (os : List Ou) (d : OsD T os), ∃ ex slots vs ht, ∀ (B : Type) (k' : Exit -> List Nat -> List (XV T) -> List (HI T) -> Option B), ZCl C os d k' = k' ex slots vs ht
 | [], d => d.elim
 | [o], d => ⟨_, _, _, _, fun B k' => rfl⟩
 | o :: o' :: l, .inl d => ⟨_, _, _, _, fun B k' => rfl⟩
 | o :: o' :: l, .inr d => (Znf (o' :: l) d)
theorem Ze2 {E : LE C P} {c : Code} {tou : Tou T} {orc : Orc T ((VsD T E.vs × HsD T E.hs) ⊕ OsD T E.os)} {dr : Nat -> Nat -> DrA} {lps : Lps T ((VsD T E.vs × HsD T E.hs) ⊕ OsD T E.os)} (hO : orc.Ok C P tou) (hL : ∀ l ∈ ZbB c, lps.Ok C P l)
 (hstep : ∀ a, ZmH C P tou orc dr lps c (ZAF E.slots (ZkY C E.vs a.1)) (Zed C E.hs a.2) (ZCW C E.slots E.vs E.hs E.os) = E.step a) (env : XE T) (h : List (HI T)) (k : XK T A) (z : A) (hk : Zw4 E env h k = some z) :
 ∃ ex env' h', k ex env' h' = some z /\ Zlx C P (.loop c) env h ex env' h' := by
 unfold Zw4 at hk
 rw [ZnV] at hk
 obtain ⟨⟨d, dh, π⟩, h1, h2⟩ := Zaj hk
 dsimp only at h2
 obtain ⟨b, h3, h4⟩ := Zaj h2
 obtain ⟨d', dh', π', e1, hp, hS⟩ := ZlF h1
 injection e1 with e1
 injection e1 with e1 e2
 injection e2 with e2 e3
 subst e1 e2 e3
 obtain ⟨n0, hn0⟩ := ZjC h3
 obtain ⟨ex, slots, vs, ht, hb⟩ := Znf (C := C) E.os b
 rw [hb, ZbG, Zbr] at h4
 refine ⟨ex, _, _, h4, fun O ρ e σ hs => ?_⟩
 obtain ⟨s1, s2, s3⟩ := hS ρ σ _ (ZqO hs.env E.slots) hs.hp
 have hlen : (Zed C E.hs dh').length = E.hs.length := Zcb _ _
 have hloop : ZaJ P O (.loop c) (fun ex' e' σ' => ex' = ex /\ ∃ ρ', SVs C ht.length ρ' vs (slots.map e') /\ Hp C ρ' ht σ' /\ Rel (fun _ => True) (ZcF π' ρ) (Zed C E.hs dh') σ ρ' ht σ') e σ := by
  refine ⟨fun n e1 σ1 => ∃ (a : VsD T E.vs × HsD T E.hs) (ρ1 : Nat -> AV), Zil E.step n a = some b /\ Sat C ρ1 (ZAF E.slots (ZkY C E.vs a.1)) (Zed C E.hs a.2) e1 σ1 /\ ZBm (ZdH E.hs) (ZcF π' ρ) (Zed C E.hs dh') σ ρ1 (Zed C E.hs a.2) σ1, n0, ⟨(d', dh'), ZcF π' ρ, hn0, ⟨Zk0 _ _ (by rw [hlen]; exact s1), s2⟩, ⟨fun _ _ => rfl, .refl _ _, fun _ hb => .inl hb⟩⟩, ?_⟩
  rintro n e1 σ1 ⟨a, ρ1, hn, hs1, hR⟩
  cases n with
  | zero => cases hn
  | succ n =>
   have hobj : ∀ i, ZdH E.hs i = true -> i < (Zed C E.hs a.2).length := fun i hi => by
    have := ZuR hi
    rw [Zcb]
    exact this
   have hst := hstep a
   unfold Zil at hn
   split at hn
   ·cases hn
   ·-- another round
    rename_i a' ha'
    rw [ha'] at hst
    obtain ⟨ex1, env1, h1', k1, t1⟩ := Zca hO c _ _ _ hL hst
    refine ZaR ?_ (t1 O ρ1 e1 σ1 hs1)
    rintro ex' e2 σ2 ⟨rfl, ρ2, hs2, hR2⟩
    have hR3 := hR.step s2 hR2 hobj
    unfold ZCW at k1
    cases hx : Zw3 ex' .normal
    ·rw [hx] at k1
     simp only [cond_false] at k1
     obtain ⟨q, q1, _⟩ := ZnX dh' k1
     injection q1 with q1; cases q1
    ·rw [hx] at k1
     have := ZqN hx
     subst this
     simp only [cond_true] at k1
     obtain ⟨d2, π1, g1, g2, g3, g4⟩ := Zna k1
     obtain ⟨dh2, π2, w1, w2, w3, w4, w5⟩ := ZgN g1
     injection w1 with w1
     injection w1 with w1
     subst w1
     have hI2 := w3 (g3 (ZnR E.hs))
     have hM2 : ∀ i x, ZaP π2 i = some x -> i < E.hs.length := fun i x hx => (Ze8 w4 hx).1
     obtain ⟨u1, u2⟩ := w5 π2 ρ2 σ2 hI2 (.refl _) hM2 hs2.hp
     have u3 := g4 h1'.length E.hs.length π2 ρ2 _ w2 hM2 (ZqO hs2.env E.slots)
     refine ⟨n, Nat.lt_succ_self n, (d2, dh2), ZcF π2 ρ2, hn, ⟨Zk0 _ _ (by rw [Zcb]; exact u3), u1⟩, ⟨fun i hi => ?_, hR3.but, fun b' hb' => ?_⟩⟩
     ·have hl := Znd E.hs i 0 hi
      rw [Nat.zero_add] at hl
      have hl2 := w2 _ _ (g2 _ _ hl)
      have : ZcF π2 ρ2 i = ρ2 i := by unfold ZcF; rw [hl2]
      rw [this]
      exact hR3.ext i hi
     ·obtain ⟨i, x, e1', e2', e3'⟩ := hb'
      obtain ⟨j, y, v1, v2, v3, v4⟩ := u2 i x b' e1' e2' e3'
      exact hR3.born b' ⟨j, y, v2, v3, v4⟩
   ·-- out
    rename_i b' hb'
    injection hn with hn
    subst hn
    rw [hb'] at hst
    obtain ⟨ex1, env1, h1', k1, t1⟩ := Zca hO c _ _ _ hL hst
    refine ZaR ?_ (t1 O ρ1 e1 σ1 hs1)
    rintro ex' e2 σ2 ⟨rfl, ρ2, hs2, hR2⟩
    have hR3 := hR.step s2 hR2 hobj
    unfold ZCW at k1
    cases hx : Zw3 ex' .normal
    ·rw [hx] at k1
     simp only [cond_false] at k1
     obtain ⟨q, q1, slots2, vs2, ht2, q2, q3⟩ := ZnX dh' k1
     injection q1 with q1
     injection q1 with q1
     subst q1
     have e4 := (q2 _ (fun a b c d => some (a, b, c, d))).symm.trans (hb _ (fun a b c d => some (a, b, c, d)))
     injection e4 with e4
     injection e4 with e4 e5
     injection e5 with e5 e6
     injection e6 with e6 e7
     subst e4 e5 e6 e7
     have := q3 (ZcF π' ρ) σ ρ2 e2 σ2 hs2 hR3
     cases ex' with
     | normal => cases hx
     | _ => exact ⟨rfl, this⟩
    ·rw [hx] at k1
     simp only [cond_true] at k1
     obtain ⟨d2, π1, g1, g2, g3, g4⟩ := Zna k1
     obtain ⟨dh2, π2, w1, _⟩ := ZgN g1
     injection w1 with w1; cases w1
 refine ZaR ?_ hloop
 rintro ex' e' σ' ⟨rfl, ρ1, g1, g2, g3⟩
 obtain ⟨ρ', q1, q2, q3⟩ := ZCT hlen hp hs.hp g2 g3 s3
 exact ⟨rfl, ρ', ⟨Zk0 _ _ (ZrN q1 g1), q2⟩, q3.mono fun _ _ => trivial⟩
end
end Go.Proofs.YteempnebenjkmaaGreatDoor
namespace Go.Proofs.YteempnebenjkmaaGreatDoor
open Go.RowKit
set_option maxRecDepth 100000
set_option linter.unusedVariables false
variable {T : Nat -> Type} {A : Type}
def Zcf (fn : Func) : Code := fn.body.getD .skip
def ZkJ (c : Code) (i : Nat) : Code := (ZbB c).getD i .skip
def ZlI {C : ZaA T} {P : Program} (E : LE C P) (c : Code) : Prop := ∀ (A : Type) (env : XE T) (h : List (HI T)) (k : XK T A) (z : A), Zw4 E env h k = some z -> ∃ ex env' h', k ex env' h' = some z /\ Zlx C P (.loop c) env h ex env' h'
section
variable {C : ZaA T} {P : Program}
theorem Ze3 {tbl : List (LE C P)} {c : Code} {E : LE C P} (he : Zzg tbl (ZiE c) = some E) (hok : ZlI E c) : (Zbj tbl : Lps T A).Ok C P c := by
 intro env h k z hk
 unfold Zbj at hk
 rw [he] at hk
 exact hok A env h k z hk
theorem ZcG {lps : Lps T A} {c : Code} {n : Nat} (hn : (ZbB c).length = n) (h : ∀ i, i < n -> lps.Ok C P (ZkJ c i)) : ∀ l ∈ ZbB c, lps.Ok C P l := by
 intro l hl
 obtain ⟨i, hi, he⟩ := List.mem_iff_getElem.1 hl
 have := h i (by omega)
 unfold ZkJ at this
 rw [List.getD_eq_getElem?_getD, List.getElem?_eq_getElem hi, he] at this
 exact this
theorem ZbP {lps : Lps T A} {fn : Func} (h : ∀ l ∈ ZbB (Zcf fn), lps.Ok C P l) : ∀ c, fn.body = some c -> ∀ l ∈ ZbB c, lps.Ok C P l := by
 intro c hc
 unfold Zcf at h
 rw [hc] at h
 exact h
theorem Zbc {lps : Lps T A} {c : Code} (hn : (ZbB c).length = 0) : ∀ l ∈ ZbB c, lps.Ok C P l := ZcG hn fun i hi => absurd hi (Nat.not_lt_zero i)
end
end Go.Proofs.YteempnebenjkmaaGreatDoor
namespace Go.Proofs.YteempnebenjkmaaGreatDoor
open Go.RowKit
set_option maxRecDepth 100000
set_option linter.unusedVariables false
variable {T : Nat -> Type}
section
variable {C : ZaA T} {P : Program}
theorem ZrR {ρ : Nat -> AV} {h : List (HI T)} {σ τ : St} {E : Nat} {xs : List (T E)} {e sz : Nat} {v : AV} {cells : List AV} (H : Hp C ρ h σ) (hX : Ext σ τ) (ho : Own τ e sz v xs.length cells) (hl : xs.length <= 140737488355328) (hc : ∀ N ρ, SVs C N ρ (xs.flatMap (C.enc E)) cells) (hv : ∀ g, v.owns g -> σ.blk g = none /\ ¬ σ.used g) :
 ∃ ρ', SV C (h ++ [HI.row e sz]).length ρ' (.sl E xs (some h.length)) v /\ Hp C ρ' (h ++ [.row e sz]) τ /\ Rel (fun _ => True) ρ h σ ρ' (h ++ [.row e sz]) τ := by
 obtain ⟨g1, g2⟩ := H.newRow (U := fun _ => True) hX ho hv
 exact ⟨_, ZfK.2 ⟨(ZaD _ _ _).symm, by simp, Zux ho hl (hc _ _)⟩, g1, g2⟩
theorem Zw5 {f : FuncId} {fn : Func} {t e t' t0 t1 tb t2 t3 t4 t5 t6 : TypeId} {p0 p1 p2 p3 p4 p5 p6 p7 : String} {a0 a1 a2 a3 a4 a5 a6 a7 : Array Edge} {i0 i1 i2 i3 : Nat} {zv : Value} {sz by_ E : Nat}
 (hm : P.follows .mixedOrders = true) (hf : P.funcs[f]? = some fn) (hok : ZAE P fn 1 = true) (hr : fn.results = #[.tmp 2])
 (hb : fn.body = some (.seq (.region i0 #[⟨some 2, .assign (.const (.slice none 0 0)), t0, p0, a0, none⟩] false) (.seq (.seq (.region i1 #[⟨some 3, .move (.tmp 0), t1, p1, a1, none⟩, ⟨some 4, .binOp .eql t (.tmp 3) (.const (.slice none 0 0)) t', tb, p2, a2, none⟩] false) (.cond (.tmp 4) (.seq (.region i2 #[⟨some 2, .assign (.const (.slice none 0 0)), t2, p3, a3, none⟩] false) .ret) .skip)) (.seq (.region i3 #[⟨some 5, .buildSlice t 0 #[], t3, p4, a4, none⟩, ⟨some 6, .move (.tmp 0), t4, p5, a5, none⟩, ⟨some 7, .call ⟨.builtin .append, #[.tmp 5, .tmp 6], #[t, t]⟩, t5, p6, a6, none⟩, ⟨some 2, .assign (.tmp 7), t6, p7, a7, none⟩] false) .ret))))
 (he : Zar P t = some e) (hsz : Zav P e = some sz) (hz : ZaS P e = some zv) (hby : Zb5 P e = some by_) (hzs : zv.cells.size = sz) (hE : sz = C.sz E)
 (xs : List (T E)) (hroom : xs.length <= 140737488355328 /\ xs.length * by_ <= 140737488355328) : Tr C P (fun _ => True) f [.sl E xs none] [] (.sl E xs (some 0)) [.row e sz] := by
 intro ρ σ vs hs H
 obtain ⟨a, rfl, h3⟩ := ZeG.1 hs
 obtain ⟨A, c, cs, rest, rfl, l1, l2, l3, l4, l5⟩ := Zb8.1 h3
 unfold ZAE at hok
 rw [hb] at hok
 simp only [Bool.and_eq_true] at hok
 obtain ⟨⟨o1, o2⟩, o3⟩ := hok
 have hlen := l5.len
 rw [Zcl] at hlen
 have hpos := C.pos E
 have hres : fn.results.toList = [.tmp 2] := by rw [hr]
 refine Zas hm hf hb o2 o1 (Nat.le_of_ble_eq_true o3) ?_
 refine Zaa (Zad (ZkW rfl (Zae ?_)))
 refine Zab (Zaa (Zad (Zua rfl (Zad (ZwJ he rfl rfl (Zae ?_))))))
 refine ZaT rfl (fun hA => ?_) (fun hA => ?_)
 ·refine Zab (Zaa (Zad (ZkW rfl (Zae (Zfo ?_)))))
  cases A with
  | some ad => cases hA
  | none =>
   have hx : xs = [] := List.eq_nil_of_length_eq_zero (l4 rfl).1
   subst hx
   refine ZnI hres (Za4 rfl) ?_
   exact ZrR (xs := ([] : List (T E))) (e := e) (sz := sz) (cells := []) H (Ext.refl _) ⟨by simp, .inl ⟨rfl, rfl⟩⟩ (Nat.zero_le _) (fun _ _ => .none) (fun g hg => by cases hg)
 ·refine Za6 (Zaa (Zad (Zkh (vs := []) (cells := []) rfl he hsz hz hzs (by omega) (by simp [ZdD]) fun b hu hn => ?_)))
  refine Zad (Zua rfl ?_)
  have htk : (cs ++ rest).take (xs.length * sz) = cs := by rw [List.take_append_of_le_length (by rw [hlen, hE]; omega), List.take_of_length_le (by rw [hlen, hE]; omega)]
  have hown : Own (σ.put b (.tail e (0 * sz) (0 * sz))) e sz (.lst (some ⟨b, 0, none⟩) 0 0 []) 0 [] := ⟨by simp, .inr ⟨b, 0, rfl, Nat.le_refl _, Nat.zero_le _, ZaW _ _ _, .inr rfl⟩⟩
  refine Zad (ZwI (v := .lst (some ⟨b, 0, none⟩) 0 0 []) (n := 0) (cells := []) (m := xs.length) (cb := c) (news := cs ++ rest) (B := A) rfl rfl he hsz hz hby hzs (by omega) hown (by rw [List.length_append, hlen, hE]; omega) (by rw [htk]; exact l5.ones fun v hv => Zew (ZcA xs v hv)) (by unfold maxLen; omega) (by rw [Nat.zero_add]; exact hroom.2) fun v' τ ho ha => ?_)
  rw [htk, List.nil_append, Nat.zero_add] at ho
  refine Zad (ZkW rfl (Zae (ZaZ ?_)))
  refine ZnI hres (Za4 rfl) ?_
  have hX : Ext σ τ := But.ext (S := fun x => x = b) (Ext.put _ hn) (fun x hx => by subst hx; exact hn) ⟨fun x k hx hk => ha.keep x k (fun e => hx (by injection e with e; exact e.symm)) hk, ha.used⟩
  refine ZrR (cells := cs) H hX ho hroom.1 (fun N ρ => l5.shut (ZcA xs)) fun g hg => ?_
  obtain ⟨B', c', rfl, _⟩ := ho.form
  change (AV.lst B' xs.length c' cs).owns g at hg
  have hg := ZnN hg
  rcases ha.new with h1 | ⟨g', h1, h2, h5, _⟩
  ·rw [h1] at hg
   injection hg with hg
   change b = g at hg
   subst hg
   exact ⟨hn, hu⟩
  ·rw [h1] at hg; injection hg with hg; subst hg
   refine ⟨?_, fun hq => h5 (.inl hq)⟩
   cases hq : σ.blk g' with
   | none => rfl
   | some k =>
    rw [Zaz _ _ (by rintro rfl; rw [hn] at hq; cases hq), hq] at h2
    cases h2
end
end Go.Proofs.YteempnebenjkmaaGreatDoor
