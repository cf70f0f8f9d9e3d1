/- XX7, XX8, XX9, XX10, XX11, XX12, XX13, XX14, XX15, XX16 in one. -/
import Derived.Test.YteempnebenjkmaaDoorMb
namespace Go.Proofs.YteempnebenjkmaaDoor
open Go.RowKit
set_option linter.unusedSimpArgs false
set_option maxRecDepth 100000
set_option linter.unusedVariables false
variable {T : Nat -> Type} {A : Type}
section
variable {U : Nat -> Prop} {C : Zaw T} {N : Nat} {ρ : Nat -> AV} {P : Program} {h : List (HI T)} {d : Option Nat} {ty t : TypeId} {pos : String} {af : Array Edge} {g : Option (Nat × Bool)} {z : A} {orc : Orc T A} {k : XV T -> List (HI T) -> Option A} {vs : List (XV T)}
theorem Zrl {σ : St} {K : AV -> St -> Prop} {x y : Operand} {e : TypeId} {v : AV} {n m cb sz bytes : Nat} {zv : Value} {cells news : List AV} {B : Option Addr} (ht : Zar P t = some e) (hs : Zax P e = some sz) (hz : ZaR P e = some zv) (hby : Zcl P e = some bytes) (hzs : zv.cells.size = sz) (hsz : 0 < sz)
 (hown : Own σ e sz v n cells) (hl : m * sz <= news.length) (h1 : ∀ c ∈ news.take (m * sz), c.one = true) (h63 : n + m <= maxLen) (hb : (n + m) * bytes <= 140737488355328)
 (hK : ∀ v' τ, Own τ e sz v' (n + m) (cells ++ news.take (m * sz)) -> App σ v τ v' -> K v' τ) : ZdP P ⟨d, .call ⟨.builtin .append, #[x, y], #[t, t]⟩, ty, pos, af, g⟩ [v, .lst B m cb news] σ K := by
 refine .inr ⟨rfl, fun ρ hρ w Z hH hV => ?_⟩
 have hρ' := hρ
 simp [Op.operands, Call.operands] at hρ'
 obtain ⟨v', σ', w', hr, h2, h3, h4, h5, h6⟩ := Zna (ty := ty) (B := B) (m := m) (cb := cb) (news := news) hH (hV v (by simp)) (hV (.lst B m cb news) (by simp)) ht hs hz hby hzs hsz hown hl h1 h63 hb
 refine ⟨v', σ', w', .inl ?_, hK v' σ' h2 h3, h4, h5, h6⟩
 simp [execOp, resolve, invoke, builtin, hρ', hr]
theorem ZtI (A : Option Addr) (n c : Nat) (l : List AV) : (AV.lst A n c l).blk = (AV.lst A n c l).blkO := by cases A <;> rfl
theorem ZnS {A : Option Addr} {n c : Nat} {l : List AV} {g : Nat} (h : (AV.lst A n c l).owns g) : (AV.lst A n c l).blk = some g := (ZtI A n c l).trans h
theorem ZtJ {τ : St} {e sz E : Nat} {v : AV} {xs : List (T E)} {cells : List AV} (ho : Own τ e sz v xs.length cells) (hl : xs.length <= 140737488355328) (hc : SVs C N ρ (xs.flatMap (C.enc E)) cells) : SV C N ρ (.sl E xs none) v := by
 obtain ⟨B, c, rfl, l1, l2, l3⟩ := ho.form
 exact ZcG.2 ⟨B, c, cells, [], by simp, l1, l2, hl, l3, hc⟩
theorem Zss {x y : XV T} {ox oy : Operand} (hU0 : ∀ E xs r, x = .sl E xs (some r) -> U r) (hk : Zqk C P t x y h k = some z) : Zbr C P U ⟨d, .call ⟨.builtin .append, #[ox, oy], #[t, t]⟩, ty, pos, af, g⟩ [x, y] h k z := by
 unfold Zqk at hk
 split at hk
 ·cases hk
 rename_i e he
 split at hk
 rotate_left
 ·cases hk
 rename_i sz zv by_ hsz hz hby
 split at hk
 rotate_left
 ·cases hk
 rename_i hzs
 have hzs := Nat.eq_of_beq_eq_true hzs
 split at hk
 ·-- nil
  rename_i E ys oy_
  split at hk
  rotate_left
  ·cases hk
  rename_i e1
  have e1 := Nat.eq_of_beq_eq_true e1
  split at hk
  rotate_left
  ·cases hk
  rename_i hroom
  rw [Za4] at hk
  refine ⟨_, _, hk, fun ρ σ as_ hs H => ?_⟩
  obtain ⟨a, b, rfl, h3, h4⟩ := Zf0.1 hs
  rw [ZdJ.1 h3]
  obtain ⟨B, c, cs, rest, rfl, l1, l2, l3, l4, l5⟩ := ZeP h4
  have hlen := l5.len
  rw [Zcc] at hlen
  have htk : (cs ++ rest).take (ys.length * sz) = cs := by rw [List.take_append_of_le_length (by rw [hlen, e1]; omega), List.take_of_length_le (by rw [hlen, e1]; omega)]
  have hpos := C.pos E
  refine Zrl he hsz hz hby hzs (by omega) (n := 0) (cells := []) ⟨by simp, .inl ⟨rfl, rfl⟩⟩ (by rw [List.length_append, hlen, e1]; omega) (by rw [htk]; exact l5.ones fun v hv => ZdR (Zb6 ys v hv)) (by unfold maxLen; omega) (by rw [Nat.zero_add]; exact hroom.2) fun v' τ ho ha => ?_
  rw [htk, List.nil_append, Nat.zero_add] at ho
  have hnew : ∀ g, v'.owns g -> σ.blk g = none /\ ¬ σ.used g := fun g hg => by
   obtain ⟨B', c', rfl, _⟩ := ho.form
   have hg := ZnS hg
   rcases ha.new with h1 | ⟨g', h1, h2, h5, _⟩
   ·rw [h1] at hg; cases hg
   ·rw [h1] at hg; injection hg with hg; subst hg; exact ⟨h2, h5⟩
  have hX : Ext σ τ := ⟨fun b x hx => ha.keep b x (by simp [AV.blk]) hx, ha.used⟩
  obtain ⟨g1, g2⟩ := H.newRow hX ho hnew
  refine ⟨_, ?_, g1, g2⟩
  exact ZfZ.2 ⟨(Zat _ _ _).symm, by simp, ZtJ ho hroom.1 (l5.shut (Zb6 ys))⟩
 ·-- ours
  rename_i E xs r E' ys oy_
  split at hk
  rotate_left
  ·cases hk
  rename_i hE
  subst hE
  have hU := hU0 _ _ _ rfl
  split at hk
  rotate_left
  ·cases hk
  rename_i e' sz' hr
  split at hk
  rotate_left
  ·cases hk
  rename_i hc
  obtain ⟨c1, c2, e1⟩ := hc
  have c1 := Nat.eq_of_beq_eq_true c1
  have c2 := Nat.eq_of_beq_eq_true c2
  have e1 := Nat.eq_of_beq_eq_true e1
  subst c1 c2
  split at hk
  rotate_left
  ·cases hk
  rename_i hroom
  rw [Za4] at hk
  refine ⟨_, _, hk, fun ρ σ as_ hs H => ?_⟩
  obtain ⟨a, b, rfl, h3, h4⟩ := Zf0.1 hs
  obtain ⟨rfl, hrN, h3⟩ := ZfZ.1 h3
  obtain ⟨n0, cells0, ho0⟩ := H.it r _ hr
  obtain ⟨A0, c0, cs0, rest0, ea, k1, k2, k3, k4, k5⟩ := ZcG.1 h3
  obtain ⟨A1, c1, ea1, _, _, _⟩ := ho0.form
  have hcl := ho0.1
  rw [ea] at ea1
  injection ea1 with i1 i2 i3 i4
  subst i1 i2 i3
  have hlen0 := k5.len
  rw [Zcc] at hlen0
  have hrest : rest0 = [] := by
   have := congrArg List.length i4
   rw [List.length_append, hlen0, hcl, e1] at this
   exact List.eq_nil_of_length_eq_zero (by omega)
  subst hrest
  rw [List.append_nil] at i4
  subst i4
  obtain ⟨B, c, cs, rest, rfl, l1, l2, l3, l4, l5⟩ := ZeP h4
  have hlen := l5.len
  rw [Zcc] at hlen
  have htk : (cs ++ rest).take (ys.length * sz') = cs := by rw [List.take_append_of_le_length (by rw [hlen, e1]; omega), List.take_of_length_le (by rw [hlen, e1]; omega)]
  have hpos := C.pos E'
  refine Zrl he hsz hz hby hzs (by omega) ho0 (by rw [List.length_append, hlen, e1]; omega) (by rw [htk]; exact l5.ones fun v hv => ZdR (Zb6 ys v hv)) (by unfold maxLen; omega) hroom.2 fun v' τ ho ha => ?_
  rw [htk] at ho
  have hblk : (ρ r).blk = (ρ r).blkO := by rw [ea]; exact ZtI _ _ _ _
  have hnew : ∀ g, v'.owns g -> (ρ r).owns g \/ (σ.blk g = none /\ ¬ σ.used g) := fun g hg => by
   obtain ⟨B', c', rfl, _⟩ := ho.form
   have hg := ZnS hg
   rcases ha.new with h1 | ⟨g', h1, h2, h5, _⟩
   ·rw [h1, hblk] at hg; exact .inl (by rw [ea] at hg ⊢; exact hg)
   ·rw [h1] at hg; injection hg with hg; subst hg; exact .inr ⟨h2, h5⟩
  have hX : But (fun b => (ρ r).owns b) σ τ := ha.but.more fun b hb => by rw [hblk] at hb; rw [ea] at hb ⊢; exact hb
  obtain ⟨g1, g2⟩ := H.grow hU hr hX ho hnew
  refine ⟨_, ?_, g1, g2⟩
  have hcs : SVs C h.length ρ ((xs ++ ys).flatMap (C.enc E')) (cs0 ++ cs) := by rw [List.flatMap_append]; exact k5.app l5
  have ho' : Own τ e' sz' v' (xs ++ ys).length (cs0 ++ cs) := by rw [List.length_append]; exact ho
  exact ZfZ.2 ⟨by rw [Zat], by simp, ZtJ ho' (by rw [List.length_append]; exact hroom.1) (hcs.shut (Zb6 _))⟩
 ·cases hk
theorem ZcJ {o : Oper} {r : XV T} (hk : k r h = some z) (hd : ∀ (as_ : List AV) σ (K : AV -> St -> Prop), as_.length = vs.length -> (∃ v, Zch P o as_ v /\ K (.raw v) σ) -> ZdP P o as_ σ K)
 (hr : ∀ ρ as_, SVs C h.length ρ vs as_ -> ∃ v, Zch P o as_ v /\ SV C h.length ρ r (.raw v)) : Zbr C P U o vs h k z :=
 ⟨r, h, hk, ZlF.same fun ρ σ as_ K hs H hK => by
  obtain ⟨v, h1, h2⟩ := hr ρ as_ hs
  exact hd as_ σ K hs.len ⟨v, h1, hK _ h2⟩⟩
theorem ZxU {op : BinOp} {ox oy : Operand} {ty' : TypeId} {x y : XV T} (hk : (ZAt P op t x y fun v => k v h) = some z) : Zbr C P U ⟨d, .binOp op t ox oy ty', ty, pos, af, g⟩ [x, y] h k z := by
 obtain ⟨r, h1, h2⟩ := Zsj hk
 refine ZcJ h1 (fun as_ σ K hl hp => ?_) (fun ρ as_ hs => ?_)
 ·match as_, hl with
  | [a, b], _ => exact .inl hp
 ·obtain ⟨a, b, rfl, h3, h4⟩ := Zf0.1 hs
  obtain ⟨v, h5, h6⟩ := h2 C _ ρ a b h3 h4
  refine ⟨v, fun ρ' hρ w _ _ => ?_, h6⟩
  simp [Op.operands] at hρ
  have := h5 w ox oy
  simp only [execOp]
  rw [hρ.1, hρ.2, Sem.run_bind, this]
  simp
theorem ZwZ {op : UnOp} {ox : Operand} {x r : XV T} (hk : k r h = some z) (hr : ∀ ρ a, SV C h.length ρ x a -> ∃ v, (∀ w : World, (Op.unary op a.val).run P w = .ok v w) /\ SV C h.length ρ r (.raw v)) : Zbr C P U ⟨d, .unOp op t ox, ty, pos, af, g⟩ [x] h k z := by
 refine ZcJ hk (fun as_ σ K hl hp => ?_) (fun ρ as_ hs => ?_)
 ·match as_, hl with
  | [a], _ => exact .inl hp
 ·obtain ⟨a, rfl, h3⟩ := ZeQ.1 hs
  obtain ⟨v, h5, h6⟩ := hr ρ a h3
  refine ⟨v, fun ρ' hρ w _ _ => ?_, h6⟩
  simp [Op.operands] at hρ
  simp only [execOp]
  rw [hρ, Sem.run_bind, h5]
  simp
theorem Zvx {t' : TypeId} {ox : Operand} {x r : XV T} (hk : k r h = some z) (hr : ∀ ρ a, SV C h.length ρ x a -> ∃ v, (∀ w : World, (convert t t' a.val).run P w = .ok v w) /\ SV C h.length ρ r (.raw v)) : Zbr C P U ⟨d, .convert t t' ox, ty, pos, af, g⟩ [x] h k z := by
 refine ZcJ hk (fun as_ σ K hl hp => ?_) (fun ρ as_ hs => ?_)
 ·match as_, hl with
  | [a], _ => exact .inl hp
 ·obtain ⟨a, rfl, h3⟩ := ZeQ.1 hs
  obtain ⟨v, h5, h6⟩ := hr ρ a h3
  refine ⟨v, fun ρ' hρ w _ _ => ?_, h6⟩
  simp [Op.operands] at hρ
  simp only [execOp]
  rw [hρ, Sem.run_bind, h5]
  simp
theorem Zo0 {t' e : TypeId} {ox : Operand} {x : XV T} {bs : List UInt8} (hs : P.underlying t = some (.slice e)) (he : P.underlying e = some (.int .u8)) (hd : P.underlying t' = some .string) (hk : k (.str bs) h = some z)
 (hr : ∀ ρ a, SV C h.length ρ x a -> ∃ A n c cs rest, a = .lst A n c (cs ++ rest) /\ cs = bs.map (fun b => AV.raw (.int .u8 (b.toNat : Int))) /\ bs.length = n) : Zbr C P U ⟨d, .convert t t' ox, ty, pos, af, g⟩ [x] h k z := by
 refine ZcJ hk (fun as_ σ K hl hp => ?_) (fun ρ as_ hs' => ?_)
 ·match as_, hl with
  | [a], _ => exact .inl hp
 ·obtain ⟨a, rfl, h3⟩ := ZeQ.1 hs'
  obtain ⟨A, n, c, cs, rest, rfl, hcs, hn⟩ := hr ρ a h3
  refine ⟨.string ⟨bs.toArray⟩, fun ρ' hρ w B hv => ?_, Zb3.2 rfl⟩
  have hva := hv _ (List.mem_singleton.2 rfl)
  simp [Op.operands] at hρ
  have hfold : ∀ (l : List UInt8) (s : ByteArray), (l.map fun b => (b.toNat : Int)).foldl (fun r n => r.push (UInt8.ofNat n.toNat)) s = ⟨s.data ++ l.toArray⟩ := by
   intro l
   induction l with
   | nil => intro s; simp
   | cons b l ih => intro s; rw [List.map_cons, List.foldl_cons, ih]; simp [ByteArray.push]
  have hrun : (Conv.bytesToString (.slice A n c)).run P w = .ok (.string ⟨bs.toArray⟩) w := by
   cases A with
   | none =>
    unfold Zae at hva
    have h0 := (hva.2.1 rfl).1
    have : bs = [] := List.eq_nil_of_length_eq_zero (by omega)
    subst this
    unfold Conv.bytesToString
    simp [Sem.run_pure]
    rfl
   | some ad =>
    unfold Zae at hva
    have hat := hva.2.2 ad rfl
    have hl : (loadCells ad n).run P w = .ok ((bs.map fun b => (b.toNat : Int)).map (Value.int .u8)).toArray w := by
     have := run_loadCells_list (P := P) (w := w) ad ((bs.map fun b => (b.toNat : Int)).map (Value.int .u8)) (fun j v hj => by
      have hcj : cs[j]? = some (AV.raw v) := by
       rw [hcs, List.getElem?_map]
       rw [List.map_map, List.getElem?_map] at hj
       cases hb : bs[j]? with
       | none => rw [hb] at hj; cases hj
       | some b => rw [hb] at hj; injection hj with hj; subst hj; rfl
      have := (hat.get (i := j) (d := AV.raw v) (by rw [List.getElem?_append_left (Zaz hcj)]; exact hcj)).1
      rw [Nat.zero_add] at this
      rw [this]; simp)
     rw [<- hn]
     simpa using this
    rw [run_bytesToString w ad n c _ hl, hfold]
    congr 2
    simp
  simp only [execOp]
  rw [hρ, Sem.run_bind]
  have : (convert t t' (.slice A n c)).run P w = .ok (.string ⟨bs.toArray⟩) w := by
   simp only [convert, Sem.run_bind, run_underlying hs, run_underlying hd, run_underlying he, Result.andThen_ok]
   exact hrun
  rw [this]
  simp
theorem ZtK {α : Type} {xs : List α} {n : Int} {x : α} (h : ZhG xs n = some x) : 0 <= n /\ xs[n.toNat]? = some x := by
 unfold ZhG at h
 split at h
 ·exact ⟨‹_›, h⟩
 ·cases h
theorem ZtL {ox oy : Operand} {s : List UInt8} {ki : IntKind} {n : Int} {b : UInt8} (ht : P.underlying t = some .string) (hb : ZhG s n = some b) (hk : k (.int .u8 (b.toNat : Int)) h = some z) : Zbr C P U ⟨d, .index t ox oy, ty, pos, af, g⟩ [.str s, .int ki n] h k z := by
 obtain ⟨hn, hx⟩ := ZtK hb
 refine ZcJ hk (fun as_ σ K hl hp => ?_) (fun ρ as_ hs => ?_)
 ·match as_, hl with
  | [a, b], _ => exact .inl hp
 ·obtain ⟨a, c, rfl, h3, h4⟩ := Zf0.1 hs
  rw [Zb3.1 h3, Zan.1 h4]
  refine ⟨.int .u8 (b.toNat : Int), fun ρ' hρ w _ _ => ?_, Zan.2 rfl⟩
  simp [Op.operands] at hρ
  have hb' : (ByteArray.mk s.toArray)[n.toNat]? = some b := by
   have hlt := Zaz hx
   rw [List.getElem?_eq_getElem hlt] at hx
   injection hx with hx
   rw [getElem?_pos (ByteArray.mk s.toArray) n.toNat (by show n.toNat < s.toArray.size; simpa using hlt)]
   exact congrArg some hx
  simp only [execOp, hρ.1, hρ.2, Instr.index, asIntOf, Sem.run_bind, run_underlying ht, if_pos hn, hb', Sem.run_pure, Result.andThen_ok]
theorem Zrm {oc oa ob : Operand} {c : Bool} {a b r : XV T} (hk : k r h = some z) (hr : r = if c then a else b) : Zbr C P U ⟨d, .pick oc oa ob, ty, pos, af, g⟩ [.bool c, a, b] h k z := by
 refine ⟨_, _, hk, ZlF.same fun ρ σ as_ K hs H hK => ?_⟩
 obtain ⟨x, y, w, rfl, h1, h2, h3⟩ := ZBJ.1 hs
 rw [ZaU.1 h1]
 refine ⟨c, by simp, hK _ ?_⟩
 subst hr
 cases c
 ·exact h3
 ·exact h2
theorem ZlQ {x : Operand} {f off n : Nat} {l : List (Nat × Option Nat × Option Bool)} {b : Option Bool} {E i j o : Nat} (hl : Zbx P t = some l) (hf : l[f]? = some (off, some (n + 1), b)) (hk : k (.ap E i j (o + off)) h = some z) : Zbr C P U ⟨d, .fieldAddr t x f, ty, pos, af, g⟩ [.ap E i j o] h k z := by
 refine ⟨_, _, hk, fun ρ σ as_ hs H => ?_⟩
 obtain ⟨a, rfl, h3⟩ := ZeQ.1 hs
 obtain ⟨c, rfl, h4, h5⟩ := ZmM.1 h3
 exact ⟨l, off, n, b, hl, hf, ρ, by rw [ZbD]; exact ZmM.2 ⟨c, by rw [Nat.add_assoc]; rfl, h4, h5⟩, H, .refl _ _ _ _⟩
theorem Zqu {x y : Operand} {E i lo m sz : Nat} {co : Option Nat} {e : TypeId} {ki : IntKind} {n : Int} (he : Zar P t = some e) (hsz : Zax P e = some sz) (h1 : Nat.beq sz (C.sz E) = true) (hn : 0 <= n /\ n < (m : Int)) (hk : k (.ap E i (lo + n.toNat) 0) h = some z) : Zbr C P U ⟨d, .indexAddr t x y, ty, pos, af, g⟩ [.as E i lo m co, .int ki n] h k z := by
 have e1 := Nat.eq_of_beq_eq_true h1
 refine ⟨_, h, hk, ZlF.same fun ρ σ as_ K hs H hK => ?_⟩
 obtain ⟨a, b, rfl, h3, h4⟩ := Zf0.1 hs
 rcases ZbK.1 h3 with ⟨ad, c, rfl, hA⟩ | ⟨_, hm0, _⟩
 rotate_left
 ·omega
 rw [Zan.1 h4]
 obtain ⟨bb, q1, q2⟩ := hA.at_
 have hle := hA.le
 have had := q2 (by omega)
 subst had
 refine .inl ⟨.pointer (some ⟨bb, (lo + n.toNat) * sz, none⟩), fun ρ' hρ w _ _ => ?_, hK _ (ZmM.2 ⟨bb, by rw [Nat.add_zero, e1]; rfl, hA.lt, _, q1, by omega⟩)⟩
 simp [Op.operands] at hρ
 have hj : n = ((n.toNat : Nat) : Int) := by omega
 have hr := Zir (P := P) (w := w) (ad := ⟨bb, lo * C.sz E, none⟩) (n := m) (c := c) (k := ki) (j := n.toNat) he hsz (by omega)
 rw [<- hj] at hr
 simp only [execOp, hρ.1, hρ.2, Sem.run_bind, hr, Result.andThen_ok, Sem.run_pure]
 rw [e1, ZbD, Nat.add_mul]
theorem ZkI {n : Int} {i o sz : Nat} {h : List (HI T)} {k : XV T -> List (HI T) -> Option A} : ∀ {r j : Nat}, ZoV n i o sz h k r j = some z -> ∃ j', j <= j' /\ j' < j + r /\ n = (j' : Int) /\ k (.ptr i (o + j' * sz)) h = some z
 | 0, _, hk => by cases hk
 | r + 1, j, hk => by
  unfold ZoV at hk
  split at hk
  ·rename_i hn
   exact ⟨j, Nat.le_refl _, by omega, hn, hk⟩
  ·obtain ⟨j', h1, h2, h3, h4⟩ := ZkI hk
   exact ⟨j', by omega, by omega, h3, h4⟩
theorem Zo1 {x y : Operand} {i o len sz : Nat} {e : TypeId} {ki : IntKind} {n : Int} (he : Ztx P t = some (len, e)) (hsz : Zax P e = some sz) (hk : ZoV n i o sz h k len 0 = some z) : Zbr C P U ⟨d, .indexAddr t x y, ty, pos, af, g⟩ [.ptr i o, .int ki n] h k z := by
 obtain ⟨j, _, hj, hnj, hk2⟩ := ZkI hk
 clear hk
 subst hnj
 refine ⟨_, h, hk2, ZlF.same fun ρ σ as_ K hs H hK => ?_⟩
 obtain ⟨a, b, rfl, h3, h4⟩ := Zf0.1 hs
 obtain ⟨c, rfl, h5, h6⟩ := Zdl.1 h3
 rw [Zan.1 h4]
 refine .inl ⟨.pointer (some ⟨c, o + j * sz, none⟩), fun ρ' hρ w _ _ => ?_, hK _ (Zdl.2 ⟨c, rfl, h5, h6⟩)⟩
 simp [Op.operands, ptr] at hρ
 have hu : P.underlying t = some (.array len e) := by
  unfold Ztx at he
  split at he
  ·rename_i n' e' hq
   injection he with he
   injection he with h1 h2
   subst h1 h2
   exact hq
  ·cases he
 have hr : (Instr.indexAt t (.pointer (some ⟨c, o, none⟩)) (.int ki (j : Int))).run P w = .ok (.pointer (some ⟨c, o + j * sz, none⟩)) w := by
  have hjl : j < len := by omega
  have ha := ZbD c o (j * sz)
  simp [Instr.indexAt, asIntOf, run_underlying hu, ZbG hsz, Instr.sureAddr, hjl, ha]
 simp only [execOp, hρ.1, hρ.2, Sem.run_bind, hr, Result.andThen_ok, Sem.run_pure]
theorem Zo2 {x hi mx : Operand} {lo : Option Operand} {E i a0 n0 : Nat} {co : Option Nat} {ix : List (XV T)} (hk : (ZxG C P t lo.isSome E n0 co ix fun v => k v h) = some z) : Zbr C P U ⟨d, .slice t x lo (some hi) (some mx), ty, pos, af, g⟩ (.as E i a0 n0 co :: ix) h k z := by
 unfold ZxG at hk
 split at hk
 rotate_left
 ·cases hk
 rename_i e he
 split at hk
 rotate_left
 ·cases hk
 rename_i sz hsz
 split at hk
 rotate_left
 ·cases hk
 rename_i h1
 split at hk
 rotate_left
 ·cases hk
 rename_i l u m hends
 split at hk
 rotate_left
 ·cases hk
 rename_i hb
 obtain ⟨b1, b2, b3, b4⟩ := hb
 refine ⟨_, h, hk, ZlF.same fun ρ σ as_ K hs H hK => ?_⟩
 obtain ⟨a, bs, rfl, h3, h4⟩ := hs.to
 have hse : ∀ n c, ZbQ n c lo.isSome (some hi).isSome (some mx).isSome bs l.toNat u.toNat m.toNat := fun n c => by
  generalize lo.isSome = bl at hends ⊢
  unfold Zrf at hends
  split at hends
  ·injection hends with hends; injection hends with f1 f2; injection f2 with f2 f3; subst f1 f2 f3
   obtain ⟨b, b', rfl, h5, h6⟩ := Zf0.1 h4
   rw [Zan.1 h5, Zan.1 h6]
   exact ⟨rfl, ⟨_, (AV.val_raw _).trans (congrArg (Value.int _) (Int.toNat_of_nonneg (by omega)).symm)⟩, ⟨_, (AV.val_raw _).trans (congrArg (Value.int _) (Int.toNat_of_nonneg (by omega)).symm)⟩⟩
  ·injection hends with hends; injection hends with f1 f2; injection f2 with f2 f3; subst f1 f2 f3
   obtain ⟨b, bs', rfl, h5, h6⟩ := h4.to
   obtain ⟨b', b'', rfl, h7, h8⟩ := Zf0.1 h6
   rw [Zan.1 h5, Zan.1 h7, Zan.1 h8]
   exact ⟨⟨_, (AV.val_raw _).trans (congrArg (Value.int _) (Int.toNat_of_nonneg (by omega)).symm)⟩, ⟨_, (AV.val_raw _).trans (congrArg (Value.int _) (Int.toNat_of_nonneg (by omega)).symm)⟩, ⟨_, (AV.val_raw _).trans (congrArg (Value.int _) (Int.toNat_of_nonneg (by omega)).symm)⟩⟩
  ·cases hends
 rcases ZbK.1 h3 with ⟨ad, c, rfl, hA⟩ | ⟨rfl, hn0, hiN, hρi, hco⟩
 ·have hcu : m.toNat <= c := by
   have := hA.le
   cases co with
   | none => rw [Option.getD_none] at b4; omega
   | some c' => have := hA.cap c' rfl; rw [Option.getD_some] at b4; omega
  refine ⟨.slice (if m.toNat = l.toNat then (some ad : Option Addr) else (some ad).map (·.add (l.toNat * sz))) (u.toNat - l.toNat) (m.toNat - l.toNat), fun ρ' hρ w _ _ => ?_, hK _ Zby⟩
  have hρ' : ρ' x = .slice (some ad) n0 c /\ (lo.toArray ++ (some hi).toArray ++ (some mx).toArray).toList.map ρ' = bs.map AV.val := by
   simp [Op.operands] at hρ ⊢
   exact hρ
  have hr := Zgu (P := P) (w := w) (A := some ad) he hsz hρ'.2 (hse n0 c) (by omega) (by omega) hcu
  simp only [execOp, hρ'.1, Sem.run_bind, hr, Result.andThen_ok, Sem.run_pure]
 ·have hm0 : m.toNat = 0 := by
   cases co with
   | none => rw [Option.getD_none] at b4; omega
   | some c' => have := hco c' rfl; rw [Option.getD_some] at b4; omega
  exact ⟨e, sz, he, hsz, l.toNat, u.toNat, m.toNat, hse _ _, by omega, by omega, by omega, hK _ Zby⟩
theorem Zqv {x : Operand} {lo hi : Option Operand} {E i a0 n0 : Nat} {co : Option Nat} {ix : List (XV T)} (hk : (ZAU C P t lo.isSome hi.isSome (.as E i a0 n0 co) ix fun v => k v h) = some z) : Zbr C P U ⟨d, .slice t x lo hi none, ty, pos, af, g⟩ (.as E i a0 n0 co :: ix) h k z := by
 unfold ZAU at hk
 dsimp only at hk
 ·split at hk
  ·rename_i e he
   split at hk
   ·rename_i sz hsz
    split at hk
    ·rename_i h1
     have e1 := Nat.eq_of_beq_eq_true h1
     split at hk
     ·rename_i l u hends
      split at hk
      ·rename_i hb
       obtain ⟨b1, b2, b3, b4⟩ := hb
       refine ⟨_, h, hk, ZlF.same fun ρ σ as_ K hs H hK => ?_⟩
       obtain ⟨a, bs, rfl, h3, h4⟩ := hs.to
       rcases ZbK.1 h3 with ⟨ad, c, rfl, hA⟩ | ⟨rfl, hn0, hiN, hρi, hco⟩
       rotate_left
       ·have hlu : l.toNat = 0 /\ u.toNat = 0 := by
         cases co with
         | none => rw [Option.getD_none] at b3; omega
         | some c' => have := hco c' rfl; rw [Option.getD_some] at b3; omega
        subst hn0
        refine ⟨e, sz, he, hsz, 0, 0, 0, ?_, Nat.le_refl _, Nat.le_refl _, Nat.le_refl _, ?_⟩
        ·have hse : ZbQ 0 0 lo.isSome hi.isSome (none : Option Operand).isSome bs l.toNat u.toNat 0 := by
          generalize lo.isSome = bl at hends ⊢
          generalize hi.isSome = bh at hends ⊢
          unfold Zqi at hends
          split at hends
          ·injection hends with hends; injection hends with f1 f2; subst f1 f2
           rw [Zbd] at h4; subst h4
           exact ⟨rfl, by simp, rfl⟩
          ·injection hends with hends; injection hends with f1 f2; subst f1 f2
           obtain ⟨b, rfl, h5⟩ := ZeQ.1 h4
           rw [Zan.1 h5]
           exact ⟨⟨_, (AV.val_raw _).trans (congrArg (Value.int _) (Int.toNat_of_nonneg (by omega)).symm)⟩, by simp, rfl⟩
          ·injection hends with hends; injection hends with f1 f2; subst f1 f2
           obtain ⟨b, rfl, h5⟩ := ZeQ.1 h4
           rw [Zan.1 h5]
           exact ⟨rfl, ⟨_, (AV.val_raw _).trans (congrArg (Value.int _) (Int.toNat_of_nonneg (by omega)).symm)⟩, rfl⟩
          ·injection hends with hends; injection hends with f1 f2; subst f1 f2
           obtain ⟨b, b', rfl, h5, h6⟩ := Zf0.1 h4
           rw [Zan.1 h5, Zan.1 h6]
           exact ⟨⟨_, (AV.val_raw _).trans (congrArg (Value.int _) (Int.toNat_of_nonneg (by omega)).symm)⟩, ⟨_, (AV.val_raw _).trans (congrArg (Value.int _) (Int.toNat_of_nonneg (by omega)).symm)⟩, rfl⟩
          ·cases hends
         rw [hlu.1, hlu.2] at hse
         exact hse
        ·refine hK _ (ZbK.2 (.inr ⟨by simp, by omega, hiN, hρi, fun c' hc' => ?_⟩))
         cases co with
         | none => cases hc'
         | some c0 => injection hc' with hc'; have := hco c0 rfl; dsimp only at hc'; omega
       have hle := hA.le
       have hcu : u.toNat <= c := by
        cases co with
        | none => rw [Option.getD_none] at b3; omega
        | some c' => have := hA.cap c' rfl; rw [Option.getD_some] at b3; omega
       have hse : ZbQ n0 c lo.isSome hi.isSome (none : Option Operand).isSome bs l.toNat u.toNat c := by
        generalize lo.isSome = bl at hends ⊢
        generalize hi.isSome = bh at hends ⊢
        unfold Zqi at hends
        split at hends
        ·injection hends with hends; injection hends with f1 f2; subst f1 f2
         rw [Zbd] at h4; subst h4
         exact ⟨rfl, by simp, rfl⟩
        ·injection hends with hends; injection hends with f1 f2; subst f1 f2
         obtain ⟨b, rfl, h5⟩ := ZeQ.1 h4
         rw [Zan.1 h5]
         exact ⟨⟨_, (AV.val_raw _).trans (congrArg (Value.int _) (Int.toNat_of_nonneg (by omega)).symm)⟩, by simp, rfl⟩
        ·injection hends with hends; injection hends with f1 f2; subst f1 f2
         obtain ⟨b, rfl, h5⟩ := ZeQ.1 h4
         rw [Zan.1 h5]
         exact ⟨rfl, ⟨_, (AV.val_raw _).trans (congrArg (Value.int _) (Int.toNat_of_nonneg (by omega)).symm)⟩, rfl⟩
        ·injection hends with hends; injection hends with f1 f2; subst f1 f2
         obtain ⟨b, b', rfl, h5, h6⟩ := Zf0.1 h4
         rw [Zan.1 h5, Zan.1 h6]
         exact ⟨⟨_, (AV.val_raw _).trans (congrArg (Value.int _) (Int.toNat_of_nonneg (by omega)).symm)⟩, ⟨_, (AV.val_raw _).trans (congrArg (Value.int _) (Int.toNat_of_nonneg (by omega)).symm)⟩, rfl⟩
        ·cases hends
       have hval : ∀ A' : Option Addr, (if c = l.toNat then (some ad : Option Addr) else (some ad).map (·.add (l.toNat * sz))) = some (if c = l.toNat then ad else ad.add (l.toNat * sz)) := fun _ => by split <;> rfl
       have hsv : SV C h.length ρ (.as E i (a0 + l.toNat) (u.toNat - l.toNat) (co.map (· - l.toNat))) (.raw (.slice (some (if c = l.toNat then ad else ad.add (l.toNat * sz))) (u.toNat - l.toNat) (c - l.toNat))) := by
        refine ZbK.2 (.inl ⟨_, _, rfl, hA.lt, by omega, ?_, by omega, ?_, fun c' hc' => ?_⟩)
        ·have := hA.max; omega
        ·obtain ⟨bb, q1, q2⟩ := hA.at_
         refine ⟨bb, by rw [q1]; congr 1; omega, fun hc => ?_⟩
         rw [if_neg (by omega), q2 (by omega), ZbD, e1, Nat.add_mul]
        ·cases co with
         | none => cases hc'
         | some c0 =>
          injection hc' with hc'
          have := hA.cap c0 rfl
          dsimp only at hc'
          omega
       refine ⟨_, fun ρ' hρ w _ _ => ?_, hK _ hsv⟩
       have hρ' : ρ' x = .slice (some ad) n0 c /\ (lo.toArray ++ hi.toArray ++ (none : Option Operand).toArray).toList.map ρ' = bs.map AV.val := by
        simp [Op.operands] at hρ ⊢
        exact hρ
       have hr := Zgu (P := P) (w := w) (A := some ad) he hsz hρ'.2 hse (by omega) hcu (Nat.le_refl _)
       rw [hval none] at hr
       simp only [execOp, hρ'.1, Sem.run_bind, hr, Result.andThen_ok, Sem.run_pure]
      ·cases hk
     ·cases hk
    ·cases hk
   ·cases hk
  ·cases hk
theorem Zst {E i j o : Nat} {kp : Bool} {ox : Operand} {e : TypeId} {xs : List (T E)} {x : T E} (hi : h[i]? = some (.arr e E kp xs)) (ho : o <= C.sz E) (hj : xs[j]? = some x) (hk : (ZcH (Zds P t) (Zax P t) ((C.enc E x).drop o) 0 fun v => k v h) = some z) : Zbr C P U ⟨d, .load t ox, ty, pos, af, g⟩ [.ap E i j o] h k z := by
 obtain ⟨r, h1, h2⟩ := Zcr hk
 refine ⟨_, _, h1, fun ρ σ as_ hs H => ?_⟩
 obtain ⟨a, rfl, h3⟩ := ZeQ.1 hs
 obtain ⟨b, rfl, hiN, K, hρ, hjK⟩ := ZmM.1 h3
 obtain ⟨pre, rest, hb2, hb3, hb4, hb5, hb6⟩ := H.arrAt hi hρ
 obtain ⟨p, q, r', e1, e2, e3⟩ := Zzt (rest := rest) (hb4 h.length ρ) hj
 have hql := e3.len
 rw [C.len] at hql
 obtain ⟨a, h4, h5⟩ := h2 h.length ρ (q.drop o) r' (e3.drop o)
 refine ⟨a, ?_, ρ, h5, H, .refl _ _ _ _⟩
 unfold Zdu ptr
 dsimp only
 rw [hb2, e1]
 dsimp only
 refine ZoY (by simp only [List.length_append]; omega) ?_
 rw [<- e2, <- List.drop_drop, List.drop_left, List.drop_append_of_le_length (by omega)]
 exact h4
theorem Zqw {E i j o n : Nat} (hU : U i) {ox oy : Operand} {e : TypeId} {kp : Bool} {xs : List (T E)} {y y' : T E} {v : XV T} (hi : h[i]? = some (.arr e E kp xs)) (hn : Zax P t = some n) (hc : v.isVal = true /\ Nat.beq v.cells.length n = true /\ o + n <= C.sz E) (hj : xs[j]? = some y) (hy : C.dec E (Ziu (C.enc E y) o v.cells) = some y')
 (hk : k .junk (h.set i (.arr e E kp (xs.set j y'))) = some z) : Zbr C P U ⟨d, .store t ox oy, ty, pos, af, g⟩ [.ap E i j o, v] h k z := by
 obtain ⟨c1, c2, c3⟩ := hc
 have c2 := Nat.eq_of_beq_eq_true c2
 refine ⟨_, _, hk, fun ρ σ as_ hs H => ?_⟩
 obtain ⟨a, u, rfl, h3, h4⟩ := Zf0.1 hs
 obtain ⟨b, rfl, hiN, K, hρ, hjK⟩ := ZmM.1 h3
 obtain ⟨pre, rest, hb2, hb3, hb4, hb5, hb6⟩ := H.arrAt hi hρ
 have hlt := Zaz hj
 have hx : xs[j] = y := by rw [List.getElem?_eq_getElem hlt] at hj; injection hj
 have hcv := Zi2 h4 c1
 have e1 := hcv.len
 have hpre := (hb4 h.length ρ).len
 rw [Zcc] at hpre
 have hm : (j + 1) * C.sz E <= xs.length * C.sz E := Nat.mul_le_mul_right _ hlt
 rw [Nat.succ_mul] at hm
 have hones : u.cells.all AV.one = true := List.all_eq_true.2 (hcv.ones (ZlE c1))
 have hnew : SVs C h.length ρ ((xs.set j y').flatMap (C.enc E)) (ZaF pre (j * C.sz E + o) u.cells) := by
  have hb := hb4 h.length ρ
  have p1 := hb.take (j * C.sz E)
  have p2 := (hb.drop (j * C.sz E)).take (C.sz E)
  have p3 := hb.drop ((j + 1) * C.sz E)
  rw [Zda] at p1
  rw [ZcI] at p3
  rw [ZcI, List.drop_eq_getElem_cons hlt, List.flatMap_cons, List.take_append_of_le_length (by rw [C.len]; omega), List.take_of_length_le (by rw [C.len]; omega), hx] at p2
  have p4 := Wks.sv (C.back E _ _ hy) (ZlI o p2 hcv)
  have := p1.app (p4.app p3)
  rw [List.set_eq_take_append_cons_drop, if_pos hlt, List.flatMap_append, List.flatMap_cons]
  have he : ZaF pre (j * C.sz E + o) u.cells = pre.take (j * C.sz E) ++ (ZaF ((pre.drop (j * C.sz E)).take (C.sz E)) o u.cells ++ pre.drop ((j + 1) * C.sz E)) := by
   unfold ZaF
   rw [List.take_take, Nat.min_eq_left (by omega), List.take_add, List.append_assoc, List.append_assoc, List.append_assoc, List.append_assoc]
   congr 3
   rw [List.drop_take, List.drop_drop]
   rw [Nat.succ_mul]
   have hl : u.cells.length = n := by rw [e1, c2]
   rw [hl]
   conv => lhs; rw [<- List.take_append_drop (C.sz E - (o + n)) (pre.drop (j * C.sz E + o + n))]
   congr 1
   ·rw [Nat.add_assoc]
   ·rw [List.drop_drop]
    congr 1
    omega
  rw [he]
  exact this
 have hsp : ZaF (pre ++ rest) (j * C.sz E + o) u.cells = ZaF pre (j * C.sz E + o) u.cells ++ rest := by
  unfold ZaF
  have hl : u.cells.length = n := by rw [e1, c2]
  rw [List.take_append_of_le_length (by omega), List.drop_append_of_le_length (by omega), List.append_assoc, List.append_assoc, List.append_assoc]
 obtain ⟨g1, g2⟩ := H.writeArr (rest' := rest) hU hi hρ (fun N' ρ' => hnew.shut (Zb6 _)) (by
  rw [<- hsp]
  have hl : u.cells.length = n := by rw [e1, c2]
  unfold ZaF
  simp only [List.length_append, List.length_take, List.length_drop] at hb5 ⊢
  omega) hb6.2
 refine ⟨_, ?_, ρ, Zby, g1, g2⟩
 unfold Zh4 ptr Zfj
 dsimp only
 rw [hb2, hn]
 dsimp only
 rw [Zfo h4 c1, hones, hsp]
 rw [if_pos (by simp only [Bool.true_and, Bool.and_true, Bool.and_eq_true, decide_eq_true_eq, beq_iff_eq, List.length_append]; omega)]
theorem Zo3 {E i j n : Nat} (hU : U i) {ox oy : Operand} {e : TypeId} {kp : Bool} {xs : List (T E)} {y' : T E} {v : XV T} (hi : h[i]? = some (.arr e E kp xs)) (hn : Zax P t = some n) (hc : v.isVal = true /\ Nat.beq v.cells.length n = true /\ Nat.beq n (C.sz E) = true) (hj : j <= xs.length) (hy : C.dec E v.cells = some y')
 (hk : k .junk (h.set i (.arr e E kp (xs.take j ++ y' :: xs.drop (j + 1)))) = some z) : Zbr C P U ⟨d, .store t ox oy, ty, pos, af, g⟩ [.ap E i j 0, v] h k z := by
 obtain ⟨c1, c2, c3⟩ := hc
 have c2 := Nat.eq_of_beq_eq_true c2
 have c3 := Nat.eq_of_beq_eq_true c3
 refine ⟨_, _, hk, fun ρ σ as_ hs H => ?_⟩
 obtain ⟨a, u, rfl, h3, h4⟩ := Zf0.1 hs
 obtain ⟨b, rfl, hiN, K, hρ, hjK⟩ := ZmM.1 h3
 obtain ⟨pre, rest, hb2, hb3, hb4, hb5, hb6⟩ := H.arrAt hi hρ
 have hcv := Zi2 h4 c1
 have e1 := hcv.len
 have hl : u.cells.length = C.sz E := by rw [e1, c2, c3]
 have hpre := (hb4 h.length ρ).len
 rw [Zcc] at hpre
 have hm : j * C.sz E <= xs.length * C.sz E := Nat.mul_le_mul_right _ hj
 have hm2 : (j + 1) * C.sz E <= K * C.sz E := Nat.mul_le_mul_right _ hjK
 have hones : u.cells.all AV.one = true := List.all_eq_true.2 (hcv.ones (ZlE c1))
 have hnew : SVs C h.length ρ ((xs.take j ++ y' :: xs.drop (j + 1)).flatMap (C.enc E)) (pre.take (j * C.sz E) ++ u.cells ++ pre.drop (j * C.sz E + u.cells.length)) := by
  have hb := hb4 h.length ρ
  have p1 := hb.take (j * C.sz E)
  have p3 := hb.drop ((j + 1) * C.sz E)
  rw [Zda] at p1
  rw [ZcI] at p3
  have p4 := Wks.sv (C.back E _ _ hy) hcv
  have := (p1.app p4).app p3
  rw [List.flatMap_append, List.flatMap_cons, <- List.append_assoc]
  rw [hl, show j * C.sz E + C.sz E = (j + 1) * C.sz E from (Nat.succ_mul _ _).symm]
  exact this
 have hsp := Znf pre rest u.cells (off := j * C.sz E) (by omega)
 obtain ⟨g1, g2⟩ := H.writeArr (rest' := rest.drop (j * C.sz E + u.cells.length - pre.length)) hU hi hρ (fun N' ρ' => hnew.shut (Zb6 _)) (by
  rw [<- hsp]
  rw [Nat.succ_mul] at hm2
  unfold ZaF
  simp only [List.length_append, List.length_take, List.length_drop] at hb5 ⊢
  omega) (fun hf => by
  obtain ⟨zs, hzs⟩ := hb6.2 hf
  refine ⟨zs.drop (j + 1 - xs.length), fun N ρ => ?_⟩
  have p := (hzs N ρ).drop ((j + 1 - xs.length) * C.sz E)
  rw [ZcI] at p
  have he : j * C.sz E + u.cells.length - pre.length = (j + 1 - xs.length) * C.sz E := by rw [hl, hpre, Nat.sub_mul, Nat.succ_mul]
  rw [he]
  exact p)
 refine ⟨_, ?_, ρ, Zby, g1, g2⟩
 unfold Zh4 ptr Zfj
 dsimp only
 rw [Nat.add_zero, hb2, hn]
 dsimp only
 rw [Zfo h4 c1, hones, hsp]
 rw [Nat.succ_mul] at hm2
 rw [if_pos (by simp only [Bool.true_and, Bool.and_true, Bool.and_eq_true, decide_eq_true_eq, beq_iff_eq, List.length_append] at hb5 ⊢; omega)]
theorem Zrn : ∀ {vs : List (XV T)} {ps : List Nat} {as_ : List AV}, Zsk vs = some ps -> SVs C N ρ vs as_ -> ∃ bs : List Nat, as_.map AV.val = bs.map (fun b => Value.pointer (some ⟨b, 0, none⟩)) /\ ZeO N ρ ps bs
 | [], ps, as_, hp, hs => by
  injection hp with hp
  subst hp
  rw [Zbd.1 hs]
  exact ⟨[], rfl, trivial⟩
 | v :: vs, ps, as_, hp, hs => by
  obtain ⟨a, bs, rfl, h1, h2⟩ := hs.to
  unfold Zsk at hp
  split at hp
  ·rename_i heq; cases heq
  ·rename_i i l heq
   injection heq with q1 q2
   subst q1 q2
   cases hr : Zsk vs with
   | none => rw [hr] at hp; cases hp
   | some ps' =>
    rw [hr] at hp
    injection hp with hp
    subst hp
    obtain ⟨cs, g1, g2⟩ := Zrn hr h2
    obtain ⟨b, rfl, h3, h4⟩ := Zdl.1 h1
    exact ⟨b :: cs, by simp [g1, ptr], ⟨h3, h4⟩, g2⟩
  ·cases hp
theorem ZkJ {f : FuncId} {first caps : Array Operand} {ps : List Nat} (hf : Nat.beq first.size 0 = true) (hp : Zsk vs = some ps) (hk : k (match ps with | [] => .fn f | i :: l => .clo f (i :: l)) h = some z) : Zbr C P U ⟨d, .makeFunc (.func f) first caps, ty, pos, af, g⟩ vs h k z := by
 refine ⟨_, h, hk, ZlF.same fun ρ σ as_ K hs H hK => ?_⟩
 obtain ⟨bs, g1, g2⟩ := Zrn hp hs
 have hf0 : first = #[] := Array.eq_empty_of_size_eq_zero (Nat.eq_of_beq_eq_true hf)
 subst hf0
 refine .inl ⟨ZAq f bs, fun ρ' hρ w _ _ => ?_, hK _ ?_⟩
 ·have hc : caps.map ρ' = (bs.map fun b => Value.pointer (some ⟨b, 0, none⟩)).toArray := by
   apply Array.ext'
   simp only [Op.operands] at hρ
   rw [g1] at hρ
   simpa using hρ
  simp [execOp, Instr.makeFunc, ZAq, hc]
 ·cases ps with
  | nil =>
   cases bs with
   | nil => exact Zi0.2 rfl
   | cons b bs => exact g2.elim
  | cons i l => exact Zib.2 ⟨bs, rfl, g2⟩
theorem ZeO.svs : ∀ {ps bs : List Nat}, ZeO N ρ ps bs -> SVs C N ρ (ps.map fun i => .ptr i 0) (bs.map fun b => ptr b 0)
 | [], [], _ => .none
 | i :: ps, b :: bs, h => .cons (Zdl.2 ⟨b, rfl, h.1.1, h.1.2⟩) (ZeO.svs h.2)
 | [], _ :: _, h => h.elim
 | _ :: _, [], h => h.elim
theorem ZAZ {α β : Type} {as_ : Array α} {f : α -> β} {y : β} (h : as_.toList.map f = [y]) : ∃ x, as_ = #[x] /\ f x = y := by
 obtain ⟨l⟩ := as_
 match l, h with
 | [x], h => exact ⟨x, rfl, by simpa using h⟩
theorem ZAu {α β : Type} {as_ : Array α} {f : α -> β} {y z : β} (h : as_.toList.map f = [y, z]) : ∃ x u, as_ = #[x, u] /\ f x = y /\ f u = z := by
 obtain ⟨l⟩ := as_
 match l, h with
 | [x, u], h => simp at h; exact ⟨x, u, rfl, h.1, h.2⟩
theorem Zro {as_ : Array Operand} {ts : Array TypeId} {e : TypeId} {B : Option Addr} {n c : Nat} {cells : List AV} (hts : ts[0]? = some t) (ht : Zar P t = some e) : Zch P ⟨d, .call ⟨.builtin .len, as_, ts⟩, ty, pos, af, g⟩ [.lst B n c cells] (.int .i64 n) := fun ρ hρ w _ _ => by
 obtain ⟨x, rfl, hx⟩ := ZAZ (as_ := as_) (f := ρ) (y := .slice B n c) (by simpa [Op.operands, Call.operands] using hρ)
 simp [execOp, resolve, invoke, builtin, Builtin.len_, hx, hts, run_underlying (ZaM ht), goInt]
theorem ZxV {as_ : Array Operand} {ts : Array TypeId} {e : TypeId} {B : Option Addr} {n c : Nat} (hts : ts[0]? = some t) (ht : Zar P t = some e) : Zch P ⟨d, .call ⟨.builtin .len, as_, ts⟩, ty, pos, af, g⟩ [.raw (.slice B n c)] (.int .i64 n) := fun ρ hρ w _ _ => by
 obtain ⟨x, rfl, hx⟩ := ZAZ (as_ := as_) (f := ρ) (y := .slice B n c) (by simpa [Op.operands, Call.operands] using hρ)
 simp [execOp, resolve, invoke, builtin, Builtin.len_, hx, hts, run_underlying (ZaM ht), goInt]
theorem ZxW {as_ : Array Operand} {ts : Array TypeId} {s : List UInt8} (hts : ts[0]? = some t) (ht : P.underlying t = some .string) : Zch P ⟨d, .call ⟨.builtin .len, as_, ts⟩, ty, pos, af, g⟩ [.raw (.string ⟨s.toArray⟩)] (.int .i64 s.length) := fun ρ hρ w _ _ => by
 obtain ⟨x, rfl, hx⟩ := ZAZ (as_ := as_) (f := ρ) (y := .string ⟨s.toArray⟩) (by simpa [Op.operands, Call.operands] using hρ)
 have hl : (ByteArray.mk s.toArray).size = s.length := by show s.toArray.size = _; simp
 simp [execOp, resolve, invoke, builtin, Builtin.len_, hx, hts, run_underlying ht, goInt, hl]
theorem Zzw {as_ : Array Operand} {ts : Array TypeId} {ka kb : IntKind} {a b : Int} : Zch P ⟨d, .call ⟨.builtin .min, as_, ts⟩, ty, pos, af, g⟩ [.raw (.int ka a), .raw (.int kb b)] (.int ka (if b < a then b else a)) := fun ρ hρ w _ _ => by
 obtain ⟨x, y, rfl, hx, hy⟩ := ZAu (as_ := as_) (f := ρ) (y := .int ka a) (z := .int kb b) (by simpa [Op.operands, Call.operands] using hρ)
 simp [execOp, resolve, invoke, builtin, Builtin.min_, hx, hy, Builtin.min2]
theorem Zzx {as_ : Array Operand} {ts : Array TypeId} {ka kb : IntKind} {a b : Int} : Zch P ⟨d, .call ⟨.builtin .max, as_, ts⟩, ty, pos, af, g⟩ [.raw (.int ka a), .raw (.int kb b)] (.int ka (if a < b then b else a)) := fun ρ hρ w _ _ => by
 obtain ⟨x, y, rfl, hx, hy⟩ := ZAu (as_ := as_) (f := ρ) (y := .int ka a) (z := .int kb b) (by simpa [Op.operands, Call.operands] using hρ)
 simp [execOp, resolve, invoke, builtin, Builtin.max_, hx, hy, Builtin.max2]
theorem ZxX {as_ : Array Operand} {ts : Array TypeId} {a b : List UInt8} : Zch P ⟨d, .call ⟨.builtin .min, as_, ts⟩, ty, pos, af, g⟩ [.raw (.string ⟨a.toArray⟩), .raw (.string ⟨b.toArray⟩)] (.string ⟨(bif (decide (a < b) || decide (a = b)) then a else b).toArray⟩) := fun ρ hρ w _ _ => by
 obtain ⟨x, y, rfl, hx, hy⟩ := ZAu (as_ := as_) (f := ρ) (y := .string ⟨a.toArray⟩) (z := .string ⟨b.toArray⟩) (by simpa [Op.operands, Call.operands] using hρ)
 by_cases h1 : a < b <;> by_cases h2 : a = b <;> simp [execOp, resolve, invoke, builtin, Builtin.min_, hx, hy, Builtin.min2, Op.stringOp, Zhe, Zer, asBool, h1, h2]
theorem ZxY {as_ : Array Operand} {ts : Array TypeId} {a b : List UInt8} : Zch P ⟨d, .call ⟨.builtin .max, as_, ts⟩, ty, pos, af, g⟩ [.raw (.string ⟨a.toArray⟩), .raw (.string ⟨b.toArray⟩)] (.string ⟨(bif !decide (a < b) then a else b).toArray⟩) := fun ρ hρ w _ _ => by
 obtain ⟨x, y, rfl, hx, hy⟩ := ZAu (as_ := as_) (f := ρ) (y := .string ⟨a.toArray⟩) (z := .string ⟨b.toArray⟩) (by simpa [Op.operands, Call.operands] using hρ)
 by_cases h1 : a < b <;> simp [execOp, resolve, invoke, builtin, Builtin.max_, hx, hy, Builtin.max2, Op.stringOp, Zhe, Zer, asBool, h1]
theorem Zrp {tou : Tou T} {c : Call} (hO : orc.Ok C P tou) (hU : ∀ i ∈ Zic tou (.call c) vs h, U i) (hn : c.args.size + (match c.callee with | .value _ => 1 | _ => 0) = vs.length) (hk : Zsn C P orc c vs h k = some z) : Zbr C P U ⟨d, .call c, ty, pos, af, g⟩ vs h k z := by
 obtain ⟨callee, as_, ts⟩ := c
 unfold Zsn at hk
 dsimp only at hk hn
 split at hk
 ·rename_i y f args
  obtain ⟨r, h', h1, h2⟩ := hO.call _ _ _ _ _ hk
  refine ⟨r, h', h1, fun ρ σ bs hs H => ?_⟩
  obtain ⟨a, cs, rfl, h3, h4⟩ := hs.to
  rw [Zi0.1 h3]
  refine ⟨f, #[], #[], by simp, ?_⟩
  have := h2 ρ σ cs h4 H
  simpa using this.mono fun rv τ ⟨ρ', g1, g2, g3⟩ => ⟨ρ', g1, g2, g3.mono hU⟩
 ·rename_i y f ps args
  rw [ZbR] at hk
  obtain ⟨r, h', h1, h2⟩ := hO.call _ _ _ _ _ hk
  refine ⟨r, h', h1, fun ρ σ bs hs H => ?_⟩
  obtain ⟨a, cs, rfl, h3, h4⟩ := hs.to
  obtain ⟨ks, rfl, h5⟩ := Zib.1 h3
  refine ⟨f, #[], (ks.map fun b => Value.pointer (some ⟨b, 0, none⟩)).toArray, rfl, ?_⟩
  have := h2 ρ σ (cs ++ ks.map fun b => ptr b 0) (h4.app h5.svs) H
  have e : (#[] : Array Value).toList.map AV.raw ++ cs ++ (ks.map fun b => Value.pointer (some ⟨b, 0, none⟩)).toArray.toList.map AV.raw = cs ++ ks.map fun b => ptr b 0 := by simp [ptr, Function.comp_def]
  rw [e]
  exact this.mono fun rv τ ⟨ρ', g1, g2, g3⟩ => ⟨ρ', g1, g2, g3.mono hU⟩
 ·split at hk
  ·rename_i E xs ow t' hts
   split at hk
   ·rename_i e he
    refine ZcJ hk (fun bs σ K hl hp => ?_) (fun ρ bs hs => ?_)
    ·match bs, hl with
     | [b], _ => exact .inl hp
    ·obtain ⟨a, rfl, h3⟩ := ZeQ.1 hs
     obtain ⟨B, c, cs, rest, rfl, _⟩ := ZeP h3
     exact ⟨_, Zro hts he, Zan.2 rfl⟩
   ·cases hk
  ·rename_i t' hts
   split at hk
   ·rename_i e he
    refine ZcJ hk (fun bs σ K hl hp => ?_) (fun ρ bs hs => ?_)
    ·match bs, hl with
     | [b], _ => exact .inl hp
    ·obtain ⟨a, rfl, h3⟩ := ZeQ.1 hs
     rw [ZdJ.1 h3]
     exact ⟨_, Zro hts he, Zan.2 rfl⟩
   ·cases hk
  ·rename_i s t' hts
   split at hk
   ·rename_i he
    refine ZcJ hk (fun bs σ K hl hp => ?_) (fun ρ bs hs => ?_)
    ·match bs, hl with
     | [b], _ => exact .inl hp
    ·obtain ⟨a, rfl, h3⟩ := ZeQ.1 hs
     rw [Zb3.1 h3]
     exact ⟨_, ZxW hts he, Zan.2 rfl⟩
   ·cases hk
  ·rename_i E i lo n co t' hts
   split at hk
   ·rename_i e he
    refine ⟨_, h, hk, ZlF.same fun ρ σ bs K hs H hK => ?_⟩
    obtain ⟨a, rfl, h3⟩ := ZeQ.1 hs
    rcases ZbK.1 h3 with ⟨ad, c, rfl, hA⟩ | ⟨rfl, hn0, _⟩
    ·exact .inl ⟨_, ZxV hts he, hK _ (Zan.2 rfl)⟩
    ·subst hn0
     exact .inl ⟨_, Zro hts he, hK _ (Zan.2 rfl)⟩
   ·cases hk
  ·rename_i l t' hts
   split at hk
   ·rename_i e he
    refine ZcJ hk (fun bs σ K hl hp => ?_) (fun ρ bs hs => ?_)
    ·match bs, hl with
     | [b], _ => exact .inl hp
    ·obtain ⟨a, rfl, h3⟩ := ZeQ.1 hs
     obtain ⟨B, c, cs, rest, rfl, _⟩ := Ztp.1 h3
     exact ⟨_, Zro hts he, Zan.2 rfl⟩
   ·cases hk
  ·cases hk
 ·refine ZcJ hk (fun bs σ K hl hp => ?_) (fun ρ bs hs => ?_)
  ·match bs, hl with
   | [a, b], _ => exact .inl hp
  ·obtain ⟨a, b, rfl, h3, h4⟩ := Zf0.1 hs
   rw [Zan.1 h3, Zan.1 h4]
   exact ⟨_, Zzw, Zan.2 rfl⟩
 ·refine ZcJ hk (fun bs σ K hl hp => ?_) (fun ρ bs hs => ?_)
  ·match bs, hl with
   | [a, b], _ => exact .inl hp
  ·obtain ⟨a, b, rfl, h3, h4⟩ := Zf0.1 hs
   rw [Zb3.1 h3, Zb3.1 h4]
   exact ⟨_, ZxX, Zb3.2 rfl⟩
 ·refine ZcJ hk (fun bs σ K hl hp => ?_) (fun ρ bs hs => ?_)
  ·match bs, hl with
   | [a, b], _ => exact .inl hp
  ·obtain ⟨a, b, rfl, h3, h4⟩ := Zf0.1 hs
   rw [Zb3.1 h3, Zb3.1 h4]
   exact ⟨_, ZxY, Zb3.2 rfl⟩
 ·refine ZcJ hk (fun bs σ K hl hp => ?_) (fun ρ bs hs => ?_)
  ·match bs, hl with
   | [a, b], _ => exact .inl hp
  ·obtain ⟨a, b, rfl, h3, h4⟩ := Zf0.1 hs
   rw [Zan.1 h3, Zan.1 h4]
   exact ⟨_, Zzx, Zan.2 rfl⟩
 ·split at hk
  ·rename_i t1 t2 hts
   obtain ⟨l⟩ := as_
   obtain ⟨tl⟩ := ts
   simp only at hts
   subst hts
   match l, hn with
   | [ox, oy], _ =>
   split at hk
   ·rename_i ht
    have ht := Nat.eq_of_beq_eq_true ht
    subst ht
    rw [cond_eq_ite] at hk
    split at hk
    ·rename_i hm
     exact ZxO hm (fun E i lo n co e => hU i (by subst e; exact List.mem_singleton.2 rfl)) hk
    ·exact Zss (fun E xs r e => hU r (by subst e; exact List.mem_singleton.2 rfl)) hk
   ·exact ZxP hk
  ·cases hk
 ·split at hk
  ·rename_i t' hts
   split at hk
   ·rename_i e he
    exact ZxQ hts he hk (by simpa using hn)
   ·cases hk
  ·cases hk
 ·split at hk
  ·rename_i t1 t2 hts
   obtain ⟨l⟩ := as_
   obtain ⟨tl⟩ := ts
   simp only at hts
   subst hts
   match l, hn with
   | [ox, oy], _ => exact Zvr (fun E i lo n co e => hU i (by subst e; exact List.mem_singleton.2 rfl)) hk
  ·cases hk
 ·split at hk
  ·rename_i t1 hts
   obtain ⟨l⟩ := as_
   obtain ⟨tl⟩ := ts
   simp only at hts
   subst hts
   match l, hn with
   | [ox], _ => exact ZtE (fun E i lo n co e => hU i (by subst e; exact List.mem_singleton.2 rfl)) hk
  ·cases hk
 ·cases hk
theorem Zqx {o : Oper} {E : Nat} {xs ys : List (T E)} {y : XV T} (hs : Zbr C P U o [.sl E xs none, y] h k z) : Zbr C P U o [.slx E xs ys, y] h k z := by
 obtain ⟨r, h', h1, h2⟩ := hs
 refine ⟨r, h', h1, fun ρ σ as_ hs H => h2 ρ σ as_ ?_ H⟩
 obtain ⟨a, b, rfl, k1, k2⟩ := Zf0.1 hs
 exact .cons ((Wk.spare _ _ _).sv k1) k2
theorem ZA0 {N : Nat} {ρ : Nat -> AV} {v : XV T} {a : AV} (hs : SV C N ρ v a) : SV C N ρ v.wk a := by
 cases v <;> first | exact hs | exact (Wk.spare _ _ _).sv hs
theorem Zzy {N : Nat} {ρ : Nat -> AV} {as_ : List AV} {vs : List (XV T)} (hs : SVs C N ρ vs as_) : SVs C N ρ (vs.map XV.wk) as_ := by
 induction vs generalizing as_ with
 | nil => exact hs
 | cons v vs ih => obtain ⟨a, bs, rfl, h1, h2⟩ := hs.to; exact .cons (ZA0 h1) (ih h2)
theorem Zzz {o : Oper} (hs : Zbr C P U o (vs.map XV.wk) h k z) : Zbr C P U o vs h k z := by
 obtain ⟨r, h', h1, h2⟩ := hs
 exact ⟨r, h', h1, fun ρ σ as_ hs H => h2 ρ σ as_ (Zzy hs) H⟩
theorem ZtM : ∀ vs : List (XV T), gvs (vs.map XV.wk) = gvs vs
 | [] => rfl
 | v :: vs => by
  rw [List.map_cons]
  cases v <;> first | exact ZtM vs | exact congrArg (List.cons _) (ZtM vs)
theorem Zvy {tou : Tou T} {c : Call} (hb : ZlH c = true) {i : Nat} (hi : i ∈ Zic tou (.call c) (vs.map XV.wk) h) : i ∈ Zic tou (.call c) vs h := by
 obtain ⟨callee, as_, ts⟩ := c
 cases callee with
 | builtin b =>
  cases vs with
  | nil => exact hi
  | cons v vs =>
   have key : ∀ {u : XV T}, i ∈ gvs ((u :: vs).map XV.wk) -> i ∈ gvs (u :: vs) := fun h => by rw [ZtM] at h; exact h
   cases v with
   | sl E xs o => cases o <;> cases b <;> first | exact hi | exact key hi
   | _ => cases b <;> first | exact hi | exact key hi
 | _ => cases hb
theorem Znk {N : Nat} {ρ : Nat -> AV} : ∀ {bs : List UInt8} {cs : List AV}, SVs C N ρ (bs.map fun b => XV.int .u8 (b.toNat : Int)) cs -> cs = bs.map fun b => AV.raw (.int .u8 (b.toNat : Int))
 | [], cs, h => Zbd.1 h
 | b :: bs, cs, h => by
  obtain ⟨a, l, rfl, h1, h2⟩ := h.to
  rw [Zan.1 h1, Znk h2]
  rfl
theorem Zsu {tou : Tou T} {o : Op} (hO : orc.Ok C P tou) (hU : ∀ i ∈ Zic tou o vs h, U i) (hn : o.operands.size = vs.length) (hk : ZAX C P orc o vs h k = some z) : Zbr C P U ⟨d, o, ty, pos, af, g⟩ vs h k z := by
 unfold ZAX at hk
 split at hk
 ·rw [Zc9] at hk
  exact ⟨_, _, hk, ZlF.same fun ρ σ as_ K hs H hK => by obtain ⟨a, rfl, h1⟩ := ZeQ.1 hs; exact hK a h1⟩
 ·rw [Zc9] at hk
  exact ⟨_, _, hk, ZlF.same fun ρ σ as_ K hs H hK => by obtain ⟨a, rfl, h1⟩ := ZeQ.1 hs; exact hK a h1⟩
 ·rw [Zc9, Zc9] at hk
  rename_i c a b
  cases c
  ·exact Zrm hk rfl
  ·exact Zrm hk rfl
 ·split at hk
  ·rw [ZbR, Za4] at hk
   exact Zty ‹_› hk
  ·cases hk
 ·split at hk
  ·rw [ZbR, Za4] at hk
   exact ZxN ‹_› hk
  ·cases hk
 ·split at hk
  ·split at hk
   ·rw [ZbR] at hk
    exact Ztz ‹_› ‹_› ‹_› hk
   ·cases hk
  ·cases hk
 ·split at hk
  ·split at hk
   ·split at hk
    ·split at hk
     ·simp only [Za4] at hk
      exact ZoW ‹_› ‹_› ‹_› ‹_› ‹_› hk
     ·cases hk
    ·cases hk
   ·split at hk
    ·split at hk
     ·rw [ZbR] at hk
      exact ZlJ ‹_› ‹_› ‹_› ‹_› ‹_› hk
     ·cases hk
    ·cases hk
   ·cases hk
  ·cases hk
 ·split at hk
  ·exact Zvq ‹_› hk
  ·cases hk
 ·exact Zqp hk
 ·exact Zso hk
 ·split at hk
  ·split at hk
   ·split at hk
    ·rw [ZbR, Za4] at hk
     exact ZtA (hU _ (List.mem_singleton.2 rfl)) ‹_› ‹_› ‹_› hk
    ·cases hk
   ·cases hk
  ·cases hk
 ·split at hk
  ·rename_i hi
   split at hk
   ·rename_i hE
    obtain ⟨hE, ho⟩ := hE
    subst hE
    obtain ⟨x, hx, hk⟩ := ZnP hk
    exact Zst hi ho hx hk
   ·cases hk
  ·cases hk
 ·split at hk
  ·rename_i hi
   split at hk
   ·rename_i hE
    subst hE
    split at hk
    ·rename_i n hn'
     rw [cond_eq_ite] at hk
     split at hk
     ·split at hk
      ·rename_i hc
       split at hk
       ·rename_i hj
        obtain ⟨y', hy', hk⟩ := ZnP hk
        rw [Za4] at hk
        simp only [Bool.and_eq_true] at hc
        obtain ⟨⟨⟨q1, q2⟩, q3⟩, q4⟩ := hc
        have q4 := Nat.eq_of_beq_eq_true q4
        subst q4
        exact Zo3 (hU _ (List.mem_singleton.2 rfl)) hi hn' ⟨q1, q2, q3⟩ hj hy' hk
       ·cases hk
      ·cases hk
     ·split at hk
      ·rename_i hc
       obtain ⟨y, hy, hk⟩ := ZnP hk
       obtain ⟨y', hy', hk⟩ := ZnP hk
       rw [Za4] at hk
       exact Zqw (hU _ (List.mem_singleton.2 rfl)) hi hn' hc hy hy' hk
      ·cases hk
    ·cases hk
   ·cases hk
  ·cases hk
 ·exact Zvs hk
 ·split at hk
  ·rename_i hf
   split at hk
   ·exact ZkJ (ps := []) hf ‹_› hk
   ·exact ZkJ (ps := _ :: _) hf ‹_› hk
   ·cases hk
  ·cases hk
 ·split at hk
  ·exact ⟨_, _, hk, ZlF.same fun ρ σ as_ K hs H hK => by
    obtain ⟨a, rfl, h1⟩ := ZeQ.1 hs
    obtain ⟨b, rfl, _⟩ := Zdl.1 h1
    exact ⟨rfl, hK _ h1⟩⟩
  ·exact ⟨_, _, hk, ZlF.same fun ρ σ as_ K hs H hK => by
    obtain ⟨a, rfl, h1⟩ := ZeQ.1 hs
    obtain ⟨b, rfl, _⟩ := ZmM.1 h1
    exact ⟨rfl, hK _ h1⟩⟩
  ·exact ⟨_, _, hk, ZlF.same fun ρ σ as_ K hs H hK => by
    obtain ⟨a, rfl, h1⟩ := ZeQ.1 hs
    obtain ⟨bs, rfl, _⟩ := Zib.1 h1
    exact ⟨rfl, hK _ h1⟩⟩
  ·exact ⟨_, _, hk, ZlF.same fun ρ σ as_ K hs H hK => by
    obtain ⟨a, rfl, h1⟩ := ZeQ.1 hs
    obtain ⟨ad, cs, rest, rfl, _⟩ := ZoU.1 h1
    exact ⟨rfl, hK _ h1⟩⟩
  ·exact ⟨_, _, hk, ZlF.same fun ρ σ as_ K hs H hK => by
    obtain ⟨a, rfl, h1⟩ := ZeQ.1 hs
    obtain ⟨ad, cs, rest, rfl, _⟩ := Zsg.1 h1
    exact ⟨rfl, hK _ h1⟩⟩
  ·exact ⟨_, _, hk, ZlF.same fun ρ σ as_ K hs H hK => by
    obtain ⟨a, rfl, h1⟩ := ZeQ.1 hs
    rw [Zi0.1 h1]
    exact ⟨rfl, hK _ (by rw [<- Zi0.1 h1]; exact h1)⟩⟩
  ·cases hk
 ·split at hk
  ·rename_i r hr
   rw [Zc9] at hk
   exact ⟨_, _, hk, ZlF.same fun ρ σ as_ K hs H hK => by
    obtain ⟨a, rfl, h1⟩ := ZeQ.1 hs
    obtain ⟨ls, rfl, h2⟩ := Zfn.1 h1
    obtain ⟨b, h3, h4⟩ := h2.get hr
    exact ⟨b, h3, hK _ h4⟩⟩
  ·cases hk
 ·split at hk
  ·split at hk
   ·split at hk
    ·exact ZnN ‹_› ‹_› hk
    ·exact ZlK ‹_› ‹_› hk
    ·exact ZlQ ‹_› ‹_› hk
    ·exact Zk1 ‹_› ‹_› hk
    ·cases hk
   ·cases hk
  ·cases hk
 ·split at hk
  ·split at hk
   ·exact ZtB ‹_› ‹_› hk
   ·cases hk
  ·cases hk
 ·split at hk
  ·split at hk
   ·split at hk
    ·exact ZoX ‹_› ‹_› ‹_› hk
    ·cases hk
   ·cases hk
  ·cases hk
 ·split at hk
  ·split at hk
   ·split at hk
    ·split at hk
     ·rw [ZbR] at hk
      exact Zqq ‹_› ‹_› ‹_› ‹_› hk
     ·cases hk
    ·cases hk
   ·cases hk
  ·cases hk
 ·split at hk
  ·split at hk
   ·split at hk
    ·exact Zqx (ZoX ‹_› ‹_› ‹_› hk)
    ·cases hk
   ·cases hk
  ·cases hk
 ·split at hk
  ·split at hk
   ·split at hk
    ·split at hk
     ·exact Zqu ‹_› ‹_› ‹_› ‹_› hk
     ·cases hk
    ·cases hk
   ·cases hk
  ·cases hk
 ·split at hk
  ·split at hk
   ·exact Zo1 ‹_› ‹_› hk
   ·cases hk
  ·cases hk
 ·split at hk
  ·rename_i s _ n _ ht
   cases hb : ZhG s n with
   | none => rw [hb] at hk; cases hk
   | some b => rw [hb] at hk; exact ZtL ht hb hk
  ·cases hk
 ·exact Zqv hk
 ·exact ZtC hk
 ·exact Zo2 hk
 ·exact Zsp hk
 ·exact ZxU hk
 ·rename_i b
  exact ZwZ hk fun ρ a ha => ⟨.bool (!b), fun w => by rw [ZaU.1 ha]; simp [Op.unary], ZaU.2 rfl⟩
 ·rename_i kd n
  exact ZwZ hk fun ρ a ha => ⟨.int kd (kd.wrap (0 - n)), fun w => by rw [Zan.1 ha]; simp [Op.unary, Op.intArith], Zan.2 rfl⟩
 ·split at hk
  ·rename_i ks kd ki n hs hd
   refine Zvx hk fun ρ a ha => ⟨.int kd (kd.wrap n), fun w => ?_, Zan.2 rfl⟩
   rw [Zan.1 ha]
   simp [convert, run_underlying hs, run_underlying hd, Conv.intToInt]
  ·rename_i e E xs o hs hd
   split at hk
   ·rename_i he
    obtain ⟨bs, hb, hk⟩ := ZnP hk
    refine Zo0 hs he hd hk fun ρ a ha => ?_
    obtain ⟨A, c, cs, rest, rfl, l1, l2, l3, l4, l5⟩ := ZeP ha
    have hbs := C.byt_ok E xs bs hb
    rw [hbs] at l5
    refine ⟨A, _, c, cs, rest, rfl, Znk l5, ?_⟩
    have h1 := congrArg List.length hbs
    rw [Zcc, List.length_map] at h1
    rw [<- h1, C.byt_sz E xs bs hb, Nat.mul_one]
   ·cases hk
  ·rename_i e hs hd
   split at hk
   ·rename_i he
    refine Zo0 hs he hd hk fun ρ a ha => ?_
    rw [ZdJ.1 ha]
    exact ⟨none, 0, 0, [], [], rfl, rfl, rfl⟩
   ·cases hk
  ·cases hk
 ·exact Zsq hk
 ·exact Zvv hk
 ·split at hk
  ·rw [Za4] at hk
   exact ZtH ‹_› hk
  ·cases hk
 ·exact Zvt (hU _ (by simp [Zic])) hk
 ·rename_i c
  cases hb : ZlH c
  ·rw [hb] at hk
   refine Zrp hO hU ?_ hk
   obtain ⟨callee, as_, ts⟩ := c
   simp only [Op.operands, Call.operands] at hn
   cases callee <;> simp at hn ⊢ <;> first | omega | (dsimp only [cond_false] at hk; unfold Zsn at hk; cases hk) | (cases hb)
  ·rw [hb] at hk
   refine Zzz (Zrp hO (fun i hi => hU i (Zvy hb hi)) ?_ hk)
   obtain ⟨callee, as_, ts⟩ := c
   simp only [Op.operands, Call.operands] at hn
   cases callee <;> simp at hn ⊢ <;> first | omega | (dsimp only [cond_true] at hk; unfold Zsn at hk; cases hk) | (cases hb)
 ·cases hk
theorem Zo4 {tou : Tou T} {o : Op} (hO : orc.Ok C P tou) (hU : ∀ i ∈ Zic tou o vs h, U i) (hn : o.operands.size = vs.length) (hk : xop C P orc o vs h k = some z) : Zbr C P U ⟨d, o, ty, pos, af, g⟩ vs h k z := by
 unfold xop at hk
 cases hb : orc.on o vs
 ·rw [hb] at hk; exact Zsu hO hU hn hk
 ·rw [hb] at hk
  obtain ⟨r, h', h1, h2⟩ := hO.op _ _ _ _ _ hb hk
  exact ⟨r, h', h1, fun ρ σ as_ hs H => Zdv (fun rv τ ⟨ρ', g1, g2, g3⟩ => ⟨ρ', g1, g2, g3.mono hU⟩) (h2 d ty pos af g ρ σ as_ hs H)⟩
end
end Go.Proofs.YteempnebenjkmaaDoor
namespace Go.Proofs.YteempnebenjkmaaDoor
open Go.RowKit
set_option maxRecDepth 100000
set_option linter.unusedVariables false
variable {T : Nat -> Type} {A : Type}
abbrev XE (T : Nat -> Type) := List (Nat × XV T)
def ZzA (env : XE T) (d : Option Nat) (v : XV T) : XE T := match d with
 | some d => (d, v) :: env
 | none => env
def Zvz (ops : Array Oper) (env : XE T) (o : Oper) (k : XE T -> Bool -> Option A) : Option A := match o.guard with
 | none => k env true
 | some (j, want) => match (ops[j]?).bind (·.dst) with
  | none => none
  | some t => match Zld env t with
   | .bool c => cond c (k ((t, .bool true) :: env) want) (k ((t, .bool false) :: env) (!want))
   | .undef => k env false
   | _ => none
structure DrA where
 order : List Nat
 anc : List (List Nat)
 lf : List Nat
 cf : List Nat
 keep : List Nat
 am : Bool
 ow : List Nat
section
variable (C : Zaw T) (P : Program) (tou : Tou T) (orc : Orc T A)
def ZvA (t : TypeId) (n : Nat) (parts : Array (Nat × Operand)) (vs : List (XV T)) (h : List (HI T)) (k : XV T -> List (HI T) -> Option A) : Option A := match Zar P t with
 | some e => match Zax P e, ZaR P e, C.code e with
  | some sz, some z, some E => if Nat.beq sz (C.sz E) = true /\ Nat.beq z.cells.size sz = true /\ n * sz <= 16777216 then
   match ZlG (fun i => some (i * sz, sz)) ((List.range (n * sz)).map fun i => .ofV (z.cells[i % sz]!)) ((parts.toList.map (·.1)).zip vs) with
   | some cells => ZxF C E n cells fun xs => ZbH (h ++ [.arr e E false xs]) fun h' => k (.as E h.length 0 n (some n)) h'
   | none => none
   else none
  | _, _, _ => none
 | none => none
def ZtN (t : TypeId) (x y : XV T) (h : List (HI T)) (k : XV T -> List (HI T) -> Option A) : Option A := match Zar P t with
 | none => none
 | some e => match Zax P e, ZaR P e, Zcl P e, C.code e with
  | some sz, some z, some by_, some E => if (Nat.beq z.cells.size sz && Nat.beq sz (C.sz E)) = true then match x, y with
   | .int _ l, .int _ c => if l = c /\ 0 <= c /\ c <= 140737488355328 /\ (by_ : Int) * c <= 140737488355328 then Zsl C E sz z fun zt => k (.sl E (List.replicate c.toNat zt) none) h else none
   | _, _ => none
   else none
  | _, _, _, _ => none
def Zw0 (t t' : TypeId) (s : List UInt8) (h : List (HI T)) (k : XV T -> List (HI T) -> Option A) (d : Unit -> Option A) : Option A := match P.underlying t, P.underlying t' with
 | some .string, some (.slice e) => match P.underlying e, C.code e with
  | some (.int .u8), some E => if s.length <= 140737488355328 then (C.unb E s).bind fun xs => k (.sl E xs none) h else none
  | _, _ => none
 | _, _ => d ()
def ZA1 (am : Bool) (op : Op) (vs : List (XV T)) (h : List (HI T)) (k : XV T -> List (HI T) -> Option A) : Option A := match op, vs with
 | .convert t t' x, [.str s] => Zw0 C P t t' s h k fun _ => xop C P orc (.convert t t' x) [.str s] h k
 | .call c, [.mo i] => if Nat.beq c.args.size 1 = true then ZxM P c i h k else none
 | op, vs => match am with
  | false => xop C P orc op vs h k
  | true => match op with
   | .buildSlice t n parts => ZvA C P t n parts vs h k
   | .makeSlice t ox oy => match vs with
    | [x, y] => ZtN C P t x y h k
    | _ => none
   | op => xop C P orc op vs h k
def ZA2 (ow : Bool) (op : Op) (vs : List (XV T)) (h : List (HI T)) (k : XV T -> List (HI T) -> Option A) : Option A := match ow with
 | false => xop C P orc op vs h k
 | true => match op with
  | .buildSlice t n parts => ZvA C P t n parts vs h k
  | _ => none
def ZtO (ops : Array Oper) (am : Bool) : List Oper -> XE T -> List (HI T) -> (XE T -> List (HI T) -> Option A) -> Option A
 | [], env, h, k => k env h
 | o :: l, env, h, k => Zvz ops env o fun env w => cond w (ZcV (o.op.operands.toList.map (xev env)) fun vs => ZA1 C P orc am o.op vs h fun r h => ZtO ops am l (ZzA env o.dst r) h k) (ZtO ops am l (ZzA env o.dst .undef) h k)
def ZvB (h : List (HI T)) (i : Nat) : Bool := match h[i]? with
 | some (.obj _ _) => true
 | some (.arr _ _ _ _) => true
 | some (.mmap _ _ _) => true
 | some (.gen _ _) => true
 | _ => false
def ZA3 (D : DrA) (i : Nat) (o : Oper) (vs : List (XV T)) : Bool := cond (D.lf.contains i && ZbM o == .load) (match vs with
 | [.ptr j _] => D.keep.contains j
 | [.ap _ j _ _] => D.keep.contains j
 | [.gv j _ _] => D.keep.contains j
 | [.el _ _ _] => true
 | [.ce _] => true
 | _ => false) true
def ZA4 (D : DrA) (i : Nat) (o : Oper) (vs : List (XV T)) (h : List (HI T)) : Bool := cond (D.cf.contains i && Zb8 o) (D.keep.all (ZvB h) && (Zic tou o.op vs h).all fun u => !D.keep.contains u) true
def Zsv (ops : Array Oper) (D : DrA) : List Nat -> XE T -> List (HI T) -> (XE T -> List (HI T) -> Option A) -> Option A
 | [], env, h, k => k env h
 | i :: l, env, h, k => match ops[i]? with
  | none => Zsv ops D l env h k
  | some o => Zvz ops env o fun env w => cond w (ZcV (o.op.operands.toList.map (xev env)) fun vs => cond (ZA3 D i o vs && ZA4 tou D i o vs h) (ZA2 C P orc (D.ow.contains i) o.op vs h fun r h => Zsv ops D l (ZzA env o.dst r) h k) none) (Zsv ops D l (ZzA env o.dst .undef) h k)
def DrA.at_ (D : DrA) (h : List (HI T)) : DrA := ⟨D.order, D.anc, D.lf, D.cf, D.keep.filter (ZvB h), D.am, D.ow⟩
def ZtP (D : DrA) (ops : Array Oper) (env : XE T) (h : List (HI T)) (k : XE T -> List (HI T) -> Option A) : Option A :=
 cond (ZiW P ops D.order (D.anc.getD · []) D.lf.contains D.cf.contains D.ow.contains && D.keep.all fun i => Nat.blt i h.length) (Zsv C P tou orc ops D D.order env h k) none
def Zi4 : Code -> Nat
 | .region id _ _ => id
 | .seq a b => match a with
  | .skip => Zi4 b
  | a => Zi4 a
 | .block _ c => Zi4 c
 | .loop c => Zi4 c
 | .scope c => Zi4 c
 | .cond _ a _ => Zi4 a
 | _ => 0
abbrev XK (T : Nat -> Type) (A : Type) := Exit -> XE T -> List (HI T) -> Option A
abbrev Lps (T : Nat -> Type) (A : Type) := Nat -> XE T -> List (HI T) -> XK T A -> Option A
def ZA5 (env : XE T) (c : Operand) (b : Bool) : XE T := match c with
 | .tmp t => (t, .bool b) :: env
 | _ => env
def ZmO (dr : Nat -> Nat -> DrA) (lps : Lps T A) : Code -> XE T -> List (HI T) -> XK T A -> Option A
 | .skip, env, h, k => k .normal env h
 | .region id ops draw, env, h, k => match draw with
  | false => ZtO C P orc ops (dr id h.length).am ops.toList env h (k .normal)
  | true => ZtP C P tou orc ((dr id h.length).at_ h) ops env h (k .normal)
 | .seq a b, env, h, k => ZmO dr lps a env h fun ex env h => match ex with
  | .normal => ZmO dr lps b env h k
  | ex => k ex env h
 | .cond c a b, env, h, k => match xev env c with
  | .bool t => cond t (ZmO dr lps a (ZA5 env c true) h k) (ZmO dr lps b (ZA5 env c false) h k)
  | _ => none
 | .block id c, env, h, k => ZmO dr lps c env h fun ex env h => match ex with
  | .exit id' => cond (Nat.beq id' id) (k .normal env h) (k (.exit id') env h)
  | ex => k ex env h
 | .loop c, env, h, k => lps (Zi4 c) env h k
 | .exit id, env, h, k => k (.exit id) env h
 | .scope c, env, h, k => ZmO dr lps c env h fun ex env h => match ex with
  | .goto _ => none
  | ex => k ex env h
 | .ret, env, h, k => k .ret env h
 | _, _, _, _ => none
end
def ZbX : Code -> List Code
 | .seq a b => ZbX a ++ ZbX b
 | .cond _ a b => ZbX a ++ ZbX b
 | .block _ c => ZbX c
 | .loop c => [c]
 | .scope c => ZbX c
 | _ => []
structure Sat (C : Zaw T) (ρ : Nat -> AV) (env : XE T) (h : List (HI T)) (e : Env) (σ : St) : Prop where
 env : ∀ i, SV C h.length ρ (Zld env i) (e i)
 hp : Hp C ρ h σ
def ZlR (C : Zaw T) (P : Program) (c : Code) (env : XE T) (h : List (HI T)) (ex : Exit) (env' : XE T) (h' : List (HI T)) : Prop :=
 ∀ O ρ e σ, Sat C ρ env h e σ -> ZaP P O c (fun ex' e' σ' => ex' = ex /\ ∃ ρ', Sat C ρ' env' h' e' σ' /\ Rel (fun _ => True) ρ h σ ρ' h' σ') e σ
def Lps.Ok (C : Zaw T) (P : Program) (lps : Lps T A) (c : Code) : Prop := ∀ env h k z, lps (Zi4 c) env h k = some z -> ∃ ex env' h', k ex env' h' = some z /\ ZlR C P (.loop c) env h ex env' h'
section
variable {C : Zaw T} {P : Program} {tou : Tou T} {orc : Orc T A} {ops : Array Oper} {env env' : XE T} {h h' : List (HI T)} {ρ ρ' : Nat -> AV} {e : Env} {σ τ : St} {z : A} {U : Nat -> Prop}
theorem ZtQ (hs : ∀ i, SV C h.length ρ (Zld env i) (e i)) (x : Operand) : SV C h.length ρ (xev env x) (ev e x) := by
 cases x with
 | tmp t => exact hs t
 | const v => exact ZwW v
 | global g => exact Zby
 | func f => exact Zi0.2 rfl
theorem ZjQ (hs : ∀ i, SV C h.length ρ (Zld env i) (e i)) (l : List Operand) : SVs C h.length ρ (l.map (xev env)) (l.map (ev e)) := by
 induction l with
 | nil => exact .none
 | cons x l ih => exact .cons (ZtQ hs x) ih
theorem Zi5 (t : Nat) (v : XV T) (env : XE T) (i : Nat) : Zld ((t, v) :: env) i = if t = i then v else Zld env i := by
 show (bif Nat.beq t i then v else Zld env i) = _
 by_cases hi : t = i
 ·subst hi; simp
 ·have : Nat.beq t i = false := by cases hb : Nat.beq t i <;> simp_all
  rw [this, if_neg hi]; rfl
theorem Sat.put (hs : Sat C ρ env h e σ) (hr : Rel U ρ h σ ρ' h' τ) (H : Hp C ρ' h' τ) {d : Option Nat} {v : XV T} {a : AV} (hv : SV C h'.length ρ' v a) : Sat C ρ' (ZzA env d v) h' (e.put d a) τ := by
 refine ⟨fun i => ?_, H⟩
 have hi := (hs.env i).ext hr.len hr.ext
 cases d with
 | none => exact hi
 | some t =>
  show SV C h'.length ρ' (Zld ((t, v) :: env) i) (if i = t then a else e i)
  rw [Zi5]
  by_cases ht : i = t
  ·subst ht; rw [if_pos rfl, if_pos rfl]; exact hv
  ·rw [if_neg ht, if_neg (fun x => ht x.symm)]; exact hi
theorem Sat.sub (hs : Sat C ρ env h e σ) {t : Nat} {b : Bool} (ht : Zld env t = .bool b) : Sat C ρ ((t, .bool b) :: env) h e σ := by
 refine ⟨fun i => ?_, hs.hp⟩
 rw [Zi5]
 split
 ·rename_i hi
  subst hi
  rw [<- ht]; exact hs.env t
 ·exact hs.env i
theorem ZlS {o : Oper} {k : XE T -> Bool -> Option A} (hk : Zvz ops env o k = some z) : ∃ env' w, k env' w = some z /\ ∀ ρ h e σ, Sat C ρ env h e σ -> Sat C ρ env' h e σ /\ Region.wanted o (Zav ops e) = w := by
 unfold Zvz at hk
 split at hk
 ·rename_i hg
  exact ⟨env, true, hk, fun ρ h e σ hs => ⟨hs, by simp [Region.wanted, hg]⟩⟩
 ·rename_i j want hg
  split at hk
  ·cases hk
  ·rename_i t ht
   split at hk
   ·rename_i c hc
    cases c
    ·refine ⟨_, _, hk, fun ρ h e σ hs => ⟨hs.sub hc, ?_⟩⟩
     have := hs.env t
     rw [hc, ZaU] at this
     have hy : Zav ops e j = some false := by unfold Zav; rw [ht]; simp [this]
     simp [Region.wanted, hg, hy]
    ·refine ⟨_, _, hk, fun ρ h e σ hs => ⟨hs.sub hc, ?_⟩⟩
     have := hs.env t
     rw [hc, ZaU] at this
     have hy : Zav ops e j = some true := by unfold Zav; rw [ht]; simp [this]
     simp [Region.wanted, hg, hy]
   ·rename_i hc
    refine ⟨_, _, hk, fun ρ h e σ hs => ⟨hs, ?_⟩⟩
    have := hs.env t
    rw [hc, Zi1] at this
    have hy : Zav ops e j = none := by unfold Zav; rw [ht]; simp [this, Go.undef]
    simp [Region.wanted, hg, hy]
   ·cases hk
theorem ZlT {t : TypeId} {n : Nat} {parts : Array (Nat × Operand)} {vs : List (XV T)} {d : Option Nat} {ty : TypeId} {pos : String} {af : Array Edge} {g : Option (Nat × Bool)} {k : XV T -> List (HI T) -> Option A} (hk : ZvA C P t n parts vs h k = some z) :
 ∃ r h', k r h' = some z /\ ∀ ρ σ as_, SVs C h.length ρ vs as_ -> Hp C ρ h σ -> Zze P ⟨d, .buildSlice t n parts, ty, pos, af, g⟩ as_ σ fun rv τ => ∃ ρ', SV C h'.length ρ' r rv /\ Hp C ρ' h' τ /\ Rel (fun _ => True) ρ h σ ρ' h' τ := by
 unfold ZvA at hk
 split at hk
 rotate_left
 ·cases hk
 rename_i e he
 split at hk
 rotate_left
 ·cases hk
 rename_i sz v E hsz hz hE
 split at hk
 rotate_left
 ·cases hk
 rename_i h1
 split at hk
 rotate_left
 ·cases hk
 rename_i cells hf
 obtain ⟨e1, e2, e3⟩ := h1
 have e1 := Nat.eq_of_beq_eq_true e1
 have e2 := Nat.eq_of_beq_eq_true e2
 obtain ⟨xs, d1, d2, d3, d4⟩ := ZjO hk
 rw [Za4] at d1
 refine ⟨_, _, d1, fun ρ σ as_ hs H => ?_⟩
 obtain ⟨bs, h1, h2⟩ := ZgD (l := parts.toList.map (·.1)) hs
 obtain ⟨rs, h3, h4⟩ := ZeR hf (Zi3 _ _ _) h1
 rw [h2] at h3
 refine ⟨n, e, rs, ⟨t, parts, sz, v, rfl, he, hsz, hz, e2, e3, h3⟩, fun b hb hn => ?_⟩
 have hl := h4.len
 have hpos := C.pos E
 have hn1 : n <= 16777216 := Nat.le_trans (Nat.le_mul_of_pos_right n (by omega)) e3
 obtain ⟨g1, g2⟩ := H.newArr (U := fun _ => True) false hb hn e (E := E) (K := n) (xs := xs) (pre := rs) (rest := []) (fun N ρ' => (d4 _ _ _ h4).shut (Zb6 xs)) (by rw [List.append_nil, hl, d3]) (by unfold maxLen; omega) (fun _ => ⟨[], fun _ _ => .none⟩)
 rw [List.append_nil] at g1 g2
 refine ⟨_, ?_, g1, g2⟩
 exact ZbK.2 (.inl ⟨_, _, rfl, by simp, Nat.le_refl _, by unfold maxLen; omega, by omega, ⟨b, by rw [Nat.zero_add]; exact Zat _ _ _, fun _ => by rw [Nat.zero_mul]⟩, fun c' hc => by injection hc⟩)
theorem Zo5 {t : TypeId} {x y : XV T} {ox oy : Operand} {d : Option Nat} {ty : TypeId} {pos : String} {af : Array Edge} {g : Option (Nat × Bool)} {k : XV T -> List (HI T) -> Option A} (hk : ZtN C P t x y h k = some z) :
 ∃ r h', k r h' = some z /\ ∀ ρ σ as_, SVs C h.length ρ [x, y] as_ -> Hp C ρ h σ -> ZdP P ⟨d, .makeSlice t ox oy, ty, pos, af, g⟩ as_ σ fun rv τ => ∃ ρ', SV C h'.length ρ' r rv /\ Hp C ρ' h' τ /\ Rel (fun _ => True) ρ h σ ρ' h' τ := by
 unfold ZtN at hk
 split at hk
 ·cases hk
 rename_i e he
 split at hk
 rotate_left
 ·cases hk
 rename_i sz zv by_ E hsz hz hby hE
 split at hk
 rotate_left
 ·cases hk
 rename_i hc
 simp only [Bool.and_eq_true] at hc
 have hzs := Nat.eq_of_beq_eq_true hc.1
 have e1 := Nat.eq_of_beq_eq_true hc.2
 split at hk
 rotate_left
 ·cases hk
 rename_i kl l kc c
 split at hk
 rotate_left
 ·cases hk
 rename_i hb
 obtain ⟨b1, b2, b3, b4⟩ := hb
 obtain ⟨zt, hk2, hzt⟩ := ZgE hk
 clear hk
 subst b1
 have hpos := C.pos E
 refine ⟨_, _, hk2, fun ρ σ as_ hs H => ?_⟩
 obtain ⟨a, b, rfl, h3, h4⟩ := Zf0.1 hs
 rw [Zan.1 h3, Zan.1 h4]
 refine .inr ⟨rfl, fun ρv hρ w Z hH hV => ?_⟩
 have hρ' := hρ
 simp [Op.operands] at hρ'
 have hty := ZaM he
 obtain ⟨i, hi, hsi⟩ := ZjP hsz
 have hzi : i.zero = some zv := by unfold ZaR at hz; rw [hi] at hz; simpa using hz
 have hbi : i.bytes = by_ := by unfold Zcl at hby; rw [hi] at hby; simpa using hby
 have hr := run_make (P := P) w t e i zv hty hi hzi kl kc l l b2 (by omega) (by rw [hbi]; omega) (by omega)
 have hv := Zcn zv l.toNat (by omega)
 rw [hzs] at hv
 have harr : madeCells zv.cells (l.toNat * i.size) = ((((List.replicate l.toNat ((List.range sz).map fun i => AV.ofV (zv.cells[i % sz]!))).flatten)).map AV.val).toArray := by
  rw [hv]
  simp [madeCells, Builtin.zeroCells, hsi, hzs]
  apply Array.ext'
  simp
 rw [harr] at hr
 obtain ⟨f1, f2⟩ := hH.fresh
 have hcs : ∀ B, ∀ a ∈ (List.replicate l.toNat ((List.range sz).map fun i => AV.ofV (zv.cells[i % sz]!))).flatten, Zae w B a := fun B a ha => by
  obtain ⟨l, hl, hal⟩ := List.mem_flatten.1 ha
  have hl := (List.mem_replicate.1 hl).2
  subst hl
  obtain ⟨j, _, rfl⟩ := List.mem_map.1 hal
  exact Zcx _
 have hlen : ((List.replicate l.toNat ((List.range sz).map fun i => AV.ofV (zv.cells[i % sz]!))).flatten).length = l.toNat * sz := by rw [Zhh, List.length_map, List.length_range]
 have hzl := fun N (ρ : Nat -> AV) => hzt l.toNat N ρ
 generalize (List.replicate l.toNat ((List.range sz).map fun i => AV.ofV (zv.cells[i % sz]!))).flatten = cells at hr hzl hcs hlen
 have hX : Ext σ (σ.put w.heap.size (.tail e cells.length cells.length)) := Ext.put _ f2
 refine ⟨.lst (some ⟨w.heap.size, 0, none⟩) l.toNat l.toNat cells, _, _, .inl ?_, ⟨ρ, ?_, H.toExt0 hX, Rel.toExt0 hX⟩, hH.alloc_tail e cells cells.length (Nat.le_refl _), ?_, Grow.alloc hH _ _⟩
 ·simp [execOp, hρ', hr]
 ·have := ZcG (C := C) (N := h.length) (ρ := ρ) (E := E) (xs := List.replicate l.toNat zt) (a := .lst (some ⟨w.heap.size, 0, none⟩) l.toNat l.toNat cells)
  rw [List.length_replicate] at this
  exact this.2 ⟨_, l.toNat, cells, [], by rw [List.append_nil], Nat.le_refl _, by unfold maxLen; omega, by omega, (fun q => by cases q), hzl _ _⟩
 ·unfold Zae
  refine ⟨Nat.le_refl _, (fun q => by cases q), fun ad had => ?_⟩
  injection had with had
  subst had
  exact ZiU hH e cells _ (hcs _) (Nat.le_refl _) _
theorem Zqy {N : Nat} {ρ : Nat -> AV} : ∀ bs : List UInt8, SVs C N ρ (bs.map fun b => XV.int .u8 (b.toNat : Int)) (bs.map fun u => AV.raw (.int .u8 (u.toNat : Int)))
 | [] => .none
 | b :: bs => .cons (Zan.2 rfl) (Zqy bs)
theorem Zsw (hO : orc.Ok C P tou) {am : Bool} {op : Op} {vs : List (XV T)} {d : Option Nat} {ty : TypeId} {pos : String} {af : Array Edge} {g : Option (Nat × Bool)} {k : XV T -> List (HI T) -> Option A} (hn : op.operands.size = vs.length) (hk : ZA1 C P orc am op vs h k = some z) :
 ∃ r h', k r h' = some z /\ ((∀ ρ σ as_, SVs C h.length ρ vs as_ -> Hp C ρ h σ -> ZdP P ⟨d, op, ty, pos, af, g⟩ as_ σ fun rv τ => ∃ ρ', SV C h'.length ρ' r rv /\ Hp C ρ' h' τ /\ Rel (fun _ => True) ρ h σ ρ' h' τ) \/
  (∃ t n parts, op = .buildSlice t n parts /\ ∀ ρ σ as_, SVs C h.length ρ vs as_ -> Hp C ρ h σ -> ∃ e sz z cells, Zar P t = some e /\ Zax P e = some sz /\ ZaR P e = some z /\ z.cells.size = sz /\ n * sz <= 16777216 /\
   ZdO (fun i => some (i * sz, sz)) ((List.range (n * sz)).map fun i => .ofV (z.cells[i % sz]!)) ((parts.toList.map (·.1)).zip as_) = some cells /\
   ∀ b, ¬ σ.used b -> σ.blk b = none -> ∃ ρ', SV C h'.length ρ' r (.raw (.slice (some ⟨b, 0, none⟩) n n)) /\ Hp C ρ' h' (σ.put b (.own e cells)) /\ Rel (fun _ => True) ρ h σ ρ' h' (σ.put b (.own e cells))) \/
  (∃ (t t' : TypeId) (x : Operand) (e : TypeId) (bs : List UInt8), op = .convert t t' x /\ P.underlying t = some .string /\ P.underlying t' = some (.slice e) /\ P.underlying e = some (.int .u8) /\ bs.length <= 140737488355328 /\ ∀ ρ σ as_, SVs C h.length ρ vs as_ -> Hp C ρ h σ -> as_ = [.raw (.string ⟨bs.toArray⟩)] /\
   ∀ b c, ¬ σ.used b -> σ.blk b = none -> bs.length <= c -> c <= maxLen -> ∃ ρ', SV C h'.length ρ' r (.lst (some ⟨b, 0, none⟩) bs.length c (bs.map fun u => AV.raw (.int .u8 (u.toNat : Int)))) /\ Hp C ρ' h' (σ.use b) /\ Rel (fun _ => True) ρ h σ ρ' h' (σ.use b)) \/
  (∀ ρ σ as_, SVs C h.length ρ vs as_ -> Hp C ρ h σ -> ZjH P ⟨d, op, ty, pos, af, g⟩ as_ σ fun rv τ => ∃ ρ', SV C h'.length ρ' r rv /\ Hp C ρ' h' τ /\ Rel (fun _ => True) ρ h σ ρ' h' τ)) := by
 have plain : xop C P orc op vs h k = some z -> ∃ r h', k r h' = some z /\ ∀ ρ σ as_, SVs C h.length ρ vs as_ -> Hp C ρ h σ -> ZdP P ⟨d, op, ty, pos, af, g⟩ as_ σ fun rv τ => ∃ ρ', SV C h'.length ρ' r rv /\ Hp C ρ' h' τ /\ Rel (fun _ => True) ρ h σ ρ' h' τ := fun hk =>
  Zo4 (d := d) (ty := ty) (pos := pos) (af := af) (g := g) (U := fun _ => True) hO (fun _ _ => trivial) hn hk
 unfold ZA1 at hk
 split at hk
 ·rename_i t t' x s
  unfold Zw0 at hk
  split at hk
  ·rename_i e ht ht'
   split at hk
   ·rename_i E he hE
    split at hk
    ·rename_i hl
     obtain ⟨xs, hx, hk⟩ := ZnP hk
     have hxl := C.unb_len E s xs hx
     refine ⟨_, _, hk, .inr (.inr (.inl ⟨t, t', x, e, s, rfl, ht, ht', he, hl, fun ρ σ as_ hs H => ?_⟩))⟩
     obtain ⟨a, rfl, h1⟩ := ZeQ.1 hs
     rw [Zb3.1 h1]
     refine ⟨rfl, fun b c hb hn hc hm => ?_⟩
     have hX : Ext σ (σ.use b) := ⟨fun c x hx => hx, fun c hu => .inl hu⟩
     refine ⟨ρ, ZcG.2 ⟨some ⟨b, 0, none⟩, c, s.map fun u => AV.raw (.int .u8 (u.toNat : Int)), [], by rw [hxl]; simp, by omega, hm, by omega, (fun e => by cases e), ?_⟩, H.toExt0 hX, Rel.toExt0 hX⟩
     rw [C.unb_ok E s xs hx]
     exact Zqy s
    ·cases hk
   ·cases hk
  ·obtain ⟨r, h', h1, h2⟩ := plain hk
   exact ⟨r, h', h1, .inl h2⟩
 ·split at hk
  ·rename_i hc1
   obtain ⟨r, h', h1, h2⟩ := Zvw (U := fun _ => True) (d := d) (ty := ty) (pos := pos) (af := af) (g := g) (Nat.eq_of_beq_eq_true hc1) hk
   exact ⟨r, h', h1, .inr (.inr (.inr h2))⟩
  ·cases hk
 split at hk
 ·obtain ⟨r, h', h1, h2⟩ := plain hk
  exact ⟨r, h', h1, .inl h2⟩
 split at hk
 rotate_left
 ·split at hk
  ·obtain ⟨r, h', h1, h2⟩ := Zo5 (d := d) (ty := ty) (pos := pos) (af := af) (g := g) hk
   exact ⟨r, h', h1, .inl h2⟩
  ·cases hk
 ·obtain ⟨r, h', h1, h2⟩ := plain hk
  exact ⟨r, h', h1, .inl h2⟩
 clear plain
 rename_i t n parts _ _
 obtain ⟨r, h', h1, h2⟩ := ZlT (d := d) (ty := ty) (pos := pos) (af := af) (g := g) hk
 refine ⟨r, h', h1, .inr (.inl ⟨t, n, parts, rfl, fun ρ σ as_ hs H => ?_⟩)⟩
 obtain ⟨n', e, cells, ⟨t', parts', sz, zv, g1, g2, g3, g4, g5, g6, g7⟩, g8⟩ := h2 ρ σ as_ hs H
 injection g1 with e1 e2 e3
 subst e1 e2 e3
 exact ⟨e, sz, zv, cells, g2, g3, g4, g5, g6, g7, g8⟩
theorem Ziw (hO : orc.Ok C P tou) {am : Bool} : ∀ (l : List Oper) (env : XE T) (h : List (HI T)) (k : XE T -> List (HI T) -> Option A), ZtO C P orc ops am l env h k = some z ->
 ∃ env' h', k env' h' = some z /\ ∀ ρ e σ, Sat C ρ env h e σ -> ∀ K : Env -> St -> Prop, (∀ ρ' e' σ', Sat C ρ' env' h' e' σ' -> Rel (fun _ => True) ρ h σ ρ' h' σ' -> K e' σ') -> Zeh P ops l e σ K
 | [], env, h, k, hk => ⟨env, h, hk, fun ρ e σ hs K hK => hK ρ e σ hs (.refl _ _ _ _)⟩
 | o :: l, env, h, k, hk => by
  unfold ZtO at hk
  obtain ⟨env1, w, hk, h1⟩ := ZlS (C := C) hk
  cases w
  ·obtain ⟨env', h', h2, h3⟩ := Ziw hO l _ _ _ hk
   refine ⟨env', h', h2, fun ρ e σ hs K hK => ?_⟩
   obtain ⟨hs1, hw⟩ := h1 ρ h e σ hs
   unfold Zeh
   refine .inl ?_
   unfold aOp
   rw [if_neg (by rw [hw]; exact Bool.false_ne_true)]
   exact h3 ρ _ σ (hs1.put (.refl (fun _ => True) _ _ _) hs1.hp (Zi1.2 rfl)) K hK
  ·change ZcV _ _ = some z at hk
   rw [ZbR] at hk
   obtain ⟨d, op, ty, pos, af, g⟩ := o
   obtain ⟨r, h', h2, h3⟩ := Zsw (d := d) (ty := ty) (pos := pos) (af := af) (g := g) hO (by simp) hk
   obtain ⟨env', h'', h4, h5⟩ := Ziw hO l _ _ _ h2
   refine ⟨env', h'', h4, fun ρ e σ hs K hK => ?_⟩
   obtain ⟨hs1, hw⟩ := h1 ρ h e σ hs
   unfold Zeh
   rcases h3 with h3 | ⟨t, n, parts, rfl, h3⟩ | ⟨t, t', x, te, bs, rfl, q1, q2, q3, q4, h3⟩ | h3
   ·refine .inl ?_
    unfold aOp
    rw [if_pos hw]
    refine Zdv ?_ (h3 ρ σ _ (ZjQ hs1.env _) hs1.hp)
    rintro rv τ ⟨ρ', g1, g2, g3⟩
    exact h5 ρ' _ τ (hs1.put g3 g2 g1) K fun ρ'' e' σ' g4 g5 => hK ρ'' e' σ' g4 (g3.trans hs.hp g5)
   ·obtain ⟨te, sz, zv, cells, q1, q2, q3, q4, q5, q6, q7⟩ := h3 ρ σ _ (ZjQ hs1.env _) hs1.hp
    refine .inr (.inl ⟨hw, t, n, parts, te, sz, zv, cells, rfl, q1, q2, q3, q4, q5, q6, fun b hb hn => ?_⟩)
    obtain ⟨ρ', g1, g2, g3⟩ := q7 b hb hn
    exact h5 ρ' _ _ (hs1.put g3 g2 g1) K fun ρ'' e' σ' g4 g5 => hK ρ'' e' σ' g4 (g3.trans hs.hp g5)
   ·obtain ⟨q5, q6⟩ := h3 ρ σ _ (ZjQ hs1.env _) hs1.hp
    refine .inr (.inr (.inl ⟨hw, t, t', x, te, bs, rfl, q1, q2, q3, ?_, q4, fun b c hb hn hc hm => ?_⟩))
    ·have : (Op.convert t t' x).operands.toList.map (ev _) = [AV.raw (.string ⟨bs.toArray⟩)] := q5
     simp [Op.operands] at this
     rw [this]
     simp
    ·obtain ⟨ρ', g1, g2, g3⟩ := q6 b c hb hn hc hm
     exact h5 ρ' _ _ (hs1.put g3 g2 g1) K fun ρ'' e' σ' g4 g5 => hK ρ'' e' σ' g4 (g3.trans hs.hp g5)
   ·refine .inr (.inr (.inr ⟨hw, (h3 ρ σ _ (ZjQ hs1.env _) hs1.hp).mono ?_⟩))
    rintro rv τ ⟨ρ', g1, g2, g3⟩
    exact h5 ρ' _ τ (hs1.put g3 g2 g1) K fun ρ'' e' σ' g4 g5 => hK ρ'' e' σ' g4 (g3.trans hs.hp g5)
end
end Go.Proofs.YteempnebenjkmaaDoor
namespace Go.Proofs.YteempnebenjkmaaDoor
open Go.RowKit
set_option maxRecDepth 100000
set_option linter.unusedVariables false
variable {T : Nat -> Type} {A : Type}
section
variable {C : Zaw T} {P : Program} {tou : Tou T} {orc : Orc T A} {ops : Array Oper} {env env' : XE T} {h h' : List (HI T)} {ρ ρ' : Nat -> AV} {e : Env} {σ τ : St} {z : A} {U : Nat -> Prop}
theorem ZtR {i : Nat} (hi : ZvB h i = true) : ∃ x, h[i]? = some x /\ x.alive = true := by
 unfold ZvB at hi
 split at hi
 ·exact ⟨_, ‹_›, rfl⟩
 ·exact ⟨_, ‹_›, rfl⟩
 ·exact ⟨_, ‹_›, rfl⟩
 ·exact ⟨_, ‹_›, rfl⟩
 ·cases hi
theorem ZnT {b c o p : Nat} (he : ptr b o = ptr c p) : b = c := by
 unfold ptr at he
 injection he with he; injection he with he; injection he with he; injection he
def ZzB (K : List Nat) (ρ : Nat -> AV) (b : Nat) : Prop := ∃ i ∈ K, (ρ i).owns b
theorem ZeS (hO : orc.Ok C P tou) {D : DrA} : ∀ (l : List Nat) (env : XE T) (h : List (HI T)) (k : XE T -> List (HI T) -> Option A), Zsv C P tou orc ops D l env h k = some z ->
 ∃ env' h', k env' h' = some z /\ ∀ (ρ0 : Nat -> AV) (n0 : Nat), (∀ i ∈ D.keep, i < n0) -> ∀ ρ e σ, Sat C ρ env h e σ -> n0 <= h.length -> (∀ i, i < n0 -> ρ i = ρ0 i) -> ∀ K : Env -> St -> Prop, (∀ ρ' e' σ', Sat C ρ' env' h' e' σ' -> Rel (fun _ => True) ρ h σ ρ' h' σ' -> K e' σ') -> Zca P ops (ZzB D.keep ρ0) D.lf.contains D.cf.contains D.ow.contains l e σ K
 | [], env, h, k, hk => ⟨env, h, hk, fun ρ0 n0 hD ρ e σ hs hn hρ K hK => hK ρ e σ hs (.refl _ _ _ _)⟩
 | i :: l, env, h, k, hk => by
  unfold Zsv at hk
  split at hk
  ·rename_i ho
   obtain ⟨env', h', h2, h3⟩ := ZeS hO l _ _ _ hk
   refine ⟨env', h', h2, fun ρ0 n0 hD ρ e σ hs hn hρ K hK => ?_⟩
   unfold Zca
   rw [ho]
   exact h3 ρ0 n0 hD ρ e σ hs hn hρ K hK
  ·rename_i o ho
   obtain ⟨env1, w, hk, h1⟩ := ZlS (C := C) hk
   cases w
   ·obtain ⟨env', h', h2, h3⟩ := ZeS hO l _ _ _ hk
    refine ⟨env', h', h2, fun ρ0 n0 hD ρ e σ hs hn hρ K hK => ?_⟩
    obtain ⟨hs1, hw⟩ := h1 ρ h e σ hs
    unfold Zca
    rw [ho]
    dsimp only
    refine (ZAB (by rw [hw]; exact Bool.false_ne_true) _ _).2 ?_
    exact h3 ρ0 n0 hD ρ _ σ (hs1.put (.refl (fun _ => True) _ _ _) hs1.hp (Zi1.2 rfl)) hn hρ K hK
   ·change ZcV _ _ = some z at hk
    rw [ZbR] at hk
    cases hlc : (ZA3 D i o (o.op.operands.toList.map (xev env1)) && ZA4 tou D i o (o.op.operands.toList.map (xev env1)) h)
    ·rw [hlc] at hk; cases hk
    rw [hlc] at hk
    simp only [Bool.and_eq_true] at hlc
    obtain ⟨hl, hc⟩ := hlc
    simp only [cond_true] at hk
    cases how : D.ow.contains i
    rotate_left
    ·rw [how] at hk
     unfold ZA2 at hk
     split at hk
     ·rename_i hf; cases hf
     split at hk
     rotate_left
     ·cases hk
     rename_i t n parts hop
     obtain ⟨dd, op, ty, pos, af, g⟩ := o
     dsimp only at hop
     subst hop
     obtain ⟨r, h', h2, h3⟩ := ZlT (d := dd) (ty := ty) (pos := pos) (af := af) (g := g) hk
     obtain ⟨env', h'', h4, h5⟩ := ZeS hO l _ _ _ h2
     refine ⟨env', h'', h4, fun ρ0 n0 hD ρ e σ hs hn hρ K hK => ?_⟩
     obtain ⟨hs1, hw⟩ := h1 ρ h e σ hs
     unfold Zca
     rw [ho]
     dsimp only
     unfold ZgT
     rw [if_pos how, if_pos hw]
     obtain ⟨n', te, cells, q1, q2⟩ := h3 ρ σ _ (ZjQ hs1.env _) hs1.hp
     refine ⟨n', te, cells, q1, fun b hb hnb => ?_⟩
     obtain ⟨ρ', g1, g2, g3⟩ := q2 b hb hnb
     exact h5 ρ0 n0 hD ρ' _ _ (hs1.put g3 g2 g1) (Nat.le_trans hn g3.len) (fun i hi => (g3.ext i (by omega)).trans (hρ i hi)) K fun ρ'' e' σ' g4 g5 => hK ρ'' e' σ' g4 (g3.trans hs.hp g5)
    rw [how] at hk
    unfold ZA2 at hk
    dsimp only at hk
    obtain ⟨r, h', h2, h3⟩ := Zo4 (d := o.dst) (ty := o.type) (pos := o.pos) (af := o.after) (g := o.guard) (U := (· ∈ Zic tou o.op (o.op.operands.toList.map (xev env1)) h)) hO (fun _ hx => hx) (by simp) hk
    obtain ⟨env', h'', h4, h5⟩ := ZeS hO l _ _ _ h2
    refine ⟨env', h'', h4, fun ρ0 n0 hD ρ e σ hs hn hρ K hK => ?_⟩
    obtain ⟨hs1, hw⟩ := h1 ρ h e σ hs
    unfold Zca
    rw [ho]
    dsimp only
    unfold ZgT
    rw [if_neg (by rw [how]; exact Bool.false_ne_true)]
    unfold Zit
    rw [if_pos hw]
    have hvs := ZjQ hs1.env o.op.operands.toList
    refine ⟨fun hlf b o' hx => ?_, Zdv ?_ (h3 ρ σ _ hvs hs1.hp)⟩
    ·unfold ZA3 at hl
     rw [hlf] at hl
     rw [hx] at hvs
     simp only [cond_true] at hl
     split at hl
     ·rename_i j p hv
      rw [hv] at hvs
      obtain ⟨a, ha, ha2⟩ := ZeQ.1 hvs
      injection ha with ha
      subst ha
      obtain ⟨c, hc1, hc2, hc3⟩ := Zdl.1 ha2
      have hj : j ∈ D.keep := by simpa using hl
      refine ⟨j, hj, ?_⟩
      rw [<- hρ j (hD j hj), hc3, ZnT hc1]; rfl
     ·rename_i E j k p hv
      rw [hv] at hvs
      obtain ⟨a, ha, ha2⟩ := ZeQ.1 hvs
      injection ha with ha
      subst ha
      obtain ⟨c, hc1, hc2, K, hc3, _⟩ := ZmM.1 ha2
      have hj : j ∈ D.keep := by simpa using hl
      refine ⟨j, hj, ?_⟩
      rw [<- hρ j (hD j hj), hc3, ZnT hc1]; rfl
     ·rename_i j c' l' hv
      rw [hv] at hvs
      obtain ⟨a, ha, ha2⟩ := ZeQ.1 hvs
      injection ha with ha
      subst ha
      have hj : j ∈ D.keep := by simpa using hl
      refine ⟨j, hj, ?_⟩
      rw [<- hρ j (hD j hj)]
      exact C.gsv_ptr _ _ _ _ _ (Zqg.1 ha2).2
     ·rename_i E x p hv
      rw [hv] at hvs
      obtain ⟨a, ha, ha2⟩ := ZeQ.1 hvs
      injection ha with ha
      subst ha
      obtain ⟨ad, cs, rest, hc1, _⟩ := ZoU.1 ha2
      cases hc1
     ·rename_i l hv
      rw [hv] at hvs
      obtain ⟨a, ha, ha2⟩ := ZeQ.1 hvs
      injection ha with ha
      subst ha
      obtain ⟨ad, ls, rest, hc1, _⟩ := Zsg.1 ha2
      cases hc1
     ·cases hl
    ·rintro rv τ ⟨ρ', g1, g2, g3⟩
     refine ⟨fun hcf b t cs hP hb => ?_, h5 ρ0 n0 hD ρ' _ τ (hs1.put g3 g2 g1) (Nat.le_trans hn g3.len) (fun i hi => (g3.ext i (by omega)).trans (hρ i hi)) K fun ρ'' e' σ' g4 g5 => hK ρ'' e' σ' g4 (g3.trans hs.hp g5)⟩
     unfold ZA4 at hc
     rw [hcf] at hc
     simp only [cond_true, Bool.and_eq_true, List.all_eq_true] at hc
     obtain ⟨hc1, hc2⟩ := hc
     obtain ⟨i0, hi0, hρ0⟩ := hP
     obtain ⟨x0, hget, al0⟩ := ZtR (hc1 i0 hi0)
     refine g3.but.keep b _ ?_ hb
     rintro ⟨j, x, hu, hx, ax, bx⟩
     have hρi : (ρ i0).owns b := by rw [hρ i0 (hD i0 hi0)]; exact hρ0
     have : i0 = j := hs.hp.dist i0 j _ x b hget hx al0 ax hρi bx
     subst this
     have := hc2 _ hu
     simp at this
     exact this hi0
theorem Zo6 (hO : orc.Ok C P tou) {D : DrA} {k : XE T -> List (HI T) -> Option A} (hk : ZtP C P tou orc D ops env h k = some z) :
 ∃ env' h', k env' h' = some z /\ ∀ ρ e σ, Sat C ρ env h e σ -> ∀ K : Env -> St -> Prop, (∀ ρ' e' σ', Sat C ρ' env' h' e' σ' -> Rel (fun _ => True) ρ h σ ρ' h' σ' -> K e' σ') -> ZlA P ops e σ K := by
 unfold ZtP at hk
 cases hd : (ZiW P ops D.order (D.anc.getD · []) D.lf.contains D.cf.contains D.ow.contains && D.keep.all fun i => Nat.blt i h.length)
 ·rw [hd] at hk; cases hk
 rw [hd] at hk
 simp only [cond_true] at hk
 simp only [Bool.and_eq_true, List.all_eq_true] at hd
 obtain ⟨hd1, hd2⟩ := hd
 have hkeep : ∀ i ∈ D.keep, i < h.length := fun i hi => by
  have := hd2 i hi
  exact Nat.le_of_ble_eq_true this
 obtain ⟨env', h', h2, h3⟩ := ZeS hO _ _ _ _ hk
 exact ⟨env', h', h2, fun ρ e σ hs K hK => ⟨D.order, D.anc, ZzB D.keep ρ, D.lf, D.cf, D.ow, hd1, h3 ρ h.length hkeep ρ e σ hs (Nat.le_refl _) (fun _ _ => rfl) K hK⟩⟩
theorem ZvC {o : Oper} {K K' : Env -> St -> Prop} (hk : ∀ e σ, K e σ -> K' e σ) (h : aOp P ops o e σ K) : aOp P ops o e σ K' := by
 unfold aOp at h ⊢
 split
 ·rename_i hw
  rw [if_pos hw] at h
  exact Zdv (fun r τ => hk _ _) h
 ·rename_i hw
  rw [if_neg hw] at h
  exact hk _ _ h
theorem ZeF {K K' : Env -> St -> Prop} (hk : ∀ e σ, K e σ -> K' e σ) : ∀ {l : List Oper} {e : Env} {σ : St}, Zeh P ops l e σ K -> Zeh P ops l e σ K'
 | [], e, σ, h => hk _ _ h
 | o :: l, e, σ, h => h.imp (ZvC (fun e σ h => ZeF hk h)) fun h => h.imp (fun ⟨hw, t, n, parts, te, sz, z, cells, h1, h2, h3, h4, h5, h6, h7, h8⟩ => ⟨hw, t, n, parts, te, sz, z, cells, h1, h2, h3, h4, h5, h6, h7, fun b g1 g2 => ZeF hk (h8 b g1 g2)⟩) fun h => h.imp (fun ⟨hw, t, t', x, te, bs, h1, h2, h3, h4, h5, h6, h7⟩ => ⟨hw, t, t', x, te, bs, h1, h2, h3, h4, h5, h6, fun b c g1 g2 g3 g4 => ZeF hk (h7 b c g1 g2 g3 g4)⟩) (fun ⟨hw, h1⟩ => ⟨hw, h1.mono fun r σ' h => ZeF hk h⟩)
theorem ZaX {O : Nat -> Prop} : ∀ {c : Code} {Q Q' : Zg5} {e : Env} {σ : St}, (∀ ex e σ, Q ex e σ -> Q' ex e σ) -> ZaP P O c Q e σ -> ZaP P O c Q' e σ
 | .skip, Q, Q', e, σ, hQ, h => hQ _ _ _ h
 | .region id ops false, Q, Q', e, σ, hQ, h => fun hK => by
  rcases h hK with h | ⟨G, h1, h2⟩
  ·exact .inl (ZeF (hQ .normal) h)
  ·exact .inr ⟨G, h1, fun σ' hT => ZeF (hQ .normal) (h2 σ' hT)⟩
 | .region id ops true, Q, Q', e, σ, hQ, h => fun hK => by
  have hm : ∀ {e σ}, ZlA P ops e σ (Q .normal) -> ZlA P ops e σ (Q' .normal) := fun ⟨a, b, c, d, f, g, h1, h2⟩ => ⟨a, b, c, d, f, g, h1, ZjL _ (hQ .normal) h2⟩
  rcases h hK with h | ⟨G, h1, h2⟩
  ·exact .inl (hm h)
  ·exact .inr ⟨G, h1, fun σ' hT => hm (h2 σ' hT)⟩
 | .seq a b, Q, Q', e, σ, hQ, h => ZaX (c := a) (fun ex e σ h => by
  cases ex with
  | normal => exact ZaX (c := b) hQ h
  | _ => exact hQ _ _ _ h) h
 | .cond c a b, Q, Q', e, σ, hQ, h => by
  obtain ⟨t, h1, h2, h3⟩ := h
  exact ⟨t, h1, fun ht => ZaX (c := a) hQ (h2 ht), fun ht => ZaX (c := b) hQ (h3 ht)⟩
 | .block id c, Q, Q', e, σ, hQ, h => ZaX (c := c) (fun ex e σ h => by
  cases ex with
  | exit id' => unfold Zgx at h ⊢; dsimp only at h ⊢; split <;> rename_i hi <;> (first | rw [if_pos hi] at h | rw [if_neg hi] at h) <;> exact hQ _ _ _ h
  | _ => exact hQ _ _ _ h) h
 | .loop c, Q, Q', e, σ, hQ, h => by
  obtain ⟨I, n, h1, h2⟩ := h
  exact ⟨I, n, h1, fun n e σ hI => ZaX (c := c) (fun ex e σ h => by
   cases ex with
   | normal => exact h
   | _ => exact hQ _ _ _ h) (h2 n e σ hI)⟩
 | .exit id, Q, Q', e, σ, hQ, h => hQ _ _ _ h
 | .scope c, Q, Q', e, σ, hQ, h => ZaX (c := c) (fun ex e σ h => by
  cases ex with
  | goto l => exact h
  | _ => exact hQ _ _ _ h) h
 | .ret, Q, Q', e, σ, hQ, h => hQ _ _ _ h
 | .rangeFunc .., Q, Q', e, σ, hQ, h => h.elim
 | .label .., Q, Q', e, σ, hQ, h => h.elim
 | .goto .., Q, Q', e, σ, hQ, h => h.elim
 | .refuse .., Q, Q', e, σ, hQ, h => h.elim
theorem Zrq (hs : Sat C ρ env h e σ) {c : Operand} {b : Bool} (hc : xev env c = .bool b) : Sat C ρ (ZA5 env c b) h e σ := by
 cases c with
 | tmp t => exact hs.sub hc
 | _ => exact hs
theorem Zci (hO : orc.Ok C P tou) {dr : Nat -> Nat -> DrA} {lps : Lps T A} : ∀ (c : Code) (env : XE T) (h : List (HI T)) (k : XK T A), (∀ l ∈ ZbX c, lps.Ok C P l) -> ZmO C P tou orc dr lps c env h k = some z -> ∃ ex env' h', k ex env' h' = some z /\ ZlR C P c env h ex env' h'
 | .skip, env, h, k, hL, hk => ⟨_, _, _, hk, fun O ρ e σ hs => ⟨rfl, ρ, hs, .refl _ _ _ _⟩⟩
 | .region id ops false, env, h, k, hL, hk => by
  obtain ⟨env', h', h1, h2⟩ := Ziw hO _ _ _ _ hk
  exact ⟨_, _, _, h1, fun O ρ e σ hs _ => .inl (h2 ρ e σ hs _ fun ρ' e' σ' g1 g2 => ⟨rfl, ρ', g1, g2⟩)⟩
 | .region id ops true, env, h, k, hL, hk => by
  obtain ⟨env', h', h1, h2⟩ := Zo6 hO hk
  exact ⟨_, _, _, h1, fun O ρ e σ hs _ => .inl (h2 ρ e σ hs _ fun ρ' e' σ' g1 g2 => ⟨rfl, ρ', g1, g2⟩)⟩
 | .seq a b, env, h, k, hL, hk => by
  obtain ⟨ex, env1, h1, k1, t1⟩ := Zci hO a env h _ (fun l hl => hL l (by unfold ZbX; exact List.mem_append_left _ hl)) hk
  by_cases hn : ex = .normal
  ·subst hn
   obtain ⟨ex2, env2, h2, k2, t2⟩ := Zci hO b env1 h1 _ (fun l hl => hL l (by unfold ZbX; exact List.mem_append_right _ hl)) k1
   refine ⟨ex2, env2, h2, k2, fun O ρ e σ hs => ?_⟩
   refine ZaX (c := a) ?_ (t1 O ρ e σ hs)
   rintro ex' e' σ' ⟨rfl, ρ', g1, g2⟩
   refine ZaX (c := b) ?_ (t2 O ρ' e' σ' g1)
   rintro ex'' e'' σ'' ⟨rfl, ρ'', g3, g4⟩
   exact ⟨rfl, ρ'', g3, g2.trans hs.hp g4⟩
  ·refine ⟨ex, env1, h1, by cases ex <;> first | exact k1 | exact absurd rfl hn, fun O ρ e σ hs => ?_⟩
   refine ZaX (c := a) ?_ (t1 O ρ e σ hs)
   rintro ex' e' σ' ⟨rfl, ρ', g1, g2⟩
   cases ex' <;> first | exact ⟨rfl, ρ', g1, g2⟩ | exact absurd rfl hn
 | .cond c a b, env, h, k, hL, hk => by
  unfold ZmO at hk
  split at hk
  ·rename_i t hc
   cases t
   ·obtain ⟨ex, env1, h1, k1, t1⟩ := Zci hO b _ h _ (fun l hl => hL l (by unfold ZbX; exact List.mem_append_right _ hl)) hk
    refine ⟨ex, env1, h1, k1, fun O ρ e σ hs => ⟨false, ?_, (fun x => by cases x), fun _ => t1 O ρ e σ (Zrq hs hc)⟩⟩
    have := ZtQ hs.env c
    rw [hc, ZaU] at this
    rw [this]; simp
   ·obtain ⟨ex, env1, h1, k1, t1⟩ := Zci hO a _ h _ (fun l hl => hL l (by unfold ZbX; exact List.mem_append_left _ hl)) hk
    refine ⟨ex, env1, h1, k1, fun O ρ e σ hs => ⟨true, ?_, fun _ => t1 O ρ e σ (Zrq hs hc), fun x => by cases x⟩⟩
    have := ZtQ hs.env c
    rw [hc, ZaU] at this
    rw [this]; simp
  ·cases hk
 | .block id c, env, h, k, hL, hk => by
  obtain ⟨ex, env1, h1, k1, t1⟩ := Zci hO c env h _ (fun l hl => hL l hl) hk
  cases ex with
  | exit id' =>
   dsimp only at k1
   cases hb : Nat.beq id' id
   ·rw [hb] at k1
    refine ⟨_, _, _, k1, fun O ρ e σ hs => ?_⟩
    refine ZaX (c := c) ?_ (t1 O ρ e σ hs)
    rintro ex' e' σ' ⟨rfl, g⟩
    unfold Zgx
    dsimp only
    rw [if_neg (by rintro rfl; rw [Nat.beq_refl] at hb; cases hb)]
    exact ⟨rfl, g⟩
   ·rw [hb] at k1
    refine ⟨_, _, _, k1, fun O ρ e σ hs => ?_⟩
    refine ZaX (c := c) ?_ (t1 O ρ e σ hs)
    rintro ex' e' σ' ⟨rfl, g⟩
    unfold Zgx
    dsimp only
    rw [if_pos (Nat.eq_of_beq_eq_true hb)]
    exact ⟨rfl, g⟩
  | _ =>
   refine ⟨_, _, _, k1, fun O ρ e σ hs => ?_⟩
   refine ZaX (c := c) ?_ (t1 O ρ e σ hs)
   rintro ex' e' σ' ⟨rfl, g⟩
   exact ⟨rfl, g⟩
 | .loop c, env, h, k, hL, hk => hL c (List.mem_singleton.2 rfl) env h k z hk
 | .exit id, env, h, k, hL, hk => ⟨_, _, _, hk, fun O ρ e σ hs => ⟨rfl, ρ, hs, .refl _ _ _ _⟩⟩
 | .scope c, env, h, k, hL, hk => by
  obtain ⟨ex, env1, h1, k1, t1⟩ := Zci hO c env h _ (fun l hl => hL l hl) hk
  cases ex with
  | goto l => cases k1
  | _ =>
   refine ⟨_, _, _, k1, fun O ρ e σ hs => ?_⟩
   refine ZaX (c := c) ?_ (t1 O ρ e σ hs)
   rintro ex' e' σ' ⟨rfl, g⟩
   exact ⟨rfl, g⟩
 | .ret, env, h, k, hL, hk => ⟨_, _, _, hk, fun O ρ e σ hs => ⟨rfl, ρ, hs, .refl _ _ _ _⟩⟩
 | .rangeFunc .., env, h, k, hL, hk => by cases hk
 | .label .., env, h, k, hL, hk => by cases hk
 | .goto .., env, h, k, hL, hk => by cases hk
 | .refuse .., env, h, k, hL, hk => by cases hk
end
end Go.Proofs.YteempnebenjkmaaDoor
namespace Go.Proofs.YteempnebenjkmaaDoor
open Go.RowKit
set_option linter.unusedSimpArgs false
set_option maxRecDepth 100000
set_option linter.unusedVariables false
inductive Cs where
 | int (k : IntKind) | bool | str | sl (E : Nat) | slx (E : Nat) | own (E i : Nat) | ptr (i o : Nat) | nilptr | nil | fn (f : Nat) | as (E i : Nat) | asu (E i : Nat) | asz (E i : Nat) | clo (f : Nat) (ps : List Nat) | mp (E : Nat) (k : IntKind) | mo (i : Nat) | gv (i c n : Nat) | junk
inductive Vs where
 | one (c : Cs) | agg (l : List Cs) | cod (E : Nat) | vl (l : List Cs) | ce (l : List Cs)
inductive Rs where
 | val (v : Vs) | tup (l : List Vs)
inductive Hs where
 | obj (t : TypeId) (l : List Cs) | cobj (t : TypeId) (E : Nat) | row (e sz : Nat) | arr (e : TypeId) (E : Nat) (kp : Bool) | mmap (K V : MK) | lobj (t : TypeId) (l : List Cs) | lmap (K V : MK) | gen (E : Nat) (kp : Bool) | dead
@[reducible] def ND : Nat -> Type
 | 0 => Unit
 | n + 1 => Nat × ND n
def ndl : (n : Nat) -> ND n -> List Nat
 | 0, _ => []
 | n + 1, d => d.1 :: ndl n d.2
section
variable (T : Nat -> Type)
@[reducible] def Cs.D : Cs -> Type
 | .int _ => Int
 | .bool => Bool
 | .str => List UInt8
 | .sl E => List (T E)
 | .slx E => List (T E) × List (T E)
 | .own E _ => List (T E)
 | .as _ _ => Nat × Nat × Nat
 | .asu _ _ => Nat × Nat
 | .asz _ _ => Nat
 | .mp E _ => List (Int × List (T E))
 | .gv _ _ n => ND n
 | _ => Unit
@[reducible] def CsD : List Cs -> Type
 | [] => Unit
 | c :: l => c.D T × CsD l
@[reducible] def Vs.D : Vs -> Type
 | .one c => c.D T
 | .agg l => CsD T l
 | .cod E => T E
 | .vl l => CsD T l
 | .ce l => CsD T l
@[reducible] def VsD : List Vs -> Type
 | [] => Unit
 | v :: l => v.D T × VsD l
@[reducible] def Rs.D : Rs -> Type
 | .val v => v.D T
 | .tup l => VsD T l
@[reducible] def Hs.D : Hs -> Type
 | .obj _ l => CsD T l
 | .cobj _ E => T E
 | .arr _ E _ => List (T E)
 | .mmap K V => List (K.ty × V.ty)
 | .lobj _ l => CsD T l
 | .lmap K V => List (K.ty × V.ty)
 | .gen E _ => T E
 | _ => Unit
@[reducible] def HsD : List Hs -> Type
 | [] => Unit
 | x :: l => x.D T × HsD l
end
variable {T : Nat -> Type} {A : Type}
def Cs.st : (c : Cs) -> c.D T -> XV T
 | .int k, n => .int k n
 | .bool, b => .bool b
 | .str, s => .str s
 | .sl E, xs => .sl E xs none
 | .slx E, d => .slx E d.1 d.2
 | .own E i, xs => .sl E xs (some i)
 | .ptr i o, _ => .ptr i o
 | .nilptr, _ => .nilptr
 | .nil, _ => .nil
 | .fn f, _ => .fn f
 | .as E i, d => .as E i d.1 d.2.1 (some d.2.2)
 | .asu E i, d => .as E i d.1 d.2 none
 | .asz E i, d => .as E i 0 d none
 | .clo f ps, _ => .clo f ps
 | .mp E k, tb => .mp E k tb
 | .mo i, _ => .mo i
 | .gv i c n, d => .gv i c (ndl n d)
 | .junk, _ => .junk
def Zw1 : (l : List Cs) -> CsD T l -> List (XV T)
 | [], _ => []
 | c :: l, d => c.st d.1 :: Zw1 l d.2
def Vs.st (C : Zaw T) : (v : Vs) -> v.D T -> XV T
 | .one c, d => c.st d
 | .agg l, d => .agg (Zw1 l d)
 | .cod E, x => .agg (C.enc E x)
 | .vl l, d => .vl (Zw1 l d)
 | .ce l, d => .ce (Zw1 l d)
def ZmH (C : Zaw T) : (l : List Vs) -> VsD T l -> List (XV T)
 | [], _ => []
 | v :: l, d => v.st C d.1 :: ZmH C l d.2
def Rs.st (C : Zaw T) : (r : Rs) -> r.D T -> XV T
 | .val v, d => v.st C d
 | .tup l, d => .tup (ZmH C l d)
def Hs.st (C : Zaw T) : (x : Hs) -> x.D T -> HI T
 | .obj t l, d => .obj t (Zw1 l d)
 | .cobj t E, x => .obj t (C.enc E x)
 | .row e sz, _ => .row e sz
 | .arr e E kp, xs => .arr e E kp xs
 | .mmap K V, es => .mmap K V es
 | .lobj t l, d => .obj t (Zw1 l d)
 | .lmap K V, es => .mmap K V es
 | .gen E _, x => .gen E x
 | .dead, _ => .dead
def ZeG (C : Zaw T) : (l : List Hs) -> HsD T l -> List (HI T)
 | [], _ => []
 | x :: l, d => x.st C d.1 :: ZeG C l d.2
abbrev Pi := List (Nat × Option Nat)
def ZaO : Pi -> Nat -> Option (Option Nat)
 | [], _ => none
 | (j, x) :: l, i => bif Nat.beq j i then some x else ZaO l i
def Zy5 : Pi -> Nat -> Option Nat
 | [], _ => none
 | (i, some j) :: l, k => bif Nat.beq j k then some i else Zy5 l k
 | (_, none) :: l, k => Zy5 l k
def oeq : Option Nat -> Option Nat -> Bool
 | some a, some b => Nat.beq a b
 | none, none => true
 | _, _ => false
def ZvD (π : Pi) : Option Nat -> Bool
 | none => true
 | some j => (Zy5 π j).isNone
def Zg7 (π : Pi) (i : Nat) (j : Option Nat) (k : Pi -> Option A) : Option A := match ZaO π i with
 | some j' => cond (oeq j' j) (k π) none
 | none => cond (ZvD π j) (k ((i, j) :: π)) none
def Znl : Pi -> List Nat -> List Nat -> (Pi -> Option A) -> Option A
 | π, [], [], k => k π
 | π, i :: ps, j :: qs, k => Zg7 π i (some j) fun π => Znl π ps qs k
 | _, _, _, _ => none
def rdN : (n : Nat) -> List Nat -> (ND n -> Option A) -> Option A
 | 0, [], k => k ()
 | n + 1, a :: l, k => rdN n l fun d => k (a, d)
 | _, _, _ => none
def Cs.rd (c : Cs) (v : XV T) (π : Pi) (k : c.D T -> Pi -> Option A) : Option A := match c, v with
 | .int kd, .int kd' n => if kd = kd' then k n π else none
 | .bool, .bool b => k b π
 | .str, .str s => k s π
 | .sl E, .sl E' xs _ => if h : E' = E then k (h ▸ xs) π else none
 | .sl E, .nil => k [] π
 | .sl E, .slx E' xs _ => if h : E' = E then k (h ▸ xs) π else none
 | .slx E, .slx E' xs ys => if h : E' = E then k (h ▸ xs, h ▸ ys) π else none
 | .slx E, .nil => k ([], []) π
 | .own E i, .sl E' xs (some r) => if h : E' = E then Zg7 π i (some r) fun π => k (h ▸ xs) π else none
 | .own E i, .nil => Zg7 π i none fun π => k [] π
 | .ptr i o, .ptr j o' => cond (Nat.beq o o') (Zg7 π i (some j) fun π => k () π) none
 | .mo i, .mo j => Zg7 π i (some j) fun π => k () π
 | .nilptr, .nilptr => k () π
 | .nil, .nil => k () π
 | .fn f, .fn f' => cond (Nat.beq f f') (k () π) none
 | .as E i, .as E' j lo n (some c) => cond (Nat.beq E' E) (Zg7 π i (some j) fun π => k (lo, n, c) π) none
 | .asu E i, .as E' j lo n _ => cond (Nat.beq E' E) (Zg7 π i (some j) fun π => k (lo, n) π) none
 | .asz E i, .as E' j lo n _ => cond (Nat.beq E' E && Nat.beq lo 0) (Zg7 π i (some j) fun π => k n π) none
 | .as E i, .nil => Zg7 π i none fun π => k (0, 0, 0) π
 | .asu E i, .nil => Zg7 π i none fun π => k (0, 0) π
 | .asz E i, .nil => Zg7 π i none fun π => k 0 π
 | .clo f ps, .clo f' qs => cond (Nat.beq f f') (Znl π ps qs fun π => k () π) none
 | .gv i c n, .gv j c' l => cond (Nat.beq c c') (Zg7 π i (some j) fun π => rdN n l fun d => k d π) none
 | .junk, _ => k () π
 | _, _ => none
def ZvE : (l : List Cs) -> List (XV T) -> Pi -> (CsD T l -> Pi -> Option A) -> Option A
 | [], [], π, k => k () π
 | c :: l, v :: vs, π, k => c.rd v π fun d π => ZvE l vs π fun ds π => k (d, ds) π
 | [], _ :: _, _, _ => none
 | _ :: _, [], _, _ => none
def Vs.rd (C : Zaw T) (s : Vs) (v : XV T) (π : Pi) (k : s.D T -> Pi -> Option A) : Option A := match s with
 | .one c => c.rd v π k
 | .agg l => match v with
  | .agg vs => ZvE l vs π k
  | _ => none
 | .cod E => match v with
  | .agg vs => (C.dec E vs).bind fun x => k x π
  | _ => none
 | .vl l => match v with
  | .vl vs => ZvE l vs π k
  | _ => none
 | .ce _ => none
def ZtS (C : Zaw T) : (l : List Vs) -> List (XV T) -> Pi -> (VsD T l -> Pi -> Option A) -> Option A
 | [], [], π, k => k () π
 | s :: l, v :: vs, π, k => s.rd C v π fun d π => ZtS C l vs π fun ds π => k (d, ds) π
 | [], _ :: _, _, _ => none
 | _ :: _, [], _, _ => none
def Rs.rd (C : Zaw T) (s : Rs) (v : XV T) (π : Pi) (k : s.D T -> Pi -> Option A) : Option A := match s with
 | .val s => s.rd C v π k
 | .tup l => match v with
  | .tup vs => ZtS C l vs π k
  | _ => none
def Hs.rd (C : Zaw T) (x : Hs) (i : Nat) (h : List (HI T)) (π : Pi) (k : x.D T -> Pi -> Option A) : Option A := match x with
 | .obj t l => match ZaO π i with
  | some (some j) => match h[j]? with
   | some (.obj t' cs) => cond (Nat.beq t t') (ZvE l cs π k) none
   | _ => none
  | _ => none
 | .cobj t E => match ZaO π i with
  | some (some j) => match h[j]? with
   | some (.obj t' cs) => cond (Nat.beq t t') ((C.dec E cs).bind fun x => k x π) none
   | _ => none
  | _ => none
 | .row e sz => match ZaO π i with
  | some (some j) => match h[j]? with
   | some (.row e' sz') => cond (Nat.beq e e' && Nat.beq sz sz') (k () π) none
   | _ => none
  | some none => k () π
  | none => none
 | .arr e E _ => match ZaO π i with
  | some (some j) => match h[j]? with
   | some (.arr e' E' _ xs) => cond (Nat.beq e e') (if hE : E' = E then k (hE ▸ xs) π else none) none
   | _ => none
  | some none => k [] π
  | none => none
 | .mmap K V => match ZaO π i with
  | some (some j) => match h[j]? with
   | some (.mmap K' V' es) => if hE : K' = K /\ V' = V then k (hE.1 ▸ hE.2 ▸ es) π else none
   | _ => none
  | _ => none
 | .lobj t l => match ZaO π i with
  | some (some j) => match h[j]? with
   | some (.obj t' cs) => cond (Nat.beq t t') (ZvE l cs π k) none
   | _ => none
  | _ => none
 | .lmap K V => match ZaO π i with
  | some (some j) => match h[j]? with
   | some (.mmap K' V' es) => if hE : K' = K /\ V' = V then k (hE.1 ▸ hE.2 ▸ es) π else none
   | _ => none
  | _ => none
 | .gen E _ => match ZaO π i with
  | some (some j) => match h[j]? with
   | some (.gen E' x) => if hE : E' = E then k (hE ▸ x) π else none
   | _ => none
  | _ => none
 | .dead => k () π
def Zy6 (C : Zaw T) (h : List (HI T)) : Nat -> (l : List Hs) -> Pi -> (HsD T l -> Pi -> Option A) -> Option A
 | _, [], π, k => k () π
 | i, x :: l, π, k => x.rd C i h π fun d π => Zy6 C h (i + 1) l π fun ds π => k (d, ds) π
def PLe (π π' : Pi) : Prop := ∀ i x, ZaO π i = some x -> ZaO π' i = some x
def Inj (π : Pi) : Prop := ∀ i j x, ZaO π i = some (some x) -> ZaO π j = some (some x) -> i = j
def ZcN (π : Pi) (ρ : Nat -> AV) (i : Nat) : AV := match ZaO π i with
 | some (some j) => ρ j
 | _ => .lst none 0 0 []
section
variable {C : Zaw T} {ρ : Nat -> AV} {π π' π'' : Pi} {N M : Nat} {z : A} {h : List (HI T)} {σ : St}
theorem PLe.refl (π : Pi) : PLe π π := fun _ _ h => h
theorem PLe.trans (h : PLe π π') (k : PLe π' π'') : PLe π π'' := fun i x hx => k i x (h i x hx)
theorem ZaK (j : Nat) (x : Option Nat) (l : Pi) (i : Nat) : ZaO ((j, x) :: l) i = if j = i then some x else ZaO l i := by
 show (bif Nat.beq j i then some x else ZaO l i) = _
 by_cases hi : j = i
 ·subst hi; simp
 ·have : Nat.beq j i = false := by cases hb : Nat.beq j i <;> simp_all
  rw [this, if_neg hi]; rfl
theorem Zrr {a b : Option Nat} (h : oeq a b = true) : a = b := by
 cases a <;> cases b <;> simp_all [oeq]
theorem ZlU {j : Nat} : ∀ {π : Pi}, Zy5 π j = none -> ∀ i, ZaO π i ≠ some (some j)
 | [], _, i => by simp [ZaO]
 | (a, none) :: l, h, i => by
  rw [ZaK]
  split
  ·simp
  ·exact ZlU (π := l) h i
 | (a, some b) :: l, h, i => by
  have h' : (bif Nat.beq b j then some a else Zy5 l j) = none := h
  rw [ZaK]
  cases hb : Nat.beq b j
  ·rw [hb] at h'
   split
   ·intro e; injection e with e; injection e with e; subst e; rw [Nat.beq_refl] at hb; cases hb
   ·exact ZlU (π := l) h' i
  ·rw [hb] at h'; cases h'
theorem Zbz {i : Nat} {j : Option Nat} {k : Pi -> Option A} (hk : Zg7 π i j k = some z) : ∃ π', k π' = some z /\ PLe π π' /\ ZaO π' i = some j /\ (Inj π -> Inj π') := by
 unfold Zg7 at hk
 split at hk
 ·rename_i j' hl
  cases hb : oeq j' j
  ·rw [hb] at hk; cases hk
  ·rw [hb] at hk
   exact ⟨π, hk, .refl _, by rw [hl, Zrr hb], id⟩
 ·rename_i hl
  cases hb : ZvD π j
  ·rw [hb] at hk; cases hk
  ·rw [hb] at hk
   refine ⟨_, hk, fun a x hx => ?_, by rw [ZaK, if_pos rfl], fun hI a b x ha hb' => ?_⟩
   ·rw [ZaK, if_neg (by rintro rfl; rw [hl] at hx; cases hx)]; exact hx
   ·rw [ZaK] at ha hb'
    have hno : ∀ c, ZaO π c = some (some x) -> j ≠ some x := fun c hc e => by
     subst e
     unfold ZvD at hb
     have : Zy5 π x = none := by simpa using hb
     exact ZlU this c hc
    split at ha
    ·rename_i e1
     split at hb'
     ·rename_i e2; rw [<- e1, <- e2]
     ·injection ha with ha; exact absurd ha (hno b hb')
    ·split at hb'
     ·injection hb' with hb'; exact absurd hb' (hno a ha)
     ·exact hI a b x ha hb'
theorem ZkK : ∀ {ps qs : List Nat} {π : Pi} {k : Pi -> Option A}, Znl π ps qs k = some z -> ∃ π', k π' = some z /\ PLe π π' /\ (Inj π -> Inj π') /\ ∀ (π'' : Pi) (ρ : Nat -> AV) (N M : Nat) (bs : List Nat), PLe π' π'' -> (∀ i x, ZaO π'' i = some x -> i < M) -> ZeO N ρ qs bs -> ZeO M (ZcN π'' ρ) ps bs
 | [], [], π, k, hk => ⟨π, hk, .refl _, id, fun π'' ρ N M bs _ _ hb => by cases bs <;> first | trivial | exact hb.elim⟩
 | i :: ps, j :: qs, π, k, hk => by
  obtain ⟨π1, h1, h2, h3, h4⟩ := Zbz hk
  obtain ⟨π2, g1, g2, g3, g4⟩ := ZkK h1
  refine ⟨π2, g1, h2.trans g2, fun hI => g3 (h4 hI), fun π'' ρ N M bs hp hM hb => ?_⟩
  cases bs with
  | nil => exact hb.elim
  | cons b bs =>
   have hl := hp _ _ (g2 _ _ h3)
   exact ⟨⟨hM _ _ hl, by unfold ZcN; rw [hl]; exact hb.1.2⟩, g4 π'' ρ N M bs hp hM hb.2⟩
 | [], _ :: _, π, k, hk => by cases hk
 | _ :: _, [], π, k, hk => by cases hk
def Zsx (C : Zaw T) (N M : Nat) (π : Pi) (v u : XV T) : Prop := ∀ π' ρ a, PLe π π' -> (∀ i x, ZaO π' i = some x -> i < M) -> SV C N ρ v a -> SV C M (ZcN π' ρ) u a
theorem Zsx.more {v u : XV T} (h : Zsx C N M π v u) (hp : PLe π π') : Zsx C N M π' v u := fun π'' ρ a h1 h2 h3 => h π'' ρ a (hp.trans h1) h2 h3
theorem ZtT {E i N M : Nat} {co : Option Nat} {a : AV} (hs : SV C N ρ .nil a) (hl : ZaO π i = some none) (hi : i < M) (hc : ∀ c', co = some c' -> 0 = c') : SV C M (ZcN π ρ) (.as E i 0 0 co) a := by
 rw [ZdJ.1 hs]
 exact ZbK.2 (.inr ⟨rfl, rfl, hi, by unfold ZcN; rw [hl], fun c' h => (hc c' h).symm⟩)
theorem Zo7 : ∀ {n : Nat} {l : List Nat} {k : ND n -> Option A}, rdN n l k = some z -> ∃ d, k d = some z /\ ndl n d = l
 | 0, [], k, hk => ⟨(), hk, rfl⟩
 | n + 1, a :: l, k, hk => by
  obtain ⟨d, h1, h2⟩ := Zo7 (n := n) hk
  exact ⟨(a, d), h1, by show a :: ndl n d = _; rw [h2]⟩
 | 0, _ :: _, k, hk => by cases hk
 | _ + 1, [], k, hk => by cases hk
theorem ZzC {c : Cs} {v : XV T} {k : c.D T -> Pi -> Option A} (hk : c.rd v π k = some z) : ∃ d π', k d π' = some z /\ PLe π π' /\ (Inj π -> Inj π') /\ ∀ (C : Zaw T) N M, Zsx C N M π' v (c.st d) := by
 unfold Cs.rd at hk
 split at hk
 ·split at hk
  ·rename_i e; subst e
   exact ⟨_, _, hk, .refl _, id, fun C N M π' ρ a _ _ hs => by rw [Zan.1 hs]; exact Zan.2 rfl⟩
  ·cases hk
 ·exact ⟨_, _, hk, .refl _, id, fun C N M π' ρ a _ _ hs => by rw [ZaU.1 hs]; exact ZaU.2 rfl⟩
 ·exact ⟨_, _, hk, .refl _, id, fun C N M π' ρ a _ _ hs => by rw [Zb3.1 hs]; exact Zb3.2 rfl⟩
 ·split at hk
  ·rename_i e; subst e
   refine ⟨_, _, hk, .refl _, id, fun C N M π' ρ a _ _ hs => ?_⟩
   obtain ⟨A, c, cs, rest, rfl, l1, l2, l3, l4, l5⟩ := ZeP hs
   exact ZcG.2 ⟨A, c, cs, rest, rfl, l1, l2, l3, l4, l5.shut (Zb6 _)⟩
  ·cases hk
 ·refine ⟨_, _, hk, .refl _, id, fun C N M π' ρ a _ _ hs => ?_⟩
  rw [ZdJ.1 hs]
  exact ZcG.2 ⟨none, 0, [], [], rfl, Nat.le_refl _, Nat.zero_le _, Nat.zero_le _, fun _ => ⟨rfl, rfl⟩, .none⟩
 ·split at hk
  ·rename_i e; subst e
   refine ⟨_, _, hk, .refl _, id, fun C N M π' ρ a _ _ hs => ?_⟩
   exact SVs.shut ((Wk.spare _ _ _).sv hs) (by intro v hv; simp at hv; subst hv; rfl)
  ·cases hk
 ·split at hk
  ·rename_i e; subst e
   exact ⟨_, _, hk, .refl _, id, fun C N M π' ρ a _ _ hs => SVs.shut hs (by intro v hv; simp at hv; subst hv; rfl)⟩
  ·cases hk
 ·exact ⟨_, _, hk, .refl _, id, fun C N M π' ρ a _ _ hs => SVs.shut ((Wk.nilx _).sv hs) (by intro v hv; simp [Cs.st] at hv; subst hv; rfl)⟩
 ·split at hk
  ·rename_i e; subst e
   obtain ⟨π1, h1, h2, h3, h4⟩ := Zbz hk
   refine ⟨_, _, h1, h2, h4, fun C N M π' ρ a hp hM hs => ?_⟩
   obtain ⟨rfl, _, h5⟩ := ZfZ.1 hs
   obtain ⟨A, c, cs, rest, ea, l1, l2, l3, l4, l5⟩ := ZcG.1 h5
   have hl := hp _ _ h3
   exact ZfZ.2 ⟨by unfold ZcN; rw [hl], hM _ _ hl, ZcG.2 ⟨A, c, cs, rest, ea, l1, l2, l3, l4, l5.shut (Zb6 _)⟩⟩
  ·cases hk
 ·obtain ⟨π1, h1, h2, h3, h4⟩ := Zbz hk
  refine ⟨_, _, h1, h2, h4, fun C N M π' ρ a hp hM hs => ?_⟩
  rw [ZdJ.1 hs]
  have hl := hp _ _ h3
  exact ZfZ.2 ⟨by unfold ZcN; rw [hl], hM _ _ hl, ZcG.2 ⟨none, 0, [], [], rfl, Nat.le_refl _, Nat.zero_le _, Nat.zero_le _, fun _ => ⟨rfl, rfl⟩, .none⟩⟩
 ·rename_i i o j o' k'
  cases hb : Nat.beq o o'
  ·rw [hb] at hk; cases hk
  rw [hb] at hk
  have ho := Nat.eq_of_beq_eq_true hb
  subst ho
  obtain ⟨π1, h1, h2, h3, h4⟩ := Zbz (A := A) hk
  refine ⟨_, _, h1, h2, h4, fun C N M π' ρ a hp hM hs => ?_⟩
  obtain ⟨b, rfl, h5, h6⟩ := Zdl.1 hs
  have hl := hp _ _ h3
  exact Zdl.2 ⟨b, rfl, hM _ _ hl, by unfold ZcN; rw [hl]; exact h6⟩
 ·rename_i i j k'
  obtain ⟨π1, h1, h2, h3, h4⟩ := Zbz (A := A) hk
  refine ⟨_, _, h1, h2, h4, fun C N M π' ρ a hp hM hs => ?_⟩
  obtain ⟨b, rfl, h5, h6⟩ := ZlD.1 hs
  have hl := hp _ _ h3
  exact ZlD.2 ⟨b, rfl, hM _ _ hl, by unfold ZcN; rw [hl]; exact h6⟩
 ·exact ⟨_, _, hk, .refl _, id, fun C N M π' ρ a _ _ hs => by rw [Zcb.1 hs]; exact Zcb.2 rfl⟩
 ·exact ⟨_, _, hk, .refl _, id, fun C N M π' ρ a _ _ hs => by rw [ZdJ.1 hs]; exact ZdJ.2 rfl⟩
 ·rename_i f f' k'
  cases hb : Nat.beq f f'
  ·rw [hb] at hk; cases hk
  rw [hb] at hk
  have ho := Nat.eq_of_beq_eq_true hb
  subst ho
  exact ⟨_, _, hk, .refl _, id, fun C N M π' ρ a _ _ hs => by rw [Zi0.1 hs]; exact Zi0.2 rfl⟩
 ·rename_i E i E' j lo n c k'
  cases hb : Nat.beq E' E
  ·rw [hb] at hk; cases hk
  rw [hb] at hk
  have ho := Nat.eq_of_beq_eq_true hb
  subst ho
  obtain ⟨π1, h1, h2, h3, h4⟩ := Zbz (A := A) hk
  refine ⟨_, _, h1, h2, h4, fun C N M π' ρ a hp hM hs => ?_⟩
  have hl := hp _ _ h3
  rcases ZbK.1 hs with ⟨ad, c', rfl, hA⟩ | ⟨rfl, hn0, hiN, hρi, hco⟩
  ·obtain ⟨b, q1, q2⟩ := hA.at_
   exact ZbK.2 (.inl ⟨ad, c', rfl, hM _ _ hl, hA.le, hA.max, hA.len, ⟨b, by unfold ZcN; rw [hl]; exact q1, q2⟩, hA.cap⟩)
  ·exact ZbK.2 (.inr ⟨rfl, hn0, hM _ _ hl, by unfold ZcN; rw [hl]; exact hρi, hco⟩)
 ·rename_i E i E' j lo n c k'
  cases hb : Nat.beq E' E
  ·rw [hb] at hk; cases hk
  rw [hb] at hk
  have ho := Nat.eq_of_beq_eq_true hb
  subst ho
  obtain ⟨π1, h1, h2, h3, h4⟩ := Zbz (A := A) hk
  refine ⟨_, _, h1, h2, h4, fun C N M π' ρ a hp hM hs => ?_⟩
  have hl := hp _ _ h3
  rcases ZbK.1 hs with ⟨ad, c', rfl, hA⟩ | ⟨rfl, hn0, hiN, hρi, hco⟩
  ·obtain ⟨b, q1, q2⟩ := hA.at_
   exact ZbK.2 (.inl ⟨ad, c', rfl, hM _ _ hl, hA.le, hA.max, hA.len, ⟨b, by unfold ZcN; rw [hl]; exact q1, q2⟩, fun c'' hc => by cases hc⟩)
  ·exact ZbK.2 (.inr ⟨rfl, hn0, hM _ _ hl, by unfold ZcN; rw [hl]; exact hρi, fun c'' hc => by cases hc⟩)
 ·rename_i E i E' j lo n c k'
  cases hb : (Nat.beq E' E && Nat.beq lo 0)
  ·rw [hb] at hk; cases hk
  rw [hb] at hk
  simp only [Bool.and_eq_true] at hb
  obtain ⟨hb, hb2⟩ := hb
  have ho := Nat.eq_of_beq_eq_true hb
  have ho2 := Nat.eq_of_beq_eq_true hb2
  subst ho ho2
  obtain ⟨π1, h1, h2, h3, h4⟩ := Zbz (A := A) hk
  refine ⟨_, _, h1, h2, h4, fun C N M π' ρ a hp hM hs => ?_⟩
  have hl := hp _ _ h3
  rcases ZbK.1 hs with ⟨ad, c', rfl, hA⟩ | ⟨rfl, hn0, hiN, hρi, hco⟩
  ·obtain ⟨b, q1, q2⟩ := hA.at_
   exact ZbK.2 (.inl ⟨ad, c', rfl, hM _ _ hl, hA.le, hA.max, hA.len, ⟨b, by unfold ZcN; rw [hl]; exact q1, q2⟩, fun c'' hc => by cases hc⟩)
  ·exact ZbK.2 (.inr ⟨rfl, hn0, hM _ _ hl, by unfold ZcN; rw [hl]; exact hρi, fun c'' hc => by cases hc⟩)
 ·obtain ⟨π1, h1, h2, h3, h4⟩ := Zbz hk
  refine ⟨_, _, h1, h2, h4, fun C N M π' ρ a hp hM hs => ?_⟩
  have hl := hp _ _ h3
  exact ZtT hs hl (hM _ _ hl) (fun c' hc => by injection hc)
 ·obtain ⟨π1, h1, h2, h3, h4⟩ := Zbz hk
  refine ⟨_, _, h1, h2, h4, fun C N M π' ρ a hp hM hs => ?_⟩
  have hl := hp _ _ h3
  exact ZtT hs hl (hM _ _ hl) (fun c' hc => by cases hc)
 ·obtain ⟨π1, h1, h2, h3, h4⟩ := Zbz hk
  refine ⟨_, _, h1, h2, h4, fun C N M π' ρ a hp hM hs => ?_⟩
  have hl := hp _ _ h3
  exact ZtT hs hl (hM _ _ hl) (fun c' hc => by cases hc)
 ·rename_i f ps f' qs k'
  cases hb : Nat.beq f f'
  ·rw [hb] at hk; cases hk
  rw [hb] at hk
  have ho := Nat.eq_of_beq_eq_true hb
  subst ho
  obtain ⟨π1, h1, h2, h3, h4⟩ := ZkK (A := A) hk
  refine ⟨_, _, h1, h2, h3, fun C N M π' ρ a hp hM hs => ?_⟩
  obtain ⟨bs, rfl, h5⟩ := Zib.1 hs
  exact Zib.2 ⟨bs, rfl, h4 π' ρ N M bs hp hM h5⟩
 ·rename_i i c n j c' l k'
  cases hb : Nat.beq c c'
  ·rw [hb] at hk; cases hk
  rw [hb] at hk
  have ho := Nat.eq_of_beq_eq_true hb
  subst ho
  have hk : (Zg7 π i (some j) fun π => rdN n l fun d => k' d π) = some z := hk
  obtain ⟨π1, h1, h2, h3, h4⟩ := Zbz (A := A) hk
  obtain ⟨dd, h5, h6⟩ := Zo7 h1
  refine ⟨dd, _, h5, h2, h4, fun C N M π' ρ a hp hM hs => ?_⟩
  obtain ⟨g1, g2⟩ := Zqg.1 hs
  have hl := hp _ _ h3
  show SV C M (ZcN π' ρ) (.gv i c (ndl n dd)) _
  rw [h6]
  exact Zqg.2 ⟨hM _ _ hl, by unfold ZcN; rw [hl]; exact g2⟩
 ·exact ⟨_, _, hk, .refl _, id, fun C N M π' ρ a _ _ hs => Zby⟩
 ·cases hk
def Zo8 (C : Zaw T) (N M : Nat) (π : Pi) (v u : List (XV T)) : Prop := ∀ π' ρ as_, PLe π π' -> (∀ i x, ZaO π' i = some x -> i < M) -> SVs C N ρ v as_ -> SVs C M (ZcN π' ρ) u as_
theorem Zo8.more {v u : List (XV T)} (h : Zo8 C N M π v u) (hp : PLe π π') : Zo8 C N M π' v u := fun π'' ρ a h1 h2 h3 => h π'' ρ a (hp.trans h1) h2 h3
theorem Zo9 : ∀ {l : List Cs} {vs : List (XV T)} {π : Pi} {k : CsD T l -> Pi -> Option A}, ZvE l vs π k = some z -> ∃ d π', k d π' = some z /\ PLe π π' /\ (Inj π -> Inj π') /\ ∀ (C : Zaw T) N M, Zo8 C N M π' vs (Zw1 l d)
 | [], [], π, k, hk => ⟨_, _, hk, .refl _, id, fun C N M π' ρ as_ _ _ hs => by rw [Zbd.1 hs]; exact .none⟩
 | c :: l, v :: vs, π, k, hk => by
  obtain ⟨d, π1, h1, h2, h3, h4⟩ := ZzC hk
  obtain ⟨ds, π2, g1, g2, g3, g4⟩ := Zo9 h1
  refine ⟨_, _, g1, h2.trans g2, fun hI => g3 (h3 hI), fun C N M π' ρ as_ hp hM hs => ?_⟩
  obtain ⟨a, bs, rfl, s1, s2⟩ := hs.to
  exact .cons (h4 C N M π' ρ a (g2.trans hp) hM s1) (g4 C N M π' ρ bs hp hM s2)
 | [], _ :: _, π, k, hk => by cases hk
 | _ :: _, [], π, k, hk => by cases hk
theorem ZzD {s : Vs} {v : XV T} {k : s.D T -> Pi -> Option A} (hk : s.rd C v π k = some z) : ∃ d π', k d π' = some z /\ PLe π π' /\ (Inj π -> Inj π') /\ ∀ N M, Zsx C N M π' v (s.st C d) := by
 cases s with
 | one c =>
  obtain ⟨d, π1, h1, h2, h3, h4⟩ := ZzC (c := c) hk
  exact ⟨d, π1, h1, h2, h3, h4 C⟩
 | agg l =>
  unfold Vs.rd at hk
  dsimp only at hk
  split at hk
  ·obtain ⟨d, π1, h1, h2, h3, h4⟩ := Zo9 hk
   refine ⟨d, π1, h1, h2, h3, fun N M π' ρ a hp hM hs => ?_⟩
   obtain ⟨ls, rfl, hl⟩ := Zcm.1 hs
   exact Zcm.2 ⟨ls, rfl, h4 C N M π' ρ ls hp hM hl⟩
  ·cases hk
 | cod E =>
  unfold Vs.rd at hk
  dsimp only at hk
  split at hk
  ·rename_i vs
   cases hd : C.dec E vs with
   | none => rw [hd] at hk; cases hk
   | some x =>
    rw [hd] at hk
    refine ⟨x, π, hk, .refl _, id, fun N M π' ρ a hp hM hs => ?_⟩
    obtain ⟨ls, rfl, hl⟩ := Zcm.1 hs
    exact Zcm.2 ⟨ls, rfl, (Wks.sv (C.back E _ _ hd) hl).shut (C.shut E x)⟩
  ·cases hk
 | vl l =>
  unfold Vs.rd at hk
  dsimp only at hk
  split at hk
  ·obtain ⟨d, π1, h1, h2, h3, h4⟩ := Zo9 hk
   refine ⟨d, π1, h1, h2, h3, fun N M π' ρ a hp hM hs => ?_⟩
   obtain ⟨A, c, ls, rest, rfl, l1, l2, l3, l4, hl⟩ := Ztp.1 hs
   have hq := h4 C N M π' ρ ls hp hM hl
   have e : (Zw1 l d).length = _ := hq.len.symm.trans hl.len
   refine Ztp.2 ⟨A, c, ls, rest, by rw [e], by rw [e]; exact l1, l2, by rw [e]; exact l3, by rw [e]; exact l4, hq⟩
  ·cases hk
 | ce l => cases hk
theorem Znm : ∀ {l : List Vs} {vs : List (XV T)} {π : Pi} {k : VsD T l -> Pi -> Option A}, ZtS C l vs π k = some z -> ∃ d π', k d π' = some z /\ PLe π π' /\ (Inj π -> Inj π') /\ ∀ N M, Zo8 C N M π' vs (ZmH C l d)
 | [], [], π, k, hk => ⟨_, _, hk, .refl _, id, fun N M π' ρ as_ _ _ hs => by rw [Zbd.1 hs]; exact .none⟩
 | c :: l, v :: vs, π, k, hk => by
  obtain ⟨d, π1, h1, h2, h3, h4⟩ := ZzD hk
  obtain ⟨ds, π2, g1, g2, g3, g4⟩ := Znm h1
  refine ⟨_, _, g1, h2.trans g2, fun hI => g3 (h3 hI), fun N M π' ρ as_ hp hM hs => ?_⟩
  obtain ⟨a, bs, rfl, s1, s2⟩ := hs.to
  exact .cons (h4 N M π' ρ a (g2.trans hp) hM s1) (g4 N M π' ρ bs hp hM s2)
 | [], _ :: _, π, k, hk => by cases hk
 | _ :: _, [], π, k, hk => by cases hk
theorem ZA6 {s : Rs} {v : XV T} {k : s.D T -> Pi -> Option A} (hk : s.rd C v π k = some z) : ∃ d π', k d π' = some z /\ PLe π π' /\ (Inj π -> Inj π') /\ ∀ N M, Zsx C N M π' v (s.st C d) := by
 cases s with
 | val s => exact ZzD (s := s) hk
 | tup l =>
  unfold Rs.rd at hk
  dsimp only at hk
  split at hk
  ·obtain ⟨d, π1, h1, h2, h3, h4⟩ := Znm hk
   refine ⟨d, π1, h1, h2, h3, fun N M π' ρ a hp hM hs => ?_⟩
   obtain ⟨ls, rfl, hl⟩ := Zfn.1 hs
   exact Zfn.2 ⟨ls, rfl, h4 N M π' ρ ls hp hM hl⟩
  ·cases hk
def Zw2 (C : Zaw T) (M : Nat) (π : Pi) (h : List (HI T)) (i : Nat) (u : HI T) : Prop := ∀ π' ρ σ, PLe π π' -> (∀ i x, ZaO π' i = some x -> i < M) -> Hp C ρ h σ ->
 SH C M (ZcN π' ρ) σ i u /\ (u.alive = true -> ∀ b, (ZcN π' ρ i).owns b -> ∃ j x, ZaO π' i = some (some j) /\ h[j]? = some x /\ x.alive = true /\ (ρ j).owns b)
theorem ZA7 {x : Hs} {i : Nat} {k : x.D T -> Pi -> Option A} (hk : x.rd C i h π k = some z) : ∃ d π', k d π' = some z /\ PLe π π' /\ (Inj π -> Inj π') /\ ((x.st C d).alive = true -> ∃ w, ZaO π' i = some w) /\ ∀ M, Zw2 C M π' h i (x.st C d) := by
 cases x with
 | obj t l =>
  unfold Hs.rd at hk
  dsimp only at hk
  split at hk
  ·rename_i j hj
   split at hk
   ·rename_i t' cs hg
    cases hb : Nat.beq t t'
    ·rw [hb] at hk; cases hk
    rw [hb] at hk
    have ht := Nat.eq_of_beq_eq_true hb
    subst ht
    obtain ⟨d, π1, h1, h2, h3, h4⟩ := Zo9 (A := A) hk
    refine ⟨d, π1, h1, h2, h3, fun _ => ⟨_, h2 _ _ hj⟩, fun M π' ρ σ hp hM H => ⟨?_, fun _ b hb' => ?_⟩⟩
    ·have hl := hp _ _ (h2 _ _ hj)
     obtain ⟨b, acs, e1, e2, e3, e4⟩ := H.it j _ hg
     exact ⟨b, acs, by unfold ZcN; rw [hl]; exact e1, e2, e3, h4 C _ M π' ρ acs hp hM e4⟩
    ·have hl := hp _ _ (h2 _ _ hj)
     unfold ZcN at hb'
     rw [hl] at hb'
     exact ⟨j, _, hl, hg, rfl, hb'⟩
   ·cases hk
  ·cases hk
 | cobj t E =>
  unfold Hs.rd at hk
  dsimp only at hk
  split at hk
  ·rename_i j hj
   split at hk
   ·rename_i t' cs hg
    cases hb : Nat.beq t t'
    ·rw [hb] at hk; cases hk
    rw [hb] at hk
    have ht := Nat.eq_of_beq_eq_true hb
    subst ht
    cases hd : C.dec E cs with
    | none => rw [hd] at hk; cases hk
    | some x =>
     rw [hd] at hk
     refine ⟨x, π, hk, .refl _, id, fun _ => ⟨_, hj⟩, fun M π' ρ σ hp hM H => ⟨?_, fun _ b hb' => ?_⟩⟩
     ·have hl := hp _ _ hj
      obtain ⟨b, acs, e1, e2, e3, e4⟩ := H.it j _ hg
      exact ⟨b, acs, by unfold ZcN; rw [hl]; exact e1, e2, e3, (Wks.sv (C.back E _ _ hd) e4).shut (C.shut E x)⟩
     ·have hl := hp _ _ hj
      unfold ZcN at hb'
      rw [hl] at hb'
      exact ⟨j, _, hl, hg, rfl, hb'⟩
   ·cases hk
  ·cases hk
 | arr e E kp =>
  unfold Hs.rd at hk
  dsimp only at hk
  split at hk
  ·rename_i j hj
   split at hk
   ·rename_i e' E' kp' xs hg
    cases hb : Nat.beq e e'
    ·rw [hb] at hk; cases hk
    rw [hb] at hk
    have ht := Nat.eq_of_beq_eq_true hb
    subst ht
    simp only [cond_true] at hk
    split at hk
    ·rename_i hE
     subst hE
     refine ⟨xs, π, hk, .refl _, id, fun _ => ⟨_, hj⟩, fun M π' ρ σ hp hM H => ⟨?_, fun _ b hb' => ?_⟩⟩
     ·have hl := hp _ _ hj
      have e : ZcN π' ρ i = ρ j := by unfold ZcN; rw [hl]
      have := H.it j _ hg
      unfold SH at this ⊢
      rw [e]
      exact this
     ·have hl := hp _ _ hj
      unfold ZcN at hb'
      rw [hl] at hb'
      exact ⟨j, _, hl, hg, rfl, hb'⟩
    ·cases hk
   ·cases hk
  ·rename_i hj
   refine ⟨[], π, hk, .refl _, id, fun _ => ⟨_, hj⟩, fun M π' ρ σ hp hM H => ⟨?_, fun _ b hb' => ?_⟩⟩
   ·have hl := hp _ _ hj
    exact .inr ⟨by unfold ZcN; rw [hl], rfl⟩
   ·have hl := hp _ _ hj
    unfold ZcN at hb'
    rw [hl] at hb'
    cases hb'
  ·cases hk
 | mmap K V =>
  unfold Hs.rd at hk
  dsimp only at hk
  split at hk
  ·rename_i j hj
   split at hk
   ·rename_i K' V' es hg
    split at hk
    ·rename_i hE
     obtain ⟨e1, e2⟩ := hE
     subst e1 e2
     refine ⟨es, π, hk, .refl _, id, fun _ => ⟨_, hj⟩, fun M π' ρ σ hp hM H => ⟨?_, fun _ b hb' => ?_⟩⟩
     ·have hl := hp _ _ hj
      obtain ⟨b, q1, q2, q3⟩ := H.it j _ hg
      exact ⟨b, by unfold ZcN; rw [hl]; exact q1, q2, q3⟩
     ·have hl := hp _ _ hj
      unfold ZcN at hb'
      rw [hl] at hb'
      exact ⟨j, _, hl, hg, rfl, hb'⟩
    ·cases hk
   ·cases hk
  ·cases hk
 | lobj t l =>
  unfold Hs.rd at hk
  dsimp only at hk
  split at hk
  ·rename_i j hj
   split at hk
   ·rename_i t' cs hg
    cases hb : Nat.beq t t'
    ·rw [hb] at hk; cases hk
    rw [hb] at hk
    have ht := Nat.eq_of_beq_eq_true hb
    subst ht
    obtain ⟨d, π1, h1, h2, h3, h4⟩ := Zo9 (A := A) hk
    refine ⟨d, π1, h1, h2, h3, fun _ => ⟨_, h2 _ _ hj⟩, fun M π' ρ σ hp hM H => ⟨?_, fun _ b hb' => ?_⟩⟩
    ·have hl := hp _ _ (h2 _ _ hj)
     obtain ⟨b, acs, e1, e2, e3, e4⟩ := H.it j _ hg
     exact ⟨b, acs, by unfold ZcN; rw [hl]; exact e1, e2, e3, h4 C _ M π' ρ acs hp hM e4⟩
    ·have hl := hp _ _ (h2 _ _ hj)
     unfold ZcN at hb'
     rw [hl] at hb'
     exact ⟨j, _, hl, hg, rfl, hb'⟩
   ·cases hk
  ·cases hk
 | lmap K V =>
  unfold Hs.rd at hk
  dsimp only at hk
  split at hk
  ·rename_i j hj
   split at hk
   ·rename_i K' V' es hg
    split at hk
    ·rename_i hE
     obtain ⟨e1, e2⟩ := hE
     subst e1 e2
     refine ⟨es, π, hk, .refl _, id, fun _ => ⟨_, hj⟩, fun M π' ρ σ hp hM H => ⟨?_, fun _ b hb' => ?_⟩⟩
     ·have hl := hp _ _ hj
      obtain ⟨b, q1, q2, q3⟩ := H.it j _ hg
      exact ⟨b, by unfold ZcN; rw [hl]; exact q1, q2, q3⟩
     ·have hl := hp _ _ hj
      unfold ZcN at hb'
      rw [hl] at hb'
      exact ⟨j, _, hl, hg, rfl, hb'⟩
    ·cases hk
   ·cases hk
  ·cases hk
 | gen E kp =>
  unfold Hs.rd at hk
  dsimp only at hk
  split at hk
  ·rename_i j hj
   split at hk
   ·rename_i E' x hg
    split at hk
    ·rename_i hE
     subst hE
     refine ⟨x, π, hk, .refl _, id, fun _ => ⟨_, hj⟩, fun M π' ρ σ hp hM H => ⟨?_, fun _ b hb' => ?_⟩⟩
     ·have hl := hp _ _ hj
      have e : ZcN π' ρ i = ρ j := by unfold ZcN; rw [hl]
      have := H.it j _ hg
      unfold SH at this ⊢
      rw [e]
      exact this
     ·have hl := hp _ _ hj
      unfold ZcN at hb'
      rw [hl] at hb'
      exact ⟨j, _, hl, hg, rfl, hb'⟩
    ·cases hk
   ·cases hk
  ·cases hk
 | row e sz =>
  unfold Hs.rd at hk
  dsimp only at hk
  split at hk
  ·rename_i j hj
   split at hk
   ·rename_i e' sz' hg
    cases hb : (Nat.beq e e' && Nat.beq sz sz')
    ·rw [hb] at hk; cases hk
    rw [hb] at hk
    simp only [Bool.and_eq_true] at hb
    have h1 := Nat.eq_of_beq_eq_true hb.1
    have h2 := Nat.eq_of_beq_eq_true hb.2
    subst h1 h2
    refine ⟨(), π, hk, .refl _, id, fun _ => ⟨_, hj⟩, fun M π' ρ σ hp hM H => ⟨?_, fun _ b hb' => ?_⟩⟩
    ·have hl := hp _ _ hj
     obtain ⟨n, cells, ho⟩ := H.it j _ hg
     exact ⟨n, cells, by unfold ZcN; rw [hl]; exact ho⟩
    ·have hl := hp _ _ hj
     unfold ZcN at hb'
     rw [hl] at hb'
     exact ⟨j, _, hl, hg, rfl, hb'⟩
   ·cases hk
  ·rename_i hj
   refine ⟨(), π, hk, .refl _, id, fun _ => ⟨_, hj⟩, fun M π' ρ σ hp hM H => ⟨?_, fun _ b hb' => ?_⟩⟩
   ·have hl := hp _ _ hj
    exact ⟨0, [], by unfold ZcN; rw [hl]; exact ⟨by simp, .inl ⟨rfl, rfl⟩⟩⟩
   ·have hl := hp _ _ hj
    unfold ZcN at hb'
    rw [hl] at hb'
    cases hb'
  ·cases hk
 | dead => exact ⟨(), π, hk, .refl _, id, (fun h => by cases h), fun M π' ρ σ hp hM H => ⟨trivial, fun h => by cases h⟩⟩
theorem Zw3 : ∀ {l : List Hs} {i : Nat} {π : Pi} {k : HsD T l -> Pi -> Option A}, Zy6 C h i l π k = some z -> ∃ d π', k d π' = some z /\ PLe π π' /\ (Inj π -> Inj π') /\ ∀ M j x, (ZeG C l d)[j]? = some x -> (x.alive = true -> ∃ w, ZaO π' (i + j) = some w) /\ Zw2 C M π' h (i + j) x
 | [], i, π, k, hk => ⟨(), π, hk, .refl _, id, fun M j x hx => by simp [ZeG] at hx⟩
 | x :: l, i, π, k, hk => by
  obtain ⟨d, π1, h1, h2, h3, h5, h4⟩ := ZA7 hk
  obtain ⟨ds, π2, g1, g2, g3, g4⟩ := Zw3 h1
  refine ⟨(d, ds), π2, g1, h2.trans g2, fun hI => g3 (h3 hI), fun M j y hy => ?_⟩
  cases j with
  | zero =>
   simp [ZeG] at hy
   subst hy
   exact ⟨fun ha => (h5 ha).elim fun w hw => ⟨w, g2 _ _ hw⟩, fun π' ρ σ hp hM H => h4 M π' ρ σ (g2.trans hp) hM H⟩
  | succ j =>
   simp [ZeG] at hy
   have := g4 M j y hy
   rwa [show i + 1 + j = i + (j + 1) from by omega] at this
theorem Zcj : ∀ (l : List Hs) (d : HsD T l), (ZeG C l d).length = l.length
 | [], _ => rfl
 | x :: l, d => by simp [ZeG, Zcj l d.2]
end
end Go.Proofs.YteempnebenjkmaaDoor
namespace Go.Proofs.YteempnebenjkmaaDoor
open Go.RowKit
set_option maxRecDepth 100000
set_option linter.unusedVariables false
variable {T : Nat -> Type} {A : Type}
def pok (n N : Nat) (π : Pi) : Bool := π.all fun p => Nat.blt p.1 n && (match p.2 with | some j => Nat.blt j N | none => true)
def ZlV (C : Zaw T) (hs : List Hs) (h : List (HI T)) (π : Pi) (k : HsD T hs -> Pi -> Option A) : Option A :=
 Zy6 C h 0 hs π fun dh π => cond (pok hs.length h.length π) (k dh π) none
def ZmP (C : Zaw T) (vs : List Vs) (hs : List Hs) (xs : List (XV T)) (h : List (HI T)) (k : VsD T vs -> HsD T hs -> Pi -> Option A) : Option A :=
 ZtS C vs xs [] fun d π => ZlV C hs h π fun dh π => k d dh π
def ZzE (f : Nat -> Option Nat) : XV T -> XV T
 | .sl E xs (some i) => .sl E xs (f i)
 | .ptr i o => match f i with
  | some j => .ptr j o
  | none => .junk
 | .mo i => match f i with
  | some j => .mo j
  | none => .junk
 | .gv i c l => match f i with
  | some j => .gv j c l
  | none => .junk
 | .as E i lo n co => match f i with
  | some j => .as E j lo n co
  | none => .junk
 | .ap E i k o => match f i with
  | some j => .ap E j k o
  | none => .junk
 | .clo g ps => match ps.mapM f with
  | some qs => .clo g qs
  | none => .junk
 | .agg _ => .junk
 | .tup _ => .junk
 | .vl _ => .junk
 | .ce _ => .junk
 | v => v
def ZzF (f : Nat -> Option Nat) : XV T -> XV T
 | .agg l => .agg (l.map (ZzE f))
 | v => ZzE f v
def ZzG (f : Nat -> Option Nat) : XV T -> XV T
 | .tup l => .tup (l.map (ZzF f))
 | v => ZzF f v
def ZzH (f : Nat -> Option Nat) : HI T -> HI T
 | .obj t cs => .obj t (cs.map (ZzE f))
 | x => x
def pf (π : Pi) (n N i : Nat) : Option Nat := cond (Nat.blt i n) (match ZaO π i with | some x => x | none => none) (some (N + (i - n)))
def ZlW (π : Pi) (j : Nat) : Nat -> Option Nat
 | 0 => none
 | n + 1 => match ZaO π n with
  | some (some j') => cond (Nat.beq j' j) (some n) (ZlW π j n)
  | _ => ZlW π j n
def upd (π : Pi) (n : Nat) (f : Nat -> Option Nat) (ht : List (HI T)) (j : Nat) (x : HI T) : HI T := match ZlW π j n with
 | some i => match ht[i]? with
  | some y => ZzH f y
  | none => .dead
 | none => x
def Zhi {α β : Type} (g : Nat -> α -> β) : Nat -> List α -> List β
 | _, [] => []
 | i, x :: l => g i x :: Zhi g (i + 1) l
def Zi6 (π : Pi) (n : Nat) (h ht : List (HI T)) : List (HI T) := Zhi (upd π n (pf π n h.length) ht) 0 h ++ (ht.drop n).map (ZzH (pf π n h.length))
def Zy7 : Pi -> List Nat
 | [] => []
 | (_, some j) :: l => j :: Zy7 l
 | (_, none) :: l => Zy7 l
section
variable {C : Zaw T} {ρ ρ' ρt : Nat -> AV} {π π' π'' : Pi} {n N : Nat} {z : A} {h ht : List (HI T)} {σ τ : St} {f : Nat -> Option Nat}
theorem Zhj {i : Nat} {x : Option Nat} : ∀ {π : Pi}, ZaO π i = some x -> (i, x) ∈ π
 | [], hx => by simp [ZaO] at hx
 | (j, y) :: l, hx => by
  rw [ZaK] at hx
  split at hx
  ·rename_i e; subst e; injection hx with hx; subst hx; exact List.mem_cons_self
  ·exact List.mem_cons_of_mem _ (Zhj hx)
theorem Zfp (hp : pok n N π = true) {i : Nat} {x : Option Nat} (hx : ZaO π i = some x) : i < n /\ ∀ j, x = some j -> j < N := by
 have := List.all_eq_true.1 hp _ (Zhj hx)
 simp only [Bool.and_eq_true] at this
 refine ⟨Nat.le_of_ble_eq_true this.1, fun j hj => ?_⟩
 subst hj
 exact Nat.le_of_ble_eq_true this.2
theorem ZnU {i j : Nat} : ∀ {π : Pi}, ZaO π i = some (some j) -> j ∈ Zy7 π
 | [], hx => by simp [ZaO] at hx
 | (k, y) :: l, hx => by
  rw [ZaK] at hx
  split at hx
  ·injection hx with hx; subst hx; exact List.mem_cons_self
  ·cases y with
   | none => exact ZnU (π := l) hx
   | some a => exact List.mem_cons_of_mem _ (ZnU (π := l) hx)
theorem ZjR {j i : Nat} : ∀ {n : Nat}, ZlW π j n = some i -> i < n /\ ZaO π i = some (some j)
 | 0, hx => by simp [ZlW] at hx
 | n + 1, hx => by
  unfold ZlW at hx
  split at hx
  ·rename_i j' hj
   cases hb : Nat.beq j' j
   ·rw [hb] at hx
    have := ZjR (n := n) hx
    exact ⟨by omega, this.2⟩
   ·rw [hb] at hx
    injection hx with hx
    subst hx
    exact ⟨by omega, by rw [hj, Nat.eq_of_beq_eq_true hb]⟩
  ·have := ZjR (n := n) hx
   exact ⟨by omega, this.2⟩
theorem ZjS {j : Nat} : ∀ {n : Nat}, ZlW π j n = none -> ∀ i, i < n -> ZaO π i ≠ some (some j)
 | 0, hx, i, hi => by omega
 | n + 1, hx, i, hi => by
  unfold ZlW at hx
  split at hx
  ·rename_i j' hj
   cases hb : Nat.beq j' j
   ·rw [hb] at hx
    by_cases hin : i = n
    ·subst hin; rw [hj]; intro e; injection e with e; injection e with e; subst e; rw [Nat.beq_refl] at hb; cases hb
    ·exact ZjS (n := n) hx i (by omega)
   ·rw [hb] at hx; cases hx
  ·rename_i hno
   by_cases hin : i = n
   ·subst hin; exact hno j
   ·exact ZjS (n := n) hx i (by omega)
theorem Zhk {hs : List Hs} {k : HsD T hs -> Pi -> Option A} (hk : ZlV C hs h π k = some z) : ∃ dh π', k dh π' = some z /\ PLe π π' /\ (Inj π -> Inj π') /\ pok hs.length h.length π' = true /\
 ∀ π'' ρ σ, Inj π' -> PLe π' π'' -> (∀ i x, ZaO π'' i = some x -> i < hs.length) -> Hp C ρ h σ -> Hp C (ZcN π'' ρ) (ZeG C hs dh) σ /\
  ∀ i x b, (ZeG C hs dh)[i]? = some x -> x.alive = true -> (ZcN π'' ρ i).owns b -> ∃ j y, ZaO π' i = some (some j) /\ h[j]? = some y /\ y.alive = true /\ (ρ j).owns b := by
 unfold ZlV at hk
 obtain ⟨dh, π', h1, h2, h3, h4⟩ := Zw3 hk
 cases hp : pok hs.length h.length π'
 ·rw [hp] at h1; cases h1
 rw [hp] at h1
 refine ⟨dh, π', h1, h2, h3, hp, fun π'' ρ σ hI hle hM H => ?_⟩
 have hM' : ∀ i x, ZaO π' i = some x -> i < hs.length := fun i x hx => (Zfp hp hx).1
 have key : ∀ i x b, (ZeG C hs dh)[i]? = some x -> x.alive = true -> (ZcN π'' ρ i).owns b -> ∃ j y, ZaO π' i = some (some j) /\ h[j]? = some y /\ y.alive = true /\ (ρ j).owns b := fun i x b hx ha hb => by
  have g := h4 hs.length i x hx
  rw [Nat.zero_add] at g
  obtain ⟨j, y, g1, g2, g3, g4⟩ := (g.2 π'' ρ σ hle hM H).2 ha b hb
  refine ⟨j, y, ?_, g2, g3, g4⟩
  obtain ⟨w, hl⟩ := g.1 ha
  have := hle _ _ hl
  rw [g1] at this
  injection this with this
  rw [this]; exact hl
 refine ⟨⟨fun i x hx => ?_, fun i j x y b hx hy ax ay bx by_ => ?_⟩, key⟩
 ·have g := h4 hs.length i x hx
  rw [Nat.zero_add] at g
  rw [Zcj]
  exact (g.2 π'' ρ σ hle hM H).1
 ·obtain ⟨a, u, g1, g2, g3, g4⟩ := key i x b hx ax bx
  obtain ⟨c, v, g5, g6, g7, g8⟩ := key j y b hy ay by_
  have := H.dist a c u v b g2 g6 g3 g7 g4 g8
  subst this
  exact hI i j a g1 g5
end
end Go.Proofs.YteempnebenjkmaaDoor
namespace Go.Proofs.YteempnebenjkmaaDoor
open Go.RowKit
set_option linter.unusedSimpArgs false
set_option maxRecDepth 100000
set_option linter.unusedVariables false
variable {T : Nat -> Type} {A : Type}
section
variable {C : Zaw T} {ρ ρ' ρt : Nat -> AV} {π π' π'' : Pi} {n N N' : Nat} {z : A} {h ht : List (HI T)} {σ τ : St} {f : Nat -> Option Nat} {P : Program}
def ZnV (f : Nat -> Option Nat) (N' : Nat) (ρ' : Nat -> AV) (n : Nat) (ρt : Nat -> AV) : Prop := ∀ i, i < n -> ∀ j, f i = some j -> j < N' /\ ρ' j = ρt i
theorem Zrs (hr : ZnV f N' ρ' n ρt) : ∀ {ps qs bs : List Nat}, ps.mapM f = some qs -> ZeO n ρt ps bs -> ZeO N' ρ' qs bs
 | [], qs, bs, hm, hp => by
  simp at hm
  subst hm
  cases bs <;> first | trivial | exact hp.elim
 | i :: ps, qs, bs, hm, hp => by
  cases bs with
  | nil => exact hp.elim
  | cons b bs =>
   rw [List.mapM_cons] at hm
   cases hf : f i with
   | none => rw [hf] at hm; cases hm
   | some j =>
    rw [hf] at hm
    cases hq : ps.mapM f with
    | none => rw [hq] at hm; cases hm
    | some qs' =>
     rw [hq] at hm
     injection hm with hm
     subst hm
     obtain ⟨g1, g2⟩ := hr i hp.1.1 j hf
     exact ⟨⟨g1, g2.trans hp.1.2⟩, Zrs hr hq hp.2⟩
theorem ZtU (hr : ZnV f N' ρ' n ρt) {v : XV T} {a : AV} (hs : SV C n ρt v a) : SV C N' ρ' (ZzE f v) a := by
 cases v with
 | sl E xs o =>
  cases o with
  | none => exact SVs.shut hs (by intro v hv; simp at hv; subst hv; rfl)
  | some i =>
   obtain ⟨ea, hi, h2⟩ := ZfZ.1 hs
   have h2' : SV C N' ρ' (.sl E xs none) a := SVs.shut h2 (by intro v hv; simp at hv; subst hv; rfl)
   show SV C N' ρ' (.sl E xs (f i)) a
   cases hf : f i with
   | none => exact h2'
   | some j =>
    obtain ⟨g1, g2⟩ := hr i hi j hf
    exact ZfZ.2 ⟨ea.trans g2.symm, g1, h2'⟩
 | slx E xs ys => exact SVs.shut hs (by intro v hv; simp at hv; subst hv; rfl)
 | mp E kk tb =>
  obtain ⟨b, ls, rfl, h5⟩ := ZxR.1 hs
  exact ZxR.2 ⟨b, ls, rfl, SVs.shut h5 (by
   intro v hv
   obtain ⟨p, _, rfl⟩ := List.mem_map.1 hv
   rfl)⟩
 | ptr i o =>
  obtain ⟨b, ea, hi, h2⟩ := Zdl.1 hs
  show SV C N' ρ' (match f i with | some j => .ptr j o | none => .junk) a
  cases hf : f i with
  | none => exact Zby
  | some j =>
   obtain ⟨g1, g2⟩ := hr i hi j hf
   exact Zdl.2 ⟨b, ea, g1, g2.trans h2⟩
 | mo i =>
  obtain ⟨b, ea, hi, h2⟩ := ZlD.1 hs
  show SV C N' ρ' (match f i with | some j => .mo j | none => .junk) a
  cases hf : f i with
  | none => exact Zby
  | some j =>
   obtain ⟨g1, g2⟩ := hr i hi j hf
   exact ZlD.2 ⟨b, ea, g1, g2.trans h2⟩
 | gv i c l =>
  obtain ⟨hi, h2⟩ := Zqg.1 hs
  show SV C N' ρ' (match f i with | some j => .gv j c l | none => .junk) a
  cases hf : f i with
  | none => exact Zby
  | some j =>
   obtain ⟨g1, g2⟩ := hr i hi j hf
   exact Zqg.2 ⟨g1, by rw [g2]; exact h2⟩
 | as E i lo m co =>
  show SV C N' ρ' (match f i with | some j => .as E j lo m co | none => .junk) a
  cases hf : f i with
  | none => exact Zby
  | some j =>
   rcases ZbK.1 hs with ⟨ad, c, ea, hA⟩ | ⟨ea, hn0, hiN, hρi, hco⟩
   ·obtain ⟨g1, g2⟩ := hr i hA.lt j hf
    obtain ⟨b, q1, q2⟩ := hA.at_
    exact ZbK.2 (.inl ⟨ad, c, ea, g1, hA.le, hA.max, hA.len, ⟨b, g2.trans q1, q2⟩, hA.cap⟩)
   ·obtain ⟨g1, g2⟩ := hr i hiN j hf
    exact ZbK.2 (.inr ⟨ea, hn0, g1, g2.trans hρi, hco⟩)
 | ap E i k o =>
  obtain ⟨b, ea, hi, K, h2⟩ := ZmM.1 hs
  show SV C N' ρ' (match f i with | some j => .ap E j k o | none => .junk) a
  cases hf : f i with
  | none => exact Zby
  | some j =>
   obtain ⟨g1, g2⟩ := hr i hi j hf
   exact ZmM.2 ⟨b, ea, g1, K, g2.trans h2.1, h2.2⟩
 | clo g ps =>
  obtain ⟨bs, ea, h2⟩ := Zib.1 hs
  show SV C N' ρ' (match ps.mapM f with | some qs => .clo g qs | none => .junk) a
  cases hf : ps.mapM f with
  | none => exact Zby
  | some qs => exact Zib.2 ⟨bs, ea, Zrs hr hf h2⟩
 | agg l => exact Zby
 | tup l => exact Zby
 | vl l => exact Zby
 | ce l => exact Zby
 | el E x o =>
  obtain ⟨ad, cs, rest, ea, h2⟩ := ZoU.1 hs
  exact ZoU.2 ⟨ad, cs, rest, ea, h2.shut fun v hv => C.shut E x v (List.mem_of_mem_drop hv)⟩
 | int k m => exact Zan.2 (Zan.1 hs)
 | bool b => exact ZaU.2 (ZaU.1 hs)
 | str s => exact Zb3.2 (Zb3.1 hs)
 | nil => exact ZdJ.2 (ZdJ.1 hs)
 | nilptr => exact Zcb.2 (Zcb.1 hs)
 | nmap => exact ZgC.2 (ZgC.1 hs)
 | fn g => exact Zi0.2 (Zi0.1 hs)
 | undef => exact Zi1.2 (Zi1.1 hs)
 | junk => exact Zby
theorem Zrt (hr : ZnV f N' ρ' n ρt) {vs : List (XV T)} {as_ : List AV} (hs : SVs C n ρt vs as_) : SVs C N' ρ' (vs.map (ZzE f)) as_ := by
 induction vs generalizing as_ with
 | nil => rw [Zbd.1 hs]; exact .none
 | cons v vs ih => obtain ⟨a, bs, rfl, h1, h2⟩ := hs.to; exact .cons (ZtU hr h1) (ih h2)
theorem ZtV (hr : ZnV f N' ρ' n ρt) {v : XV T} {a : AV} (hs : SV C n ρt v a) : SV C N' ρ' (ZzF f v) a := by
 cases v with
 | agg l => obtain ⟨ls, rfl, hl⟩ := Zcm.1 hs; exact Zcm.2 ⟨ls, rfl, Zrt hr hl⟩
 | _ => exact ZtU hr hs
theorem Zru (hr : ZnV f N' ρ' n ρt) {vs : List (XV T)} {as_ : List AV} (hs : SVs C n ρt vs as_) : SVs C N' ρ' (vs.map (ZzF f)) as_ := by
 induction vs generalizing as_ with
 | nil => rw [Zbd.1 hs]; exact .none
 | cons v vs ih => obtain ⟨a, bs, rfl, h1, h2⟩ := hs.to; exact .cons (ZtV hr h1) (ih h2)
theorem ZtW (hr : ZnV f N' ρ' n ρt) {v : XV T} {a : AV} (hs : SV C n ρt v a) : SV C N' ρ' (ZzG f v) a := by
 cases v with
 | tup l => obtain ⟨ls, rfl, hl⟩ := Zfn.1 hs; exact Zfn.2 ⟨ls, rfl, Zru hr hl⟩
 | _ => exact ZtV hr hs
theorem ZxZ (hr : ZnV f N' ρ' n ρt) {x : HI T} {i j : Nat} (hs : SH C n ρt τ i x) (he : ρ' j = ρt i) : SH C N' ρ' τ j (ZzH f x) := by
 cases x with
 | obj t cs =>
  obtain ⟨b, acs, h1, h2, h3, h4⟩ := hs
  exact ⟨b, acs, he.trans h1, h2, h3, Zrt hr h4⟩
 | mmap K V es =>
  obtain ⟨b, h1, h2, h3⟩ := hs
  exact ⟨b, he.trans h1, h2, h3⟩
 | row e sz =>
  obtain ⟨m, cs, ho⟩ := hs
  exact ⟨m, cs, by rw [he]; exact ho⟩
 | gen E x =>
  show C.gsh E x τ (ρ' j)
  rw [he]; exact hs
 | arr e E kp xs =>
  rcases hs with ⟨b, K', pre, rest, h1, h2, h3, h4⟩ | ⟨h1, h2⟩
  ·exact .inl ⟨b, K', pre, rest, he.trans h1, h2, h3, h4⟩
  ·exact .inr ⟨he.trans h1, h2⟩
 | dead => trivial
theorem ZhH (x : HI T) : (ZzH f x).alive = x.alive := by cases x <;> rfl
theorem ZlX {α β : Type} (g : Nat -> α -> β) : ∀ (l : List α) (i j : Nat), (Zhi g i l)[j]? = (l[j]?).map (g (i + j))
 | [], i, j => by simp [Zhi]
 | x :: l, i, 0 => by simp [Zhi]
 | x :: l, i, j + 1 => by
  rw [Zhi, List.getElem?_cons_succ, ZlX g l (i + 1) j, List.getElem?_cons_succ, show i + 1 + j = i + (j + 1) from by omega]
theorem Zix {α β : Type} (g : Nat -> α -> β) : ∀ (l : List α) (i : Nat), (Zhi g i l).length = l.length
 | [], i => rfl
 | x :: l, i => by simp [Zhi, Zix g l]
inductive ZBY (π : Pi) (n : Nat) (h ht : List (HI T)) (j : Nat) (x : HI T) : Prop where
 | old (hx : h[j]? = some x) (hp : ZlW π j n = none)
 | new (i : Nat) (y : HI T) (hy : ht[i]? = some y) (e : x = ZzH (pf π n h.length) y) (w : (j < h.length /\ i < n /\ ZaO π i = some (some j)) \/ (n <= i /\ j = h.length + (i - n)))
theorem Zi7 (hn : n <= ht.length) {j : Nat} {x : HI T} (hx : (Zi6 π n h ht)[j]? = some x) : ZBY π n h ht j x := by
 unfold Zi6 at hx
 rw [List.getElem?_append, Zix] at hx
 split at hx
 ·rename_i hj
  rw [ZlX, Nat.zero_add] at hx
  obtain ⟨y, hy⟩ : ∃ y, h[j]? = some y := ⟨_, List.getElem?_eq_getElem hj⟩
  rw [hy] at hx
  simp only [Option.map_some, Option.some.injEq] at hx
  unfold upd at hx
  split at hx
  ·rename_i i hi
   obtain ⟨h1, h2⟩ := ZjR hi
   obtain ⟨w, hw⟩ : ∃ w, ht[i]? = some w := ⟨_, List.getElem?_eq_getElem (by omega)⟩
   rw [hw] at hx
   exact .new i w hw hx.symm (.inl ⟨hj, h1, h2⟩)
  ·rename_i hi
   subst hx
   exact .old hy hi
 ·rename_i hj
  rw [List.getElem?_map] at hx
  cases hd : (ht.drop n)[j - h.length]? with
  | none => rw [hd] at hx; cases hx
  | some y =>
   rw [hd] at hx
   simp only [Option.map_some, Option.some.injEq] at hx
   rw [List.getElem?_drop] at hd
   exact .new (n + (j - h.length)) y hd hx.symm (.inr ⟨by omega, by omega⟩)
theorem ZlY (π : Pi) (n : Nat) (h ht : List (HI T)) : (Zi6 π n h ht).length = h.length + (ht.length - n) := by
 unfold Zi6
 rw [List.length_append, Zix, List.length_map, List.length_drop]
theorem ZA8 {V : Nat -> Prop} {hs : List (HI T)} (hn : hs.length = n) (hp : pok n h.length π = true) (H : Hp C ρ h σ) (Ht : Hp C ρt ht τ) (R : Rel V (ZcN π ρ) hs σ ρt ht τ)
 (key : ∀ i x b, hs[i]? = some x -> x.alive = true -> (ZcN π ρ i).owns b -> ∃ j y, ZaO π i = some (some j) /\ h[j]? = some y /\ y.alive = true /\ (ρ j).owns b) :
 ∃ ρ', ZnV (pf π n h.length) (Zi6 π n h ht).length ρ' ht.length ρt /\ Hp C ρ' (Zi6 π n h ht) τ /\ Rel (· ∈ Zy7 π) ρ h σ ρ' (Zi6 π n h ht) τ := by
 have hle : n <= ht.length := by rw [<- hn]; exact R.len
 refine ⟨fun j => if j < h.length then ρ j else ρt (n + (j - h.length)), ?_⟩
 generalize hρ' : (fun j => if j < h.length then ρ j else ρt (n + (j - h.length))) = ρ'
 have r1 : ∀ j, j < h.length -> ρ' j = ρ j := fun j hj => by subst hρ'; exact if_pos hj
 have r2 : ∀ i, n <= i -> ρ' (h.length + (i - n)) = ρt i := fun i hi => by
  subst hρ'
  show (if h.length + (i - n) < h.length then _ else ρt (n + (h.length + (i - n) - h.length))) = _
  rw [if_neg (by omega)]; congr 1; omega
 have r3 : ∀ i j, i < n -> ZaO π i = some (some j) -> ρ j = ρt i := fun i j hi hl => by
  rw [R.ext i (by omega)]
  unfold ZcN; rw [hl]
 have hren : ZnV (pf π n h.length) (Zi6 π n h ht).length ρ' ht.length ρt := fun i hi j hj => by
  rw [ZlY]
  unfold pf at hj
  cases hb : Nat.blt i n
  ·rw [hb] at hj
   have hin : n <= i := by
    refine Nat.le_of_not_lt fun hlt => ?_
    have : Nat.blt i n = true := Nat.ble_eq_true_of_le hlt
    rw [hb] at this; cases this
   injection hj with hj
   subst hj
   exact ⟨by omega, r2 i hin⟩
  ·rw [hb] at hj
   have hin : i < n := Nat.le_of_ble_eq_true hb
   simp only [cond_true] at hj
   cases hl : ZaO π i with
   | none => rw [hl] at hj; cases hj
   | some x =>
    rw [hl] at hj
    simp only at hj
    subst hj
    have hjN := (Zfp hp hl).2 j rfl
    exact ⟨by omega, (r1 j hjN).trans (r3 i j hin hl)⟩
 have hfrom : ∀ {i j : Nat} {y : HI T}, ht[i]? = some y -> ((j < h.length /\ i < n /\ ZaO π i = some (some j)) \/ (n <= i /\ j = h.length + (i - n))) -> ρ' j = ρt i := fun hy w => by
  rcases w with ⟨w1, w2, w3⟩ | ⟨w1, rfl⟩
  ·exact (r1 _ w1).trans (r3 _ _ w2 w3)
  ·exact r2 _ w1
 have hback : ∀ b, ZAs V (ZcN π ρ) hs b -> ∃ i j y, ZaO π i = some (some j) /\ h[j]? = some y /\ y.alive = true /\ (ρ j).owns b := fun b ⟨i, x, _, h2, h3, h4⟩ => (key i x b h2 h3 h4).elim fun j ⟨y, g⟩ => ⟨i, j, y, g⟩
 have hback' : ∀ b, Liv (ZcN π ρ) hs b -> ∃ i j y, ZaO π i = some (some j) /\ h[j]? = some y /\ y.alive = true /\ (ρ j).owns b := fun b ⟨i, x, h2, h3, h4⟩ => (key i x b h2 h3 h4).elim fun j ⟨y, g⟩ => ⟨i, j, y, g⟩
 have hold : ∀ j x b, h[j]? = some x -> x.alive = true -> (ρ j).owns b -> ZlW π j n = none -> ∀ i' j' y, ZaO π i' = some (some j') -> h[j']? = some y -> y.alive = true -> (ρ j').owns b -> False := fun j x b hx hxa hb hpi i' j' y g1 g2 g3 g4 => by
  have := H.dist j j' x y b hx g2 hxa g3 hb g4
  subst this
  exact ZjS hpi i' (Zfp hp g1).1 g1
 refine ⟨hren, ⟨fun j x hx => ?_, fun j k x y b hx hy ax ay bx by_ => ?_⟩, ⟨by rw [ZlY]; omega, r1, R.but.more fun b hb => ?_, fun b hb => ?_⟩⟩
 ·rcases Zi7 hle hx with ⟨hx, hpi⟩ | ⟨i, y, hy, rfl, w⟩
  ·have hj := Zaz hx
   have hN : h.length <= (Zi6 π n h ht).length := by rw [ZlY]; omega
   have := H.it j x hx
   cases x with
   | obj t cs =>
    obtain ⟨b, acs, g1, g2, g3, g4⟩ := this
    refine ⟨b, acs, (r1 j hj).trans g1, R.but.keep b _ (fun hl => ?_) g2, R.but.used _ g3, g4.ext hN r1⟩
    obtain ⟨i', j', y, q1, q2, q3, q4⟩ := hback b hl
    exact hold j _ b hx rfl (by rw [g1]; rfl) hpi i' j' y q1 q2 q3 q4
   | arr e E kp xs =>
    rcases this with ⟨b, K', pre, rest, g1, g2, g3, g4⟩ | ⟨g1, g2⟩
    ·refine .inl ⟨b, K', pre, rest, (r1 j hj).trans g1, R.but.keep b _ (fun hl => ?_) g2, R.but.used _ g3, g4⟩
     obtain ⟨i', j', y, q1, q2, q3, q4⟩ := hback b hl
     exact hold j _ b hx rfl (by rw [g1]; rfl) hpi i' j' y q1 q2 q3 q4
    ·exact .inr ⟨(r1 j hj).trans g1, g2⟩
   | mmap K V es =>
    obtain ⟨b, g1, g2, g3⟩ := this
    refine ⟨b, (r1 j hj).trans g1, R.but.keep b _ (fun hl => ?_) g2, R.but.used _ g3⟩
    obtain ⟨i', j', y, q1, q2, q3, q4⟩ := hback b hl
    exact hold j _ b hx rfl (by rw [g1]; rfl) hpi i' j' y q1 q2 q3 q4
   | row e sz =>
    obtain ⟨m, cs, ho⟩ := this
    refine ⟨m, cs, ?_⟩
    rw [r1 j hj]
    refine ho.but' R.but fun b hb hl => ?_
    obtain ⟨i', j', y, q1, q2, q3, q4⟩ := hback b hl
    exact hold j _ b hx rfl hb hpi i' j' y q1 q2 q3 q4
   | gen E x =>
    show C.gsh E x τ (ρ' j)
    rw [r1 j hj]
    refine C.gsh_but _ _ _ _ _ _ this R.but fun b hb hl => ?_
    obtain ⟨i', j', y, q1, q2, q3, q4⟩ := hback b hl
    exact hold j _ b hx rfl hb hpi i' j' y q1 q2 q3 q4
   | dead => trivial
  ·exact ZxZ hren (Ht.it i y hy) (hfrom hy w)
 ·have cross : ∀ {j k : Nat} {x y : HI T} {i : Nat}, h[j]? = some x -> ZlW π j n = none -> x.alive = true -> (ρ' j).owns b -> ht[i]? = some y -> y.alive = true -> (ρt i).owns b -> False := fun {j k x y i} hx hpi ax bx hy ay by_ => by
   have hj := Zaz hx
   rw [r1 j hj] at bx
   rcases R.born b ⟨i, y, hy, ay, by_⟩ with g | g
   ·obtain ⟨i', j', w, q1, q2, q3, q4⟩ := hback' b g
    exact hold j x b hx ax bx hpi i' j' w q1 q2 q3 q4
   ·exact g.2 (H.used ⟨j, x, hx, ax, bx⟩)
  rcases Zi7 hle hx with ⟨hx, hpi⟩ | ⟨i, x', hx', rfl, w⟩ <;> rcases Zi7 hle hy with ⟨hy, hpk⟩ | ⟨i2, y', hy', rfl, w2⟩
  ·rw [r1 j (Zaz hx)] at bx
   rw [r1 k (Zaz hy)] at by_
   exact H.dist j k x y b hx hy ax ay bx by_
  ·rw [ZhH] at ay
   rw [hfrom hy' w2] at by_
   exact (cross (k := k) hx hpi ax bx hy' ay by_).elim
  ·rw [ZhH] at ax
   rw [hfrom hx' w] at bx
   exact (cross (k := j) hy hpk ay by_ hx' ax bx).elim
  ·rw [ZhH] at ax ay
   rw [hfrom hx' w] at bx
   rw [hfrom hy' w2] at by_
   have := Ht.dist i i2 x' y' b hx' hy' ax ay bx by_
   subst this
   rcases w with ⟨w1, w3, w4⟩ | ⟨w1, w3⟩ <;> rcases w2 with ⟨u1, u3, u4⟩ | ⟨u1, u3⟩
   ·rw [w4] at u4; injection u4 with u4; injection u4
   ·omega
   ·omega
   ·omega
 ·obtain ⟨i', j', y, q1, q2, q3, q4⟩ := hback b hb
  exact ⟨j', y, ZnU q1, q2, q3, q4⟩
 ·obtain ⟨j, x, hx, ax, bx⟩ := hb
  rcases Zi7 hle hx with ⟨hx, hpi⟩ | ⟨i, y, hy, rfl, w⟩
  ·rw [r1 j (Zaz hx)] at bx
   exact .inl ⟨j, x, hx, ax, bx⟩
  ·rw [ZhH] at ax
   rw [hfrom hy w] at bx
   rcases R.born b ⟨i, y, hy, ax, bx⟩ with g | g
   ·obtain ⟨i', j', w, q1, q2, q3, q4⟩ := hback' b g
    exact .inl ⟨j', w, q2, q3, q4⟩
   ·exact .inr g
theorem ZlZ {vs : List Vs} {hs : List Hs} {xs : List (XV T)} {k : VsD T vs -> HsD T hs -> Pi -> Option A} (hk : ZmP C vs hs xs h k = some z) : ∃ d dh π, k d dh π = some z /\ pok hs.length h.length π = true /\
 ∀ ρ σ as_, SVs C h.length ρ xs as_ -> Hp C ρ h σ -> SVs C hs.length (ZcN π ρ) (ZmH C vs d) as_ /\ Hp C (ZcN π ρ) (ZeG C hs dh) σ /\
  ∀ i x b, (ZeG C hs dh)[i]? = some x -> x.alive = true -> (ZcN π ρ i).owns b -> ∃ j y, ZaO π i = some (some j) /\ h[j]? = some y /\ y.alive = true /\ (ρ j).owns b := by
 unfold ZmP at hk
 obtain ⟨d, π1, h1, h2, h3, h4⟩ := Znm hk
 obtain ⟨dh, π2, g1, g2, g3, g4, g5⟩ := Zhk h1
 have hI : Inj π2 := g3 (h3 fun i j x hx _ => by simp [ZaO] at hx)
 refine ⟨d, dh, π2, g1, g4, fun ρ σ as_ hs H => ?_⟩
 have hM : ∀ i x, ZaO π2 i = some x -> i < _ := fun i x hx => (Zfp g4 hx).1
 exact ⟨h4 _ _ π2 ρ as_ g2 hM hs, g5 π2 ρ σ hI (.refl _) hM H⟩
end
end Go.Proofs.YteempnebenjkmaaDoor
namespace Go.Proofs.YteempnebenjkmaaDoor
open Go.RowKit
set_option linter.unusedSimpArgs false
set_option maxRecDepth 100000
set_option linter.unusedVariables false
variable {T : Nat -> Type} {A : Type}
def ZiR : Nat -> List Hs -> Pi
 | _, [] => []
 | i, .obj _ _ :: l => (i, some i) :: ZiR (i + 1) l
 | i, .cobj _ _ :: l => (i, some i) :: ZiR (i + 1) l
 | i, .arr _ _ true :: l => (i, some i) :: ZiR (i + 1) l
 | i, .mmap _ _ :: l => (i, some i) :: ZiR (i + 1) l
 | i, .gen _ true :: l => (i, some i) :: ZiR (i + 1) l
 | i, _ :: l => ZiR (i + 1) l
def ZtX (n m : Nat) (π : Pi) : Bool := Nat.ble n m && π.all fun p => Nat.ble n p.1 || oeq p.2 (some p.1)
def Zpa (n : Nat) (π : Pi) : Pi := π ++ (List.range n).map fun i => (i, some i)
def Zx0 (C : Zaw T) (n : Nat) (r : Rs) (outs : List Hs) (π0 : Pi) (v : XV T) (h : List (HI T)) (k : r.D T -> HsD T outs -> Option A) : Option A :=
 r.rd C v π0 fun d π => ZlV C outs h π fun dh π => cond (ZtX n outs.length π) (k d dh) none
section
variable {C : Zaw T} {ρ ρ' ρt ρ0 : Nat -> AV} {π π' π'' π0 : Pi} {n N N' : Nat} {z : A} {h ht h0 : List (HI T)} {σ τ σ0 : St} {P : Program} {U : Nat -> Prop}
theorem Zl0 {l : Pi} {i : Nat} : ∀ {π : Pi}, ZaO (π ++ l) i = match ZaO π i with | some x => some x | none => ZaO l i
 | [] => rfl
 | (j, y) :: π => by
  rw [List.cons_append, ZaK, ZaK]
  split
  ·rfl
  ·exact Zl0
theorem Zpb {i : Nat} {x : Option Nat} : ∀ {l : List Nat}, ZaO (l.map fun i => (i, some i)) i = some x -> i ∈ l /\ x = some i
 | [], h => by simp [ZaO] at h
 | j :: l, h => by
  rw [List.map_cons, ZaK] at h
  split at h
  ·rename_i e; subst e; injection h with h; exact ⟨List.mem_cons_self, h.symm⟩
  ·obtain ⟨h1, h2⟩ := Zpb h; exact ⟨List.mem_cons_of_mem _ h1, h2⟩
theorem Zi8 {i : Nat} : ∀ {l : List Nat}, i ∈ l -> ZaO (l.map fun i => (i, some i)) i = some (some i)
 | j :: l, h => by
  rw [List.map_cons, ZaK]
  split
  ·rename_i e; rw [e]
  ·rename_i e
   rcases List.mem_cons.1 h with rfl | h
   ·exact absurd rfl e
   ·exact Zi8 h
theorem ZhI (hok : ZtX n N π = true) (hn : n <= N) {i : Nat} : (i < n -> ZaO (Zpa n π) i = some (some i)) /\ (n <= i -> ZaO (Zpa n π) i = ZaO π i) := by
 unfold ZtX at hok
 simp only [Bool.and_eq_true] at hok
 unfold Zpa
 rw [Zl0]
 refine ⟨fun hi => ?_, fun hi => ?_⟩
 ·cases hl : ZaO π i with
  | none => exact Zi8 (List.mem_range.2 hi)
  | some x =>
   have := List.all_eq_true.1 hok.2 _ (Zhj hl)
   simp only [Bool.or_eq_true] at this
   rcases this with h1 | h1
   ·have := Nat.le_of_ble_eq_true h1; omega
   ·rw [Zrr h1]
 ·cases hl : ZaO π i with
  | none =>
   cases hr : ZaO ((List.range n).map fun i => (i, some i)) i with
   | none => rfl
   | some x => have := List.mem_range.1 (Zpb hr).1; omega
  | some x => rfl
theorem ZtY {s : Rs} {outs : List Hs} {v : XV T} {k : s.D T -> HsD T outs -> Option A} (hI0 : Inj π0) (hk : Zx0 C n s outs π0 v h k = some z) : ∃ d dh, k d dh = some z /\
 ∀ ρ0 h0 σ0 ρ σ a, h0.length = n -> SV C h.length ρ v a -> Hp C ρ h σ -> Rel (T := T) U ρ0 h0 σ0 ρ h σ -> ∃ ρ', SV C (ZeG C outs dh).length ρ' (s.st C d) a /\ Hp C ρ' (ZeG C outs dh) σ /\ Rel U ρ0 h0 σ0 ρ' (ZeG C outs dh) σ := by
 unfold Zx0 at hk
 obtain ⟨d, π1, h1, h2, h3, h4⟩ := ZA6 hk
 obtain ⟨dh, π2, g1, g2, g3, g4, g5⟩ := Zhk h1
 cases ho : ZtX n outs.length π2
 ·rw [ho] at g1; cases g1
 rw [ho] at g1
 refine ⟨d, dh, g1, fun ρ0 h0 σ0 ρ σ a hn hs H R => ?_⟩
 have hnm : n <= outs.length := by
  unfold ZtX at ho
  simp only [Bool.and_eq_true] at ho
  exact Nat.le_of_ble_eq_true ho.1
 have hlen := Zcj (C := C) outs dh
 have hle : PLe π2 (Zpa n π2) := fun i x hx => by
  by_cases hi : i < n
  ·rw [(ZhI ho hnm).1 hi]
   have := List.all_eq_true.1 (Bool.and_eq_true _ _ ▸ ho : _ /\ _).2 _ (Zhj hx)
   simp only [Bool.or_eq_true] at this
   rcases this with h1 | h1
   ·have := Nat.le_of_ble_eq_true h1; omega
   ·rw [Zrr h1]
  ·rw [(ZhI ho hnm).2 (by omega)]; exact hx
 have hM : ∀ i x, ZaO (Zpa n π2) i = some x -> i < outs.length := fun i x hx => by
  by_cases hi : i < n
  ·omega
  ·rw [(ZhI ho hnm).2 (by omega)] at hx; exact (Zfp g4 hx).1
 obtain ⟨q1, q2⟩ := g5 (Zpa n π2) ρ σ (g3 (h3 hI0)) hle hM H
 refine ⟨ZcN (Zpa n π2) ρ, ?_, q1, ?_⟩
 ·rw [hlen]; exact h4 _ _ (Zpa n π2) ρ a (g2.trans hle) hM hs
 ·refine ⟨by rw [hlen, hn]; exact hnm, fun i hi => ?_, R.but, fun b hb => ?_⟩
  ·rw [hn] at hi
   unfold ZcN
   rw [(ZhI ho hnm).1 hi]
   exact R.ext i (by omega)
  ·obtain ⟨i, x, e1, e2, e3⟩ := hb
   obtain ⟨j, y, w1, w2, w3, w4⟩ := q2 i x b e1 e2 e3
   exact R.born b ⟨j, y, w2, w3, w4⟩
theorem ZcK : ∀ (l : List Hs) (i : Nat), (∀ a x, ZaO (ZiR i l) a = some x -> x = some a)
 | [], i, a, x, h => by simp [ZiR, ZaO] at h
 | .obj t c :: l, i, a, x, h => by
  unfold ZiR at h
  rw [ZaK] at h
  split at h
  ·rename_i e; subst e; injection h with h; exact h.symm
  ·exact ZcK l (i + 1) a x h
 | .cobj t c :: l, i, a, x, h => by
  unfold ZiR at h
  rw [ZaK] at h
  split at h
  ·rename_i e; subst e; injection h with h; exact h.symm
  ·exact ZcK l (i + 1) a x h
 | .arr t c true :: l, i, a, x, h => by
  unfold ZiR at h
  rw [ZaK] at h
  split at h
  ·rename_i e; subst e; injection h with h; exact h.symm
  ·exact ZcK l (i + 1) a x h
 | .mmap t c :: l, i, a, x, h => by
  unfold ZiR at h
  rw [ZaK] at h
  split at h
  ·rename_i e; subst e; injection h with h; exact h.symm
  ·exact ZcK l (i + 1) a x h
 | .gen t true :: l, i, a, x, h => by
  unfold ZiR at h
  rw [ZaK] at h
  split at h
  ·rename_i e; subst e; injection h with h; exact h.symm
  ·exact ZcK l (i + 1) a x h
 | .gen _ false :: l, i, a, x, h => ZcK l (i + 1) a x h
 | .arr _ _ false :: l, i, a, x, h => ZcK l (i + 1) a x h
 | .row _ _ :: l, i, a, x, h => ZcK l (i + 1) a x h
 | .lobj _ _ :: l, i, a, x, h => ZcK l (i + 1) a x h
 | .lmap _ _ :: l, i, a, x, h => ZcK l (i + 1) a x h
 | .dead :: l, i, a, x, h => ZcK l (i + 1) a x h
theorem ZnW (l : List Hs) : Inj (ZiR 0 l) := fun i j x hi hj => by
 have h1 := ZcK l 0 i _ hi
 have h2 := ZcK l 0 j _ hj
 injection h1 with h1; injection h2 with h2
 rw [<- h1, <- h2]
end
structure CE (C : Zaw T) (P : Program) where
 f : FuncId
 args : List Vs
 hs : List Hs
 res : Rs
 outs : List Hs
 m : VsD T args -> HsD T hs -> Option (res.D T × HsD T outs)
 ok : ∀ d dh r, m d dh = some r -> Tr C P (fun _ => True) f (ZmH C args d) (ZeG C hs dh) (res.st C r.1) (ZeG C outs r.2)
 ro : Bool := false
 roOk : ro = true -> ∀ d dh r, m d dh = some r -> Tr C P (fun _ => False) f (ZmH C args d) (ZeG C hs dh) (res.st C r.1) (ZeG C outs r.2) := by exact fun h => absurd h Bool.false_ne_true
 two : Bool := false
 res2 : Rs := .tup []
 outs2 : List Hs := []
 mm : VsD T args -> HsD T hs -> Option ((res.D T × HsD T outs) ⊕ (res2.D T × HsD T outs2)) := fun _ _ => none
 okm : (∀ d dh r, mm d dh = some (.inl r) -> Tr C P (fun _ => True) f (ZmH C args d) (ZeG C hs dh) (res.st C r.1) (ZeG C outs r.2)) /\ (∀ d dh r, mm d dh = some (.inr r) -> Tr C P (fun _ => True) f (ZmH C args d) (ZeG C hs dh) (res2.st C r.1) (ZeG C outs2 r.2)) := by exact ⟨fun _ _ _ h => (nomatch h), fun _ _ _ h => (nomatch h)⟩
def ZBM : Cs -> XV T -> Bool
 | .ptr _ _, .ptr _ _ => true
 | .ptr _ _, _ => false
 | .mo _, .mo _ => true
 | .mo _, _ => false
 | .gv _ c _, .gv _ c' _ => Nat.beq c c'
 | .gv _ _ _, _ => false
 | .nilptr, .nilptr => true
 | .nilptr, _ => false
 | .fn f, .fn g => Nat.beq f g
 | .slx _, .slx _ _ _ => true
 | .slx _, .nil => true
 | .slx _, _ => false
 | .own _ _, .sl _ _ (some _) => true
 | .own _ _, .nil => true
 | .own _ _, _ => false
 | .as _ _, .as _ _ _ _ (some _) => true
 | .as _ _, .nil => true
 | .asu _ _, .nil => true
 | .asz _ _, .nil => true
 | .as _ _, _ => false
 | .asu _ _, .as _ _ _ _ _ => true
 | .asu _ _, _ => false
 | .asz _ _, .as _ _ _ _ _ => true
 | .asz _ _, _ => false
 | .clo f _, .clo g _ => Nat.beq f g
 | .clo _ _, _ => false
 | .sl _, .as _ _ _ _ _ => false
 | .mp _ _, _ => false
 | _, _ => true
def Zrv : List Cs -> List (XV T) -> Bool
 | c :: l, v :: vs => ZBM c v && Zrv l vs
 | _, _ => true
def ZBZ : XV T -> Bool
 | .as _ _ _ _ _ => false
 | _ => true
def ZA9 : Vs -> XV T -> Bool
 | .one c, v => ZBM c v
 | .agg cs, .agg l => Zrv cs l
 | .cod _, .agg l => l.all ZBZ
 | .vl cs, .vl l => Nat.beq cs.length l.length && Zrv cs l
 | .vl _, _ => false
 | .ce _, _ => false
 | _, .vl _ => false
 | _, _ => true
def ZzI : List Vs -> List (XV T) -> Bool
 | [], [] => true
 | c :: l, v :: vs => ZA9 c v && ZzI l vs
 | _, _ => false
def pick {C : Zaw T} {P : Program} : List (CE C P) -> FuncId -> List (XV T) -> Option (CE C P)
 | [], _, _ => none
 | E :: l, f, xs => cond (Nat.beq E.f f && ZzI E.args xs) (some E) (pick l f xs)
def ZBa : XV T -> Bool
 | .sl _ _ (some _) => false
 | _ => true
def ZB0 (h : List (HI T)) (x : Hs) (v : XV T) : Bool := match x, v with
 | .obj _ cs, .ptr j _ => match h[j]? with
  | some (.obj _ l) => Zrv cs l
  | _ => true
 | .cobj _ _, .ptr j _ => match h[j]? with
  | some (.obj _ l) => l.all ZBa
  | _ => true
 | _, _ => true
def ZvF (hs : List Hs) (h : List (HI T)) : List Vs -> List (XV T) -> Bool
 | .one (.ptr i _) :: l, v :: vs => (match hs[i]? with
  | some x => ZB0 h x v
  | none => true) && ZvF hs h l vs
 | _ :: l, _ :: vs => ZvF hs h l vs
 | _, _ => true
def ZvG {C : Zaw T} {P : Program} : List (CE C P) -> FuncId -> List (XV T) -> List (HI T) -> Option (CE C P)
 | [], _, _, _ => none
 | E :: l, f, xs, h => cond (Nat.beq E.f f && (ZzI E.args xs && ZvF E.hs h E.args xs)) (some E) (ZvG l f xs h)
def ZvH {C : Zaw T} {P : Program} (tbl : List (CE C P)) (f : FuncId) (xs : List (XV T)) (h : List (HI T)) : Option (CE C P) := match ZvG tbl f xs h with
 | some E => some E
 | none => pick tbl f xs
def ZzJ {C : Zaw T} {P : Program} (E : CE C P) (xs : List (XV T)) (h : List (HI T)) (k : XV T -> List (HI T) -> Option A) : Option A :=
 cond E.two (ZmP C E.args E.hs xs h fun d dh π => (E.mm d dh).bind fun s => match s with
  | .inl r => (ZzG (pf π E.hs.length h.length) (E.res.st C r.1)).force fun v => ZbH (Zi6 π E.hs.length h (ZeG C E.outs r.2)) fun h' => k v h'
  | .inr r => (ZzG (pf π E.hs.length h.length) (E.res2.st C r.1)).force fun v => ZbH (Zi6 π E.hs.length h (ZeG C E.outs2 r.2)) fun h' => k v h')
 (ZmP C E.args E.hs xs h fun d dh π => (E.m d dh).bind fun r =>
  (ZzG (pf π E.hs.length h.length) (E.res.st C r.1)).force fun v => ZbH (Zi6 π E.hs.length h (ZeG C E.outs r.2)) fun h' => k v h')
structure ZB5 (C : Zaw T) (P : Program) where
 on : Op -> List (XV T) -> Bool
 op : {A : Type} -> Op -> List (XV T) -> List (HI T) -> (XV T -> List (HI T) -> Option A) -> Option A
 ok : ∀ {A : Type} (tou : Tou T) o vs h (k : XV T -> List (HI T) -> Option A) z, on o vs = true -> op o vs h k = some z -> ∃ r h', k r h' = some z /\ ∀ d ty pos af g, ZlF C P (· ∈ Zic tou o vs h) ⟨d, o, ty, pos, af, g⟩ vs h r h'
def ZtZ {C : Zaw T} {P : Program} (tbl : List (CE C P)) (f : FuncId) (xs : List (XV T)) (h : List (HI T)) (k : XV T -> List (HI T) -> Option A) : Option A := match ZvH tbl f xs h with
 | some E => ZzJ E xs h k
 | none => none
def ZBb {C : Zaw T} {P : Program} (tbl : List (CE C P)) : Orc T A := ⟨ZtZ tbl, fun _ _ => false, fun _ _ _ _ => none⟩
def Zqz {C : Zaw T} {P : Program} (tbl : List (CE C P)) : Tou T := fun f xs h => match ZvH tbl f xs h with
 | some E => bif !E.two && E.ro then [] else match ZmP C E.args E.hs xs h (fun _ _ π => some (Zy7 π)) with
  | some l => l
  | none => []
 | none => []
theorem Zw4 {C : Zaw T} {P : Program} {f : FuncId} {xs : List (XV T)} {E : CE C P} : ∀ {tbl : List (CE C P)}, pick tbl f xs = some E -> E.f = f
 | [], h => by cases h
 | D :: l, h => by
  unfold pick at h
  cases hb : (Nat.beq D.f f && ZzI D.args xs)
  ·rw [hb] at h; exact Zw4 (tbl := l) h
  ·rw [hb] at h
   injection h with h
   subst h
   simp only [Bool.and_eq_true] at hb
   exact Nat.eq_of_beq_eq_true hb.1
theorem Zt0 {C : Zaw T} {P : Program} {f : FuncId} {xs : List (XV T)} {h : List (HI T)} {E : CE C P} : ∀ {tbl : List (CE C P)}, ZvG tbl f xs h = some E -> E.f = f
 | [], h => by cases h
 | D :: l, h' => by
  unfold ZvG at h'
  cases hb : (Nat.beq D.f f && (ZzI D.args xs && ZvF D.hs h D.args xs))
  ·rw [hb] at h'; exact Zt0 (tbl := l) h'
  ·rw [hb] at h'
   injection h' with h'
   subst h'
   simp only [Bool.and_eq_true] at hb
   exact Nat.eq_of_beq_eq_true hb.1
theorem Zx1 {C : Zaw T} {P : Program} {f : FuncId} {xs : List (XV T)} {h : List (HI T)} {E : CE C P} {tbl : List (CE C P)} (hp : ZvH tbl f xs h = some E) : E.f = f := by
 unfold ZvH at hp
 split at hp
 ·rename_i hs
  injection hp with hp
  subst hp
  exact Zt0 hs
 ·exact Zw4 hp
section
variable {C : Zaw T} {π : Pi} {h : List (HI T)}
theorem Za2 {i : Nat} {j : Option Nat} (k : Pi -> Option A) : Zg7 π i j k = (Zg7 π i j some).bind k := by
 unfold Zg7
 split
 ·cases oeq _ j <;> rfl
 ·cases ZvD π j <;> rfl
theorem ZjT : ∀ {B : Type} {ps qs : List Nat} {π : Pi} (k : Pi -> Option B), Znl π ps qs k = (Znl π ps qs some).bind k
 | B, [], [], π, k => rfl
 | B, i :: ps, j :: qs, π, k => by
  unfold Znl
  rw [Za2]; conv => rhs; rw [Za2]
  rw [Option.bind_assoc]
  congr 1; funext π'
  exact ZjT k
 | B, [], _ :: _, π, k => rfl
 | B, _ :: _, [], π, k => rfl
theorem ZnX : ∀ {B : Type} {n : Nat} {l : List Nat} (k : ND n -> Option B), rdN n l k = (rdN n l some).bind k
 | B, 0, [], k => rfl
 | B, n + 1, a :: l, k => by
  show (rdN n l fun d => k (a, d)) = (rdN n l fun d => some (a, d)).bind k
  rw [ZnX, ZnX (fun d => some (a, d)), Option.bind_assoc]; rfl
 | B, 0, _ :: _, k => rfl
 | B, _ + 1, [], k => rfl
theorem Zt1 {c : Cs} {v : XV T} (k : c.D T -> Pi -> Option A) : c.rd v π k = (c.rd v π fun d π => some (d, π)).bind fun p => k p.1 p.2 := by
 cases c with
 | own E i => cases v with
  | sl E' xs o => cases o with
   | none => rfl
   | some r =>
    unfold Cs.rd
    dsimp only
    split
    ·rw [Za2]; conv => rhs; rw [Za2]
     rw [Option.bind_assoc]; rfl
    ·rfl
  | nil =>
   unfold Cs.rd
   dsimp only
   rw [Za2]; conv => rhs; rw [Za2]
   rw [Option.bind_assoc]; rfl
  | _ => rfl
 | ptr i o => cases v with
  | ptr j o' =>
   unfold Cs.rd
   dsimp only
   cases Nat.beq o o'
   ·rfl
   ·simp only [cond_true]
    rw [Za2]; conv => rhs; rw [Za2]
    rw [Option.bind_assoc]; rfl
  | _ => rfl
 | mo i => cases v with
  | mo j =>
   unfold Cs.rd
   dsimp only
   rw [Za2]; conv => rhs; rw [Za2]
   rw [Option.bind_assoc]; rfl
  | _ => rfl
 | gv i c n => cases v with
  | gv j c' l =>
   unfold Cs.rd
   dsimp only
   cases Nat.beq c c'
   ·rfl
   ·simp only [cond_true]
    rw [Za2]; conv => rhs; rw [Za2]
    rw [Option.bind_assoc]
    congr 1; funext π'
    rw [ZnX]; conv => rhs; rw [ZnX]
    rw [Option.bind_assoc]; rfl
  | _ => rfl
 | int kd => cases v with
  | int kd' n => unfold Cs.rd; dsimp only; split <;> rfl
  | _ => rfl
 | sl E => cases v with
  | sl E' xs o => unfold Cs.rd; dsimp only; split <;> rfl
  | slx E' xs ys => unfold Cs.rd; dsimp only; split <;> rfl
  | _ => rfl
 | slx E => cases v with
  | slx E' xs ys => unfold Cs.rd; dsimp only; split <;> rfl
  | _ => rfl
 | fn f => cases v with
  | fn g => unfold Cs.rd; dsimp only; cases Nat.beq f g <;> rfl
  | _ => rfl
 | as E i => cases v with
  | as E' j lo n co =>
   cases co with
   | none => rfl
   | some c =>
    unfold Cs.rd
    dsimp only
    cases Nat.beq E' E
    ·rfl
    ·simp only [cond_true]
     rw [Za2]; conv => rhs; rw [Za2]
     rw [Option.bind_assoc]; rfl
  | nil =>
   unfold Cs.rd
   dsimp only
   rw [Za2]; conv => rhs; rw [Za2]
   rw [Option.bind_assoc]; rfl
  | _ => rfl
 | asu E i => cases v with
  | as E' j lo n co =>
   unfold Cs.rd
   dsimp only
   cases Nat.beq E' E
   ·rfl
   ·simp only [cond_true]
    rw [Za2]; conv => rhs; rw [Za2]
    rw [Option.bind_assoc]; rfl
  | nil =>
   unfold Cs.rd
   dsimp only
   rw [Za2]; conv => rhs; rw [Za2]
   rw [Option.bind_assoc]; rfl
  | _ => rfl
 | asz E i => cases v with
  | as E' j lo n co =>
   unfold Cs.rd
   dsimp only
   cases (Nat.beq E' E && Nat.beq lo 0)
   ·rfl
   ·simp only [cond_true]
    rw [Za2]; conv => rhs; rw [Za2]
    rw [Option.bind_assoc]; rfl
  | nil =>
   unfold Cs.rd
   dsimp only
   rw [Za2]; conv => rhs; rw [Za2]
   rw [Option.bind_assoc]; rfl
  | _ => rfl
 | clo f ps => cases v with
  | clo g qs =>
   unfold Cs.rd
   dsimp only
   cases Nat.beq f g
   ·rfl
   ·simp only [cond_true]
    rw [ZjT]; conv => rhs; rw [ZjT]
    rw [Option.bind_assoc]; rfl
  | _ => rfl
 | _ => cases v <;> rfl
theorem ZjU : ∀ {B : Type} {l : List Cs} {vs : List (XV T)} {π : Pi} (k : CsD T l -> Pi -> Option B), ZvE l vs π k = (ZvE l vs π fun d π => some (d, π)).bind fun p => k p.1 p.2
 | B, [], [], π, k => rfl
 | B, c :: l, v :: vs, π, k => by
  unfold ZvE
  rw [Zt1]; conv => rhs; rw [Zt1]
  rw [Option.bind_assoc]
  congr 1; funext p
  rw [ZjU]; conv => rhs; rw [ZjU]
  rw [Option.bind_assoc]; rfl
 | B, [], _ :: _, π, k => rfl
 | B, _ :: _, [], π, k => rfl
theorem Zw5 {s : Vs} {v : XV T} (k : s.D T -> Pi -> Option A) : s.rd C v π k = (s.rd C v π fun d π => some (d, π)).bind fun p => k p.1 p.2 := by
 cases s with
 | one c => exact Zt1 (c := c) k
 | agg l =>
  unfold Vs.rd
  dsimp only
  split
  ·exact ZjU k
  ·rfl
 | cod E =>
  unfold Vs.rd
  dsimp only
  split
  ·rw [Option.bind_assoc]; rfl
  ·rfl
 | vl l =>
  unfold Vs.rd
  dsimp only
  split
  ·exact ZjU k
  ·rfl
 | ce l => rfl
theorem ZnY : ∀ {B : Type} {l : List Vs} {vs : List (XV T)} {π : Pi} (k : VsD T l -> Pi -> Option B), ZtS C l vs π k = (ZtS C l vs π fun d π => some (d, π)).bind fun p => k p.1 p.2
 | B, [], [], π, k => rfl
 | B, c :: l, v :: vs, π, k => by
  unfold ZtS
  rw [Zw5]; conv => rhs; rw [Zw5]
  rw [Option.bind_assoc]
  congr 1; funext p
  rw [ZnY]; conv => rhs; rw [ZnY]
  rw [Option.bind_assoc]; rfl
 | B, [], _ :: _, π, k => rfl
 | B, _ :: _, [], π, k => rfl
theorem Zw6 {x : Hs} {i : Nat} (k : x.D T -> Pi -> Option A) : x.rd C i h π k = (x.rd C i h π fun d π => some (d, π)).bind fun p => k p.1 p.2 := by
 cases x with
 | obj t l =>
  unfold Hs.rd
  dsimp only
  split
  ·split
   ·cases Nat.beq t _
    ·rfl
    ·exact ZjU k
   ·rfl
  ·rfl
 | cobj t E =>
  unfold Hs.rd
  dsimp only
  split
  ·split
   ·cases Nat.beq t _
    ·rfl
    ·simp only [cond_true]; rw [Option.bind_assoc]; rfl
   ·rfl
  ·rfl
 | arr e E kp =>
  unfold Hs.rd
  dsimp only
  split
  ·split
   ·cases Nat.beq e _
    ·rfl
    ·simp only [cond_true]
     split <;> rfl
   ·rfl
  ·rfl
  ·rfl
 | mmap K V =>
  unfold Hs.rd
  dsimp only
  split
  ·split
   ·split <;> rfl
   ·rfl
  ·rfl
 | lobj t l =>
  unfold Hs.rd
  dsimp only
  split
  ·split
   ·cases Nat.beq t _
    ·rfl
    ·exact ZjU k
   ·rfl
  ·rfl
 | lmap K V =>
  unfold Hs.rd
  dsimp only
  split
  ·split
   ·split <;> rfl
   ·rfl
  ·rfl
 | gen E kp =>
  unfold Hs.rd
  dsimp only
  split
  ·split
   ·split <;> rfl
   ·rfl
  ·rfl
 | row e sz =>
  unfold Hs.rd
  dsimp only
  split
  ·split
   ·cases (Nat.beq e _ && Nat.beq sz _) <;> rfl
   ·rfl
  ·rfl
  ·rfl
 | dead => rfl
theorem ZnZ : ∀ {B : Type} {l : List Hs} {i : Nat} {π : Pi} (k : HsD T l -> Pi -> Option B), Zy6 C h i l π k = (Zy6 C h i l π fun d π => some (d, π)).bind fun p => k p.1 p.2
 | B, [], i, π, k => rfl
 | B, c :: l, i, π, k => by
  unfold Zy6
  rw [Zw6]; conv => rhs; rw [Zw6]
  rw [Option.bind_assoc]
  congr 1; funext p
  rw [ZnZ]; conv => rhs; rw [ZnZ]
  rw [Option.bind_assoc]; rfl
theorem Zt2 {hs : List Hs} (k : HsD T hs -> Pi -> Option A) : ZlV C hs h π k = (ZlV C hs h π fun d π => some (d, π)).bind fun p => k p.1 p.2 := by
 unfold ZlV
 rw [ZnZ]; conv => rhs; rw [ZnZ]
 rw [Option.bind_assoc]
 congr 1; funext p
 cases pok hs.length h.length p.2 <;> rfl
theorem Zn0 {vs : List Vs} {hs : List Hs} {xs : List (XV T)} (k : VsD T vs -> HsD T hs -> Pi -> Option A) : ZmP C vs hs xs h k = (ZmP C vs hs xs h fun d dh π => some (d, dh, π)).bind fun p => k p.1 p.2.1 p.2.2 := by
 unfold ZmP
 rw [ZnY]; conv => rhs; rw [ZnY]
 rw [Option.bind_assoc]
 congr 1; funext p
 rw [Zt2]; conv => rhs; rw [Zt2]
 rw [Option.bind_assoc]; rfl
end
theorem Zal {α β : Type} {o : Option α} {f : α -> Option β} {z : β} (h : o.bind f = some z) : ∃ a, o = some a /\ f a = some z := by
 cases o with
 | none => cases h
 | some a => exact ⟨a, rfl, h⟩
theorem Zt3 {C : Zaw T} {P : Program} (tbl : List (CE C P)) : ∀ f xs h (k : XV T -> List (HI T) -> Option A) z, ZtZ tbl f xs h k = some z -> ∃ r h', k r h' = some z /\ Tr C P (· ∈ Zqz tbl f xs h) f xs h r h' := by
 intro f xs h k z hk
 unfold ZtZ at hk
 split at hk
 ·rename_i E hE
  have hf := Zx1 hE
  unfold ZzJ at hk
  have fin : ∀ {d : VsD T E.args} {dh : HsD T E.hs} {π : Pi} {r : XV T} {h' : List (HI T)}, ZmP C E.args E.hs xs h (fun d dh π => some (d, dh, π)) = some (d, dh, π) -> (!E.two && E.ro) = false -> Tr C P (fun _ => True) f (ZmH C E.args d) (ZeG C E.hs dh) r h' ->
   Tr C P (· ∈ Zqz tbl f xs h) f xs h (ZzG (pf π E.hs.length h.length) r) (Zi6 π E.hs.length h h') := by
   intro d dh π r h' h1 hro ht
   obtain ⟨d', dh', π', e1, hp, hS⟩ := ZlZ h1
   injection e1 with e1
   injection e1 with e1 e2
   injection e2 with e2 e3
   subst e1 e2 e3
   have htou : Zqz tbl f xs h = Zy7 π' := by
    unfold Zqz
    rw [hE]
    dsimp only
    rw [hro, cond_false, Zn0, h1]
    rfl
   intro ρ σ as_ hs H
   obtain ⟨s1, s2, s3⟩ := hS ρ σ as_ hs H
   have s1' : SVs C (ZeG C E.hs dh').length (ZcN π' ρ) (ZmH C E.args d') as_ := by rw [Zcj]; exact s1
   refine (ht (ZcN π' ρ) σ as_ s1' s2).mono fun rv τ ⟨ρt, g1, g2, g3⟩ => ?_
   obtain ⟨ρ', q1, q2, q3⟩ := ZA8 (Zcj _ _) hp H g2 g3 s3
   refine ⟨ρ', ZtW q1 g1, q2, ?_⟩
   rw [htou]
   exact q3
  cases htw : E.two with
  | true =>
   rw [htw, cond_true, Zn0] at hk
   obtain ⟨⟨d, dh, π⟩, h1, h2⟩ := Zal hk
   dsimp only at h2
   obtain ⟨s, h3, h4⟩ := Zal h2
   cases s with
   | inl r =>
    dsimp only at h4
    rw [Zc9, Za4] at h4
    exact ⟨_, _, h4, fin h1 (by rw [htw]; rfl) (hf ▸ E.okm.1 d dh r h3)⟩
   | inr r =>
    dsimp only at h4
    rw [Zc9, Za4] at h4
    exact ⟨_, _, h4, fin h1 (by rw [htw]; rfl) (hf ▸ E.okm.2 d dh r h3)⟩
  | false =>
  rw [htw, cond_false, Zn0] at hk
  obtain ⟨⟨d, dh, π⟩, h1, h2⟩ := Zal hk
  dsimp only at h2
  obtain ⟨r, h3, h4⟩ := Zal h2
  rw [Zc9, Za4] at h4
  cases hro : E.ro with
  | true =>
   have hf2 := hf
   obtain ⟨d', dh', π', e1, hp, hS⟩ := ZlZ h1
   injection e1 with e1
   injection e1 with e1 e2
   injection e2 with e2 e3
   subst e1 e2 e3
   have ht := E.roOk hro d' dh' r h3
   rw [hf] at ht
   have htou : Zqz tbl f xs h = [] := by
    unfold Zqz
    rw [hE]
    dsimp only
    rw [hro, htw]
    rfl
   refine ⟨_, _, h4, fun ρ σ as_ hs H => ?_⟩
   obtain ⟨s1, s2, s3⟩ := hS ρ σ as_ hs H
   have s1' : SVs C (ZeG C E.hs dh').length (ZcN π' ρ) (ZmH C E.args d') as_ := by rw [Zcj]; exact s1
   refine (ht (ZcN π' ρ) σ as_ s1' s2).mono fun rv τ ⟨ρt, g1, g2, g3⟩ => ?_
   obtain ⟨ρ', q1, q2, q3⟩ := ZA8 (Zcj _ _) hp H g2 g3 s3
   refine ⟨ρ', ZtW q1 g1, q2, ?_⟩
   rw [htou]
   exact ⟨q3.len, q3.ext, ⟨fun c k _ hk => g3.but.keep c k (fun ⟨_, _, hF, _⟩ => hF) hk, q3.but.used⟩, q3.born⟩
  | false => exact ⟨_, _, h4, fin h1 (by rw [htw, hro]; rfl) (hf ▸ E.ok d dh r h3)⟩
 ·cases hk
theorem Zai {C : Zaw T} {P : Program} (tbl : List (CE C P)) : (ZBb tbl : Orc T A).Ok C P (Zqz tbl) := ⟨Zt3 tbl, fun o vs h k z h1 => by cases h1⟩
def ZAv (P : Program) (env : XE T) (h : List (HI T)) (r : ResultVar) (k : XV T -> Option A) : Option A := match r with
 | .tmp t => (Zld env t).force k
 | .cell a t => match Zld env a with
  | .ptr i o => match h[i]? with
   | some (.obj _ cs) => ZcH (Zds P t) (Zax P t) cs o k
   | _ => none
  | _ => none
def ZvI (P : Program) (env : XE T) (h : List (HI T)) : List ResultVar -> (List (XV T) -> Option A) -> Option A
 | [], k => k []
 | r :: l, k => ZAv P env h r fun v => ZvI P env h l fun vs => k (v :: vs)
def Zlg (P : Program) (env : XE T) (h : List (HI T)) (l : List ResultVar) (k : XV T -> Option A) : Option A := match l with
 | [r] => ZAv P env h r k
 | l => ZvI P env h l fun vs => k (.tup vs)
def Zsy : Nat -> List (XV T) -> XE T
 | _, [] => []
 | i, v :: l => (i, v) :: Zsy (i + 1) l
def ZzK (P : Program) (fn : Func) (n : Nat) : Bool := match fn.body with
 | some c => ZeM fn.ntmps c && (fn.name != "runtime.NumGoroutine") && Nat.ble n fn.ntmps
 | none => false
def ZBc (C : Zaw T) (P : Program) (tou : Tou T) (orc : Orc T A) (dr : Nat -> Nat -> DrA) (lps : Lps T A) (fn : Func) (xs : List (XV T)) (h : List (HI T)) (k : XV T -> List (HI T) -> Option A) : Option A := match fn.body with
 | some c => ZmO C P tou orc dr lps c (Zsy 0 xs) h fun ex env h => match ex with
  | .normal => Zlg P env h fn.results.toList fun v => k v h
  | .ret => Zlg P env h fn.results.toList fun v => k v h
  | _ => none
 | none => none
section
variable {C : Zaw T} {P : Program} {ρ : Nat -> AV} {env : XE T} {h : List (HI T)} {e : Env} {σ : St} {z : A}
theorem Znn {r : ResultVar} {k : XV T -> Option A} (hk : ZAv P env h r k = some z) : ∃ v, k v = some z /\ ∀ ρ e σ, Sat C ρ env h e σ -> ∃ a, Zbf P e σ r = some a /\ SV C h.length ρ v a := by
 unfold ZAv at hk
 split at hk
 ·rw [Zc9] at hk
  exact ⟨_, hk, fun ρ e σ hs => ⟨_, rfl, hs.env _⟩⟩
 ·rename_i a t
  split at hk
  ·rename_i i o hg
   split at hk
   ·rename_i t' cs hi
    obtain ⟨v, h1, h2⟩ := Zcr (C := C) hk
    refine ⟨v, h1, fun ρ e σ hs => ?_⟩
    have hp := hs.env a
    rw [hg] at hp
    obtain ⟨b, hb, _, hρ⟩ := Zdl.1 hp
    obtain ⟨b', acs, g1, g2, g3, g4⟩ := hs.hp.it i _ hi
    rw [hρ] at g1
    have := ZnT g1
    subst this
    obtain ⟨a', q1, q2⟩ := h2 h.length ρ acs [] g4
    rw [List.append_nil] at q1
    refine ⟨a', ?_, q2⟩
    show Zdu P t σ (e a) = some a'
    rw [hb]
    unfold Zdu ptr
    dsimp only
    rw [g2]
    exact q1
   ·cases hk
  ·cases hk
theorem Zl1 : ∀ {l : List ResultVar} {k : List (XV T) -> Option A}, ZvI P env h l k = some z -> ∃ vs, k vs = some z /\ ∀ ρ e σ, Sat C ρ env h e σ -> ∃ as_, l.mapM (Zbf P e σ) = some as_ /\ SVs C h.length ρ vs as_
 | [], k, hk => ⟨[], hk, fun ρ e σ hs => ⟨[], rfl, .none⟩⟩
 | r :: l, k, hk => by
  unfold ZvI at hk
  obtain ⟨v, h1, h2⟩ := Znn (C := C) hk
  obtain ⟨vs, h3, h4⟩ := Zl1 h1
  refine ⟨v :: vs, h3, fun ρ e σ hs => ?_⟩
  obtain ⟨a, g1, g2⟩ := h2 ρ e σ hs
  obtain ⟨as_, g3, g4⟩ := h4 ρ e σ hs
  exact ⟨a :: as_, by simp [g1, g3], .cons g2 g4⟩
theorem Zid {fn : Func} {k : XV T -> Option A} (hk : Zlg P env h fn.results.toList k = some z) : ∃ v, k v = some z /\ ∀ ρ e σ, Sat C ρ env h e σ -> ∃ a, Zaq P fn e σ a /\ SV C h.length ρ v a := by
 unfold Zlg at hk
 unfold Zaq
 split at hk
 ·rename_i r hl
  obtain ⟨v, h1, h2⟩ := Znn (C := C) hk
  refine ⟨v, h1, fun ρ e σ hs => ?_⟩
  rw [hl]
  exact h2 ρ e σ hs
 ·rename_i hl
  obtain ⟨vs, h1, h2⟩ := Zl1 (C := C) hk
  refine ⟨_, h1, fun ρ e σ hs => ?_⟩
  obtain ⟨as_, g1, g2⟩ := h2 ρ e σ hs
  refine ⟨.tup as_, ?_, Zfn.2 ⟨as_, rfl, g2⟩⟩
  split
  ·rename_i x hx; exact absurd hx (hl x)
  ·exact ⟨as_, g1, rfl⟩
theorem Zpc : ∀ (l : List (XV T)) (i j : Nat), Zld (Zsy i l) j = if i <= j then (l[j - i]?).getD .junk else .junk
 | [], i, j => by simp [Zsy, Zld]
 | v :: l, i, j => by
  unfold Zsy
  rw [Zi5, Zpc l (i + 1) j]
  by_cases h1 : i = j
  ·subst h1; simp
  ·rw [if_neg h1]
   by_cases h2 : i <= j
   ·rw [if_pos h2, if_pos (by omega), show j - i = (j - (i + 1)) + 1 from by omega, List.getElem?_cons_succ]
   ·rw [if_neg h2, if_neg (by omega)]
theorem Zsz {tou : Tou T} {orc : Orc T A} {dr : Nat -> Nat -> DrA} {lps : Lps T A} {f : FuncId} {fn : Func} {xs : List (XV T)} {k : XV T -> List (HI T) -> Option A} (hm : P.follows .mixedOrders = true) (hf : P.funcs[f]? = some fn) (hok : ZzK P fn xs.length = true) (hO : orc.Ok C P tou) (hL : ∀ c, fn.body = some c -> ∀ l ∈ ZbX c, lps.Ok C P l)
 (hk : ZBc C P tou orc dr lps fn xs h k = some z) : ∃ r h', k r h' = some z /\ Tr C P (fun _ => True) f xs h r h' := by
 unfold ZBc at hk
 split at hk
 ·rename_i c hc
  unfold ZzK at hok
  rw [hc] at hok
  simp only [Bool.and_eq_true] at hok
  obtain ⟨⟨o1, o2⟩, o3⟩ := hok
  obtain ⟨ex, env', h', k1, t1⟩ := Zci hO c _ _ _ (hL c hc) hk
  have fin : ∀ v, (k v h' = some z /\ ∀ ρ e σ, Sat C ρ env' h' e σ -> ∃ a, Zaq P fn e σ a /\ SV C h'.length ρ v a) -> (ex = .normal \/ ex = .ret) -> ∃ r h', k r h' = some z /\ Tr C P (fun _ => True) f xs h r h' := by
   rintro v ⟨k2, k3⟩ hex
   refine ⟨v, h', k2, fun ρ σ vs hs H => ?_⟩
   have hlen := hs.len
   refine ZaG hm hf hc o2 o1 (by rw [hlen]; exact Nat.le_of_ble_eq_true o3) ?_
   have hsat : Sat C ρ (Zsy 0 xs) h (Zvm vs) σ := by
    refine ⟨fun i => ?_, H⟩
    rw [Zpc, if_pos (Nat.zero_le _), Nat.sub_zero]
    unfold Zvm
    rw [List.getD_eq_getElem?_getD]
    cases hx : xs[i]? with
    | none => exact Zby
    | some x =>
     obtain ⟨a, g1, g2⟩ := hs.get hx
     rw [g1]; exact g2
   refine ZaX ?_ (t1 σ.used ρ _ σ hsat)
   rintro ex' e' σ' ⟨rfl, ρ', g1, g2⟩
   obtain ⟨a, q1, q2⟩ := k3 ρ' e' σ' g1
   rcases hex with rfl | rfl
   ·exact ⟨a, q1, ρ', q2, g1.hp, g2⟩
   ·exact ⟨a, q1, ρ', q2, g1.hp, g2⟩
  split at k1
  ·obtain ⟨v, q1, q2⟩ := Zid (C := C) k1
   exact fin v ⟨q1, q2⟩ (.inl rfl)
  ·obtain ⟨v, q1, q2⟩ := Zid (C := C) k1
   exact fin v ⟨q1, q2⟩ (.inr rfl)
  ·cases k1
 ·cases hk
theorem ZbA {tou : Tou T} {f : FuncId} {fn : Func} {args : List Vs} {hs : List Hs} {res : Rs} {outs : List Hs} {m : VsD T args -> HsD T hs -> Option (res.D T × HsD T outs)} {orc : Orc T (res.D T × HsD T outs)} {dr : Nat -> Nat -> DrA} {lps : Lps T (res.D T × HsD T outs)}
 (hm : P.follows .mixedOrders = true) (hf : P.funcs[f]? = some fn) (hok : ZzK P fn args.length = true) (hO : orc.Ok C P tou) (hL : ∀ c, fn.body = some c -> ∀ l ∈ ZbX c, lps.Ok C P l)
 (hrun : ∀ d dh, ZBc C P tou orc dr lps fn (ZmH C args d) (ZeG C hs dh) (fun v h => Zx0 C hs.length res outs (ZiR 0 hs) v h fun d dh => some (d, dh)) = m d dh) :
 ∀ d dh r, m d dh = some r -> Tr C P (fun _ => True) f (ZmH C args d) (ZeG C hs dh) (res.st C r.1) (ZeG C outs r.2) := by
 intro d dh r hr
 have hlen : ∀ (l : List Vs) (d : VsD T l), (ZmH C l d).length = l.length := by
  intro l
  induction l with
  | nil => intro d; rfl
  | cons v l ih => intro d; simp [ZmH, ih]
 rw [<- hrun] at hr
 obtain ⟨v, h', h1, h2⟩ := Zsz hm hf (by rw [hlen]; exact hok) hO hL hr
 obtain ⟨d', dh', h3, h4⟩ := ZtY (U := fun _ => True) (ZnW hs) h1
 injection h3 with h3
 subst h3
 intro ρ σ vs hs' H
 refine (h2 ρ σ vs hs' H).mono fun rv τ ⟨ρ', g1, g2, g3⟩ => ?_
 exact h4 ρ _ σ ρ' τ rv (Zcj _ _) g1 g2 g3
end
end Go.Proofs.YteempnebenjkmaaDoor
namespace Go.Proofs.YteempnebenjkmaaDoor
open Go.RowKit
set_option linter.unusedSimpArgs false
set_option maxRecDepth 100000
set_option linter.unusedVariables false
variable {T : Nat -> Type} {A : Type}
section
variable {α β : Type}
def Ziy (step : α -> Option (α ⊕ β)) : Nat -> α -> Option β
 | 0, _ => none
 | n + 1, a => match step a with
  | none => none
  | some (.inl a') => Ziy step n a'
  | some (.inr b) => some b
theorem Zno {step : α -> Option (α ⊕ β)} : ∀ {n : Nat} {a : α} {b : β}, Ziy step n a = some b -> Ziy step (n + 1) a = some b
 | 0, a, b, h => by cases h
 | n + 1, a, b, h => by
  unfold Ziy at h ⊢
  split at h
  ·cases h
  ·exact Zno h
  ·exact h
theorem Zrw {step : α -> Option (α ⊕ β)} {n m : Nat} (hnm : n <= m) {a : α} {b : β} (h : Ziy step n a = some b) : Ziy step m a = some b := by
 induction m with
 | zero => obtain rfl : n = 0 := by omega
           exact h
 | succ m ih =>
  rcases Nat.lt_or_ge m n with h1 | h1
  ·obtain rfl : n = m + 1 := by omega
   exact h
  ·exact Zno (ih h1)
open Classical in
noncomputable def Zbl (step : α -> Option (α ⊕ β)) (a : α) : Option β := if h : ∃ n b, Ziy step n a = some b then some (Classical.choose (Classical.choose_spec h)) else none
theorem Zn1 {step : α -> Option (α ⊕ β)} {n : Nat} {a : α} {b : β} (h : Ziy step n a = some b) : Zbl step a = some b := by
 unfold Zbl
 have hex : ∃ n b, Ziy step n a = some b := ⟨n, b, h⟩
 rw [dif_pos hex]
 have h2 := Classical.choose_spec (Classical.choose_spec hex)
 have h3 := Zrw (Nat.le_max_left _ n) h2
 have h4 := Zrw (Nat.le_max_right (Classical.choose hex) n) h
 rw [h4] at h3
 injection h3 with h3
 rw [h3]
theorem ZjV {step : α -> Option (α ⊕ β)} {a : α} {b : β} (h : Zbl step a = some b) : ∃ n, Ziy step n a = some b := by
 unfold Zbl at h
 split at h
 ·rename_i hex
  injection h with h
  have h2 := Classical.choose_spec (Classical.choose_spec hex)
  rw [h] at h2
  exact ⟨_, h2⟩
 ·cases h
theorem Zrx (step : α -> Option (α ⊕ β)) (a : α) : Zbl step a = match step a with
 | none => none
 | some (.inl a') => Zbl step a'
 | some (.inr b) => some b := by
 have up : ∀ {b}, Zbl step a = some b -> (match step a with | none => none | some (.inl a') => Zbl step a' | some (.inr b) => some b) = some b := fun {b} h => by
  obtain ⟨n, hn⟩ := ZjV h
  cases n with
  | zero => cases hn
  | succ n =>
   unfold Ziy at hn
   split at hn
   ·cases hn
   ·exact Zn1 hn
   ·exact hn
 have down : ∀ {b}, (match step a with | none => none | some (.inl a') => Zbl step a' | some (.inr b) => some b) = some b -> Zbl step a = some b := fun {b} h => by
  split at h
  ·cases h
  ·rename_i a' ha
   obtain ⟨n, hn⟩ := ZjV h
   exact Zn1 (n := n + 1) (by unfold Ziy; rw [ha]; exact hn)
  ·rename_i b' hb
   exact Zn1 (n := 1) (by unfold Ziy; rw [hb]; exact h)
 cases h1 : Zbl step a with
 | some b => exact (up h1).symm
 | none =>
  cases h2 : (match step a with | none => none | some (.inl a') => Zbl step a' | some (.inr b) => some b) with
  | none => rfl
  | some b => rw [down h2] at h1; cases h1
end
structure Ou where
 ex : Exit
 slots : List Nat
 vs : List Vs
 hs : List Hs
@[reducible] def Ou.D (T : Nat -> Type) (o : Ou) : Type := VsD T o.vs × HsD T o.hs
@[reducible] def OsD (T : Nat -> Type) : List Ou -> Type
 | [] => Empty
 | [o] => o.D T
 | o :: o' :: l => o.D T ⊕ OsD T (o' :: l)
def ZvJ : Exit -> Exit -> Bool
 | .normal, .normal => true
 | .ret, .ret => true
 | .exit a, .exit b => Nat.beq a b
 | _, _ => false
theorem ZqA {a b : Exit} (h : ZvJ a b = true) : a = b := by
 cases a <;> cases b <;> simp_all [ZvJ]
def ZdL (hs : List Hs) (i : Nat) : Bool := match hs[i]? with
 | some (.obj _ _) => true
 | some (.cobj _ _) => true
 | some (.arr _ _ true) => true
 | some (.mmap _ _) => true
 | some (.gen _ true) => true
 | _ => false
def Zpd (hs : List Hs) (m : Nat) (π : Pi) : Bool := Nat.ble hs.length m && π.all fun p => Nat.ble hs.length p.1 || (oeq p.2 (some p.1) && ZdL hs p.1)
def ZzL (C : Zaw T) (hs0 : List Hs) (π0 : Pi) (ex : Exit) (env : XE T) (h : List (HI T)) : (os : List Ou) -> (OsD T os -> Option A) -> Option A
 | [], _ => none
 | [o], k => cond (ZvJ ex o.ex) (ZtS C o.vs (o.slots.map (Zld env)) π0 fun d π => ZlV C o.hs h π fun dh π => cond (Zpd hs0 o.hs.length π) (k (d, dh)) none) none
 | o :: o' :: l, k => cond (ZvJ ex o.ex) (ZtS C o.vs (o.slots.map (Zld env)) π0 fun d π => ZlV C o.hs h π fun dh π => cond (Zpd hs0 o.hs.length π) (k (.inl (d, dh))) none) (ZzL C hs0 π0 ex env h (o' :: l) fun d => k (.inr d))
def ZAw (C : Zaw T) : (os : List Ou) -> OsD T os -> (Exit -> List Nat -> List (XV T) -> List (HI T) -> Option A) -> Option A
 | [], d, _ => d.elim
 | [o], d, k => k o.ex o.slots (ZmH C o.vs d.1) (ZeG C o.hs d.2)
 | o :: o' :: l, d, k => match d with
  | .inl d => k o.ex o.slots (ZmH C o.vs d.1) (ZeG C o.hs d.2)
  | .inr d => ZAw C (o' :: l) d k
def Zy8 : List Nat -> List (XV T) -> XE T
 | i :: l, v :: vs => (i, v) :: Zy8 l vs
 | _, _ => []
def ZBd (C : Zaw T) (slots : List Nat) (vs : List Vs) (hs : List Hs) (os : List Ou) : XK T ((VsD T vs × HsD T hs) ⊕ OsD T os) := fun ex env h =>
 cond (ZvJ ex .normal) (ZtS C vs (slots.map (Zld env)) (ZiR 0 hs) fun d π => ZlV C hs h π fun dh π => some (.inl (d, dh)))
  (ZzL C hs (ZiR 0 hs) ex env h os fun d => some (.inr d))
structure LE (C : Zaw T) (P : Program) where
 id : Nat
 slots : List Nat
 vs : List Vs
 hs : List Hs
 os : List Ou
 step : VsD T vs × HsD T hs -> Option ((VsD T vs × HsD T hs) ⊕ OsD T os)
noncomputable def ZvK {C : Zaw T} {P : Program} (E : LE C P) (env : XE T) (h : List (HI T)) (k : XK T A) : Option A :=
 ZmP C E.vs E.hs (E.slots.map (Zld env)) h fun d dh π => (Zbl E.step (d, dh)).bind fun b => ZAw C E.os b fun ex slots vs ht =>
  ZcV (vs.map (ZzF (pf π E.hs.length h.length))) fun vs => ZbH (Zi6 π E.hs.length h ht) fun h' => k ex (Zy8 slots vs) h'
def Zx2 {C : Zaw T} {P : Program} : List (LE C P) -> Nat -> Option (LE C P)
 | [], _ => none
 | E :: l, i => cond (Nat.beq E.id i) (some E) (Zx2 l i)
noncomputable def Za8 {C : Zaw T} {P : Program} (tbl : List (LE C P)) : Lps T A := fun i env h k => match Zx2 tbl i with
 | some E => ZvK E env h k
 | none => none
section
variable {C : Zaw T} {P : Program} {ρ ρ' ρ0 : Nat -> AV} {env env' : XE T} {h h0 h' : List (HI T)} {e : Env} {σ τ σ0 : St} {z : A} {n : Nat} {π0 : Pi}
structure ZzM (Kp : Nat -> Bool) (ρ0 : Nat -> AV) (h0 : List (HI T)) (σ0 : St) (ρ : Nat -> AV) (h : List (HI T)) (σ : St) : Prop where
 ext : ∀ i, Kp i = true -> ρ i = ρ0 i
 but : But (ZAs (fun _ => True) ρ0 h0) σ0 σ
 born : ∀ b, Liv ρ h b -> Liv ρ0 h0 b \/ (σ0.blk b = none /\ ¬ σ0.used b)
theorem ZqB (hs : ∀ i, SV C n ρ (Zld env i) (e i)) (l : List Nat) : SVs C n ρ (l.map (Zld env)) (l.map e) := by
 induction l with
 | nil => exact .none
 | cons i l ih => exact .cons (hs i) ih
theorem Zlh : ∀ (slots : List Nat) (vs : List (XV T)), SVs C n ρ vs (slots.map e) -> ∀ i, SV C n ρ (Zld (Zy8 slots vs) i) (e i)
 | [], vs, hs, i => by cases vs <;> exact Zby
 | s :: slots, [], hs, i => Zby
 | s :: slots, v :: vs, hs, i => by
  have h1 := hs.head
  have h2 := hs.tail
  unfold Zy8
  rw [Zi5]
  split
  ·rename_i hi; subst hi; exact h1
  ·exact Zlh slots vs h2 i
theorem Znp : ∀ (l : List Hs) (i k : Nat), ZdL l i = true -> ZaO (ZiR k l) (k + i) = some (some (k + i))
 | [], i, k, hi => by simp [ZdL] at hi
 | x :: l, 0, k, hi => by
  cases x with
  | obj t c => unfold ZiR; rw [ZaK, if_pos (by omega), Nat.add_zero]
  | cobj t c => unfold ZiR; rw [ZaK, if_pos (by omega), Nat.add_zero]
  | mmap K V => unfold ZiR; rw [ZaK, if_pos (by omega), Nat.add_zero]
  | arr t c kp => cases kp with
   | true => unfold ZiR; rw [ZaK, if_pos (by omega), Nat.add_zero]
   | false => simp [ZdL] at hi
  | row a b => simp [ZdL] at hi
  | gen t kp => cases kp with
   | true => unfold ZiR; rw [ZaK, if_pos (by omega), Nat.add_zero]
   | false => simp [ZdL] at hi
  | lobj a b => simp [ZdL] at hi
  | lmap a b => simp [ZdL] at hi
  | dead => simp [ZdL] at hi
 | x :: l, i + 1, k, hi => by
  have hi' : ZdL l i = true := by simpa [ZdL] using hi
  have ih := Znp l i (k + 1) hi'
  rw [show k + 1 + i = k + (i + 1) from by omega] at ih
  cases x with
  | obj t c => unfold ZiR; rw [ZaK, if_neg (by omega)]; exact ih
  | cobj t c => unfold ZiR; rw [ZaK, if_neg (by omega)]; exact ih
  | mmap K V => unfold ZiR; rw [ZaK, if_neg (by omega)]; exact ih
  | arr t c kp => cases kp with
   | true => unfold ZiR; rw [ZaK, if_neg (by omega)]; exact ih
   | false => exact ih
  | row a b => exact ih
  | gen t kp => cases kp with
   | true => unfold ZiR; rw [ZaK, if_neg (by omega)]; exact ih
   | false => exact ih
  | lobj a b => exact ih
  | lmap a b => exact ih
  | dead => exact ih
theorem Zt4 {l : List Hs} {i : Nat} (hi : ZdL l i = true) : i < l.length := by
 unfold ZdL at hi
 split at hi
 ·exact Zaz ‹_›
 ·exact Zaz ‹_›
 ·exact Zaz ‹_›
 ·exact Zaz ‹_›
 ·exact Zaz ‹_›
 ·cases hi
theorem ZzM.step {Kp : Nat -> Bool} {V : Nat -> Prop} (H0 : Hp C ρ0 h0 σ0) (L : ZzM Kp ρ0 h0 σ0 ρ h σ) (R : Rel V ρ h σ ρ' h' τ) (hobj : ∀ i, Kp i = true -> i < h.length) : ZzM Kp ρ0 h0 σ0 ρ' h' τ := by
 refine ⟨fun i hi => (R.ext i (hobj i hi)).trans (L.ext i hi), L.but.ext2 (fun b hb => ?_) R.but, fun b hb => ?_⟩
 ·obtain ⟨i, x, _, h2⟩ := hb
  rcases L.born b ⟨i, x, h2⟩ with ⟨j, y, h3⟩ | h3
  ·exact .inl ⟨j, y, trivial, h3⟩
  ·exact .inr h3.1
 ·rcases R.born b hb with h1 | ⟨h1, h2⟩
  ·exact L.born b h1
  ·exact .inr ⟨L.but.noneOfB (fun b ⟨i, x, _, h4⟩ => H0.used ⟨i, x, h4⟩) h2 h1, fun hu => h2 (L.but.used _ hu)⟩
theorem Hp.ext (H : Hp C ρ h σ) (hρ : ∀ i, i < h.length -> ρ' i = ρ i) : Hp C ρ' h σ := by
 refine ⟨fun i x hx => ?_, fun i j x y b hx hy ax ay bx by_ => ?_⟩
 ·have hi := Zaz hx
  have := H.it i x hx
  cases x with
  | obj t cs =>
   obtain ⟨b, acs, g1, g2, g3, g4⟩ := this
   exact ⟨b, acs, (hρ i hi).trans g1, g2, g3, g4.ext (Nat.le_refl _) hρ⟩
  | mmap K V es =>
   obtain ⟨b, g1, g2, g3⟩ := this
   exact ⟨b, (hρ i hi).trans g1, g2, g3⟩
  | row e sz =>
   obtain ⟨n, cs, ho⟩ := this
   exact ⟨n, cs, by rw [hρ i hi]; exact ho⟩
  | gen E x =>
   show C.gsh E x σ (ρ' i)
   rw [hρ i hi]; exact this
  | arr e E kp xs =>
   rcases this with ⟨b, K', pre, rest, g1, g2, g3, g4⟩ | ⟨g1, g2⟩
   ·exact .inl ⟨b, K', pre, rest, (hρ i hi).trans g1, g2, g3, g4⟩
   ·exact .inr ⟨(hρ i hi).trans g1, g2⟩
  | dead => trivial
 ·rw [hρ i (Zaz hx)] at bx
  rw [hρ j (Zaz hy)] at by_
  exact H.dist i j x y b hx hy ax ay bx by_
def ZBN (C : Zaw T) (Kp : Nat -> Bool) (env : XE T) (h : List (HI T)) (h0 : List (HI T)) (slots : List Nat) (vs : List (XV T)) (ht : List (HI T)) : Prop :=
 ∀ ρ0 σ0 ρ e σ, Sat C ρ env h e σ -> ZzM Kp ρ0 h0 σ0 ρ h σ -> ∃ ρ', SVs C ht.length ρ' vs (slots.map e) /\ Hp C ρ' ht σ /\ Rel (fun _ => True) ρ0 h0 σ0 ρ' ht σ
theorem Znq {hs : List Hs} (dh0 : HsD T hs) {o : Ou} {k : Ou.D T o -> Option A} (hk : (ZtS C o.vs (o.slots.map (Zld env)) (ZiR 0 hs) fun d π => ZlV C o.hs h π fun dh π => cond (Zpd hs o.hs.length π) (k (d, dh)) none) = some z) :
 ∃ d, k d = some z /\ ZBN C (ZdL hs) env h (ZeG C hs dh0) o.slots (ZmH C o.vs d.1) (ZeG C o.hs d.2) := by
 obtain ⟨d, π1, h1, h2, h3, h4⟩ := Znm hk
 obtain ⟨dh, π2, g1, g2, g3, g4, g5⟩ := Zhk h1
 cases ho : Zpd hs o.hs.length π2
 ·rw [ho] at g1; cases g1
 rw [ho] at g1
 refine ⟨(d, dh), g1, fun ρ0 σ0 ρ e σ hs1 R => ?_⟩
 unfold Zpd at ho
 simp only [Bool.and_eq_true] at ho
 obtain ⟨ho1, ho2⟩ := ho
 have hnm : hs.length <= o.hs.length := Nat.le_of_ble_eq_true ho1
 have hbd : ∀ i x, i < hs.length -> ZaO π2 i = some x -> x = some i /\ ZdL hs i = true := fun i x hi hx => by
  have := List.all_eq_true.1 ho2 _ (Zhj hx)
  simp only [Bool.or_eq_true, Bool.and_eq_true] at this
  rcases this with h1 | h1
  ·have := Nat.le_of_ble_eq_true h1; omega
  ·exact ⟨Zrr h1.1, h1.2⟩
 generalize hρ1 : (fun k => if k < h.length then ρ k else ρ0 (k - h.length)) = ρ1
 have r1 : ∀ k, k < h.length -> ρ1 k = ρ k := fun k hk => by subst hρ1; exact if_pos hk
 have r2 : ∀ k, ρ1 (h.length + k) = ρ0 k := fun k => by subst hρ1; show (if h.length + k < h.length then _ else ρ0 (h.length + k - h.length)) = _; rw [if_neg (by omega)]; congr 1; omega
 generalize hπ : π2 ++ (List.range hs.length).map (fun i => (i, some (h.length + i))) = π3
 have hlk : ∀ i, ZaO π3 i = match ZaO π2 i with | some x => some x | none => ZaO ((List.range hs.length).map (fun i => (i, some (h.length + i)))) i := fun i => by subst hπ; exact Zl0
 have hsh : ∀ (l : List Nat) i x, ZaO (l.map (fun i => (i, some (h.length + i)))) i = some x -> i ∈ l /\ x = some (h.length + i) := by
  intro l
  induction l with
  | nil => intro i x hx; simp [ZaO] at hx
  | cons j l ih =>
   intro i x hx
   rw [List.map_cons, ZaK] at hx
   split at hx
   ·rename_i e; subst e; injection hx with hx; exact ⟨List.mem_cons_self, hx.symm⟩
   ·obtain ⟨a, b⟩ := ih i x hx; exact ⟨List.mem_cons_of_mem _ a, b⟩
 have hsh2 : ∀ (l : List Nat) i, i ∈ l -> ZaO (l.map (fun i => (i, some (h.length + i)))) i = some (some (h.length + i)) := by
  intro l
  induction l with
  | nil => intro i hi; cases hi
  | cons j l ih =>
   intro i hi
   rw [List.map_cons, ZaK]
   split
   ·rename_i e; rw [e]
   ·rename_i e
    rcases List.mem_cons.1 hi with rfl | hi
    ·exact absurd rfl e
    ·exact ih i hi
 have hle : PLe π2 π3 := fun i x hx => by rw [hlk, hx]
 have hM : ∀ i x, ZaO π3 i = some x -> i < o.hs.length := fun i x hx => by
  rw [hlk] at hx
  cases hl : ZaO π2 i with
  | some y => exact (Zfp g4 hl).1
  | none =>
   rw [hl] at hx
   have := List.mem_range.1 (hsh _ _ _ hx).1
   omega
 have hsat : ∀ i, SV C h.length ρ1 (Zld env i) (e i) := fun i => (hs1.env i).ext (Nat.le_refl _) r1
 obtain ⟨q1, q2⟩ := g5 π3 ρ1 σ (g3 (h3 (ZnW hs))) hle hM (hs1.hp.ext r1)
 have q3 := h4 h.length o.hs.length π3 ρ1 _ (g2.trans hle) hM (ZqB hsat o.slots)
 refine ⟨ZcN π3 ρ1, by rw [Zcj]; exact q3, q1, ⟨by rw [Zcj, Zcj]; exact hnm, fun i hi => ?_, R.but, fun b hb => ?_⟩⟩
 ·rw [Zcj] at hi
  unfold ZcN
  rw [hlk]
  cases hl : ZaO π2 i with
  | some x =>
   obtain ⟨rfl, hob⟩ := hbd i x hi hl
   have hj := (Zfp g4 hl).2 i rfl
   show ρ1 i = ρ0 i
   rw [r1 i hj]
   exact R.ext i hob
  | none =>
   dsimp only
   rw [hsh2 _ _ (List.mem_range.2 hi)]
   exact r2 i
 ·obtain ⟨i, x, e1, e2, e3⟩ := hb
  obtain ⟨j, y, w1, w2, w3, w4⟩ := q2 i x b e1 e2 e3
  rw [r1 j (Zaz w2)] at w4
  exact R.born b ⟨j, y, w2, w3, w4⟩
theorem Zn2 {hs : List Hs} (dh0 : HsD T hs) : ∀ {os : List Ou} {ex : Exit} {k : OsD T os -> Option A}, ZzL C hs (ZiR 0 hs) ex env h os k = some z -> ∃ d, k d = some z /\
 ∃ slots vs ht, (∀ (B : Type) (k' : Exit -> List Nat -> List (XV T) -> List (HI T) -> Option B), ZAw C os d k' = k' ex slots vs ht) /\ ZBN C (ZdL hs) env h (ZeG C hs dh0) slots vs ht
 | [], ex, k, hk => by cases hk
 | [o], ex, k, hk => by
  unfold ZzL at hk
  cases hx : ZvJ ex o.ex
  ·rw [hx] at hk; cases hk
  rw [hx] at hk
  simp only [cond_true] at hk
  obtain ⟨d, h1, h2⟩ := Znq dh0 hk
  exact ⟨d, h1, _, _, _, fun B k' => by rw [ZqA hx]; rfl, h2⟩
 | o :: o' :: l, ex, k, hk => by
  unfold ZzL at hk
  cases hx : ZvJ ex o.ex
  ·rw [hx] at hk
   simp only [cond_false] at hk
   obtain ⟨d, h1, slots, vs, ht, h2, h3⟩ := Zn2 dh0 hk
   exact ⟨.inr d, h1, slots, vs, ht, fun B k' => h2 B k', h3⟩
  ·rw [hx] at hk
   simp only [cond_true] at hk
   obtain ⟨d, h1, h2⟩ := Znq (k := fun d => k (.inl d)) dh0 hk
   exact ⟨.inl d, h1, _, _, _, fun B k' => by rw [ZqA hx]; rfl, h2⟩
theorem Znr : ∀ (os : List Ou) (d : OsD T os), ∃ ex slots vs ht, ∀ (B : Type) (k' : Exit -> List Nat -> List (XV T) -> List (HI T) -> Option B), ZAw C os d k' = k' ex slots vs ht
 | [], d => d.elim
 | [o], d => ⟨_, _, _, _, fun B k' => rfl⟩
 | o :: o' :: l, .inl d => ⟨_, _, _, _, fun B k' => rfl⟩
 | o :: o' :: l, .inr d => (Znr (o' :: l) d)
theorem Zhl {E : LE C P} {c : Code} {tou : Tou T} {orc : Orc T ((VsD T E.vs × HsD T E.hs) ⊕ OsD T E.os)} {dr : Nat -> Nat -> DrA} {lps : Lps T ((VsD T E.vs × HsD T E.hs) ⊕ OsD T E.os)} (hO : orc.Ok C P tou) (hL : ∀ l ∈ ZbX c, lps.Ok C P l)
 (hstep : ∀ a, ZmO C P tou orc dr lps c (Zy8 E.slots (ZmH C E.vs a.1)) (ZeG C E.hs a.2) (ZBd C E.slots E.vs E.hs E.os) = E.step a) (env : XE T) (h : List (HI T)) (k : XK T A) (z : A) (hk : ZvK E env h k = some z) :
 ∃ ex env' h', k ex env' h' = some z /\ ZlR C P (.loop c) env h ex env' h' := by
 unfold ZvK at hk
 rw [Zn0] at hk
 obtain ⟨⟨d, dh, π⟩, h1, h2⟩ := Zal hk
 dsimp only at h2
 obtain ⟨b, h3, h4⟩ := Zal h2
 obtain ⟨d', dh', π', e1, hp, hS⟩ := ZlZ h1
 injection e1 with e1
 injection e1 with e1 e2
 injection e2 with e2 e3
 subst e1 e2 e3
 obtain ⟨n0, hn0⟩ := ZjV h3
 obtain ⟨ex, slots, vs, ht, hb⟩ := Znr (C := C) E.os b
 rw [hb, ZbR, Za4] at h4
 refine ⟨ex, _, _, h4, fun O ρ e σ hs => ?_⟩
 obtain ⟨s1, s2, s3⟩ := hS ρ σ _ (ZqB hs.env E.slots) hs.hp
 have hlen : (ZeG C E.hs dh').length = E.hs.length := Zcj _ _
 have hloop : ZaP P O (.loop c) (fun ex' e' σ' => ex' = ex /\ ∃ ρ', SVs C ht.length ρ' vs (slots.map e') /\ Hp C ρ' ht σ' /\ Rel (fun _ => True) (ZcN π' ρ) (ZeG C E.hs dh') σ ρ' ht σ') e σ := by
  refine ⟨fun n e1 σ1 => ∃ (a : VsD T E.vs × HsD T E.hs) (ρ1 : Nat -> AV), Ziy E.step n a = some b /\ Sat C ρ1 (Zy8 E.slots (ZmH C E.vs a.1)) (ZeG C E.hs a.2) e1 σ1 /\ ZzM (ZdL E.hs) (ZcN π' ρ) (ZeG C E.hs dh') σ ρ1 (ZeG C E.hs a.2) σ1, n0, ⟨(d', dh'), ZcN π' ρ, hn0, ⟨Zlh _ _ (by rw [hlen]; exact s1), s2⟩, ⟨fun _ _ => rfl, .refl _ _, fun _ hb => .inl hb⟩⟩, ?_⟩
  rintro n e1 σ1 ⟨a, ρ1, hn, hs1, hR⟩
  cases n with
  | zero => cases hn
  | succ n =>
   have hobj : ∀ i, ZdL E.hs i = true -> i < (ZeG C E.hs a.2).length := fun i hi => by
    have := Zt4 hi
    rw [Zcj]
    exact this
   have hst := hstep a
   unfold Ziy at hn
   split at hn
   ·cases hn
   ·-- another round
    rename_i a' ha'
    rw [ha'] at hst
    obtain ⟨ex1, env1, h1', k1, t1⟩ := Zci hO c _ _ _ hL hst
    refine ZaX ?_ (t1 O ρ1 e1 σ1 hs1)
    rintro ex' e2 σ2 ⟨rfl, ρ2, hs2, hR2⟩
    have hR3 := hR.step s2 hR2 hobj
    unfold ZBd at k1
    cases hx : ZvJ ex' .normal
    ·rw [hx] at k1
     simp only [cond_false] at k1
     obtain ⟨q, q1, _⟩ := Zn2 dh' k1
     injection q1 with q1; cases q1
    ·rw [hx] at k1
     have := ZqA hx
     subst this
     simp only [cond_true] at k1
     obtain ⟨d2, π1, g1, g2, g3, g4⟩ := Znm k1
     obtain ⟨dh2, π2, w1, w2, w3, w4, w5⟩ := Zhk g1
     injection w1 with w1
     injection w1 with w1
     subst w1
     have hI2 := w3 (g3 (ZnW E.hs))
     have hM2 : ∀ i x, ZaO π2 i = some x -> i < E.hs.length := fun i x hx => (Zfp w4 hx).1
     obtain ⟨u1, u2⟩ := w5 π2 ρ2 σ2 hI2 (.refl _) hM2 hs2.hp
     have u3 := g4 h1'.length E.hs.length π2 ρ2 _ w2 hM2 (ZqB hs2.env E.slots)
     refine ⟨n, Nat.lt_succ_self n, (d2, dh2), ZcN π2 ρ2, hn, ⟨Zlh _ _ (by rw [Zcj]; exact u3), u1⟩, ⟨fun i hi => ?_, hR3.but, fun b' hb' => ?_⟩⟩
     ·have hl := Znp E.hs i 0 hi
      rw [Nat.zero_add] at hl
      have hl2 := w2 _ _ (g2 _ _ hl)
      have : ZcN π2 ρ2 i = ρ2 i := by unfold ZcN; rw [hl2]
      rw [this]
      exact hR3.ext i hi
     ·obtain ⟨i, x, e1', e2', e3'⟩ := hb'
      obtain ⟨j, y, v1, v2, v3, v4⟩ := u2 i x b' e1' e2' e3'
      exact hR3.born b' ⟨j, y, v2, v3, v4⟩
   ·-- out
    rename_i b' hb'
    injection hn with hn
    subst hn
    rw [hb'] at hst
    obtain ⟨ex1, env1, h1', k1, t1⟩ := Zci hO c _ _ _ hL hst
    refine ZaX ?_ (t1 O ρ1 e1 σ1 hs1)
    rintro ex' e2 σ2 ⟨rfl, ρ2, hs2, hR2⟩
    have hR3 := hR.step s2 hR2 hobj
    unfold ZBd at k1
    cases hx : ZvJ ex' .normal
    ·rw [hx] at k1
     simp only [cond_false] at k1
     obtain ⟨q, q1, slots2, vs2, ht2, q2, q3⟩ := Zn2 dh' k1
     injection q1 with q1
     injection q1 with q1
     subst q1
     have e4 := (q2 _ (fun a b c d => some (a, b, c, d))).symm.trans (hb _ (fun a b c d => some (a, b, c, d)))
     injection e4 with e4
     injection e4 with e4 e5
     injection e5 with e5 e6
     injection e6 with e6 e7
     subst e4 e5 e6 e7
     have := q3 (ZcN π' ρ) σ ρ2 e2 σ2 hs2 hR3
     cases ex' with
     | normal => cases hx
     | _ => exact ⟨rfl, this⟩
    ·rw [hx] at k1
     simp only [cond_true] at k1
     obtain ⟨d2, π1, g1, g2, g3, g4⟩ := Znm k1
     obtain ⟨dh2, π2, w1, _⟩ := Zhk g1
     injection w1 with w1; cases w1
 refine ZaX ?_ hloop
 rintro ex' e' σ' ⟨rfl, ρ1, g1, g2, g3⟩
 obtain ⟨ρ', q1, q2, q3⟩ := ZA8 hlen hp hs.hp g2 g3 s3
 exact ⟨rfl, ρ', ⟨Zlh _ _ (Zru q1 g1), q2⟩, q3.mono fun _ _ => trivial⟩
end
end Go.Proofs.YteempnebenjkmaaDoor
namespace Go.Proofs.YteempnebenjkmaaDoor
open Go.RowKit
set_option maxRecDepth 100000
set_option linter.unusedVariables false
variable {T : Nat -> Type} {A : Type}
def Zdy (fn : Func) : Code := fn.body.getD .skip
def Zns (c : Code) (i : Nat) : Code := (ZbX c).getD i .skip
def ZoD {C : Zaw T} {P : Program} (E : LE C P) (c : Code) : Prop := ∀ (A : Type) (env : XE T) (h : List (HI T)) (k : XK T A) (z : A), ZvK E env h k = some z -> ∃ ex env' h', k ex env' h' = some z /\ ZlR C P (.loop c) env h ex env' h'
section
variable {C : Zaw T} {P : Program}
theorem Zhm {tbl : List (LE C P)} {c : Code} {E : LE C P} (he : Zx2 tbl (Zi4 c) = some E) (hok : ZoD E c) : (Za8 tbl : Lps T A).Ok C P c := by
 intro env h k z hk
 unfold Za8 at hk
 rw [he] at hk
 exact hok A env h k z hk
theorem Zd8 {lps : Lps T A} {c : Code} {n : Nat} (hn : (ZbX c).length = n) (h : ∀ i, i < n -> lps.Ok C P (Zns c i)) : ∀ l ∈ ZbX c, lps.Ok C P l := by
 intro l hl
 obtain ⟨i, hi, he⟩ := List.mem_iff_getElem.1 hl
 have := h i (by omega)
 unfold Zns at this
 rw [List.getD_eq_getElem?_getD, List.getElem?_eq_getElem hi, he] at this
 exact this
theorem ZaV {lps : Lps T A} {fn : Func} (h : ∀ l ∈ ZbX (Zdy fn), lps.Ok C P l) : ∀ c, fn.body = some c -> ∀ l ∈ ZbX c, lps.Ok C P l := by
 intro c hc
 unfold Zdy at h
 rw [hc] at h
 exact h
theorem ZaI {lps : Lps T A} {c : Code} (hn : (ZbX c).length = 0) : ∀ l ∈ ZbX c, lps.Ok C P l := Zd8 hn fun i hi => absurd hi (Nat.not_lt_zero i)
end
end Go.Proofs.YteempnebenjkmaaDoor
namespace Go.Proofs.YteempnebenjkmaaDoor
open Go.RowKit
set_option maxRecDepth 100000
set_option linter.unusedVariables false
variable {T : Nat -> Type}
section
variable {C : Zaw T} {P : Program}
theorem Zry {ρ : Nat -> AV} {h : List (HI T)} {σ τ : St} {E : Nat} {xs : List (T E)} {e sz : Nat} {v : AV} {cells : List AV} (H : Hp C ρ h σ) (hX : Ext σ τ) (ho : Own τ e sz v xs.length cells) (hl : xs.length <= 140737488355328) (hc : ∀ N ρ, SVs C N ρ (xs.flatMap (C.enc E)) cells) (hv : ∀ g, v.owns g -> σ.blk g = none /\ ¬ σ.used g) :
 ∃ ρ', SV C (h ++ [HI.row e sz]).length ρ' (.sl E xs (some h.length)) v /\ Hp C ρ' (h ++ [.row e sz]) τ /\ Rel (fun _ => True) ρ h σ ρ' (h ++ [.row e sz]) τ := by
 obtain ⟨g1, g2⟩ := H.newRow (U := fun _ => True) hX ho hv
 exact ⟨_, ZfZ.2 ⟨(Zat _ _ _).symm, by simp, ZtJ ho hl (hc _ _)⟩, g1, g2⟩
theorem ZvL {f : FuncId} {fn : Func} {t e t' t0 t1 tb t2 t3 t4 t5 t6 : TypeId} {p0 p1 p2 p3 p4 p5 p6 p7 : String} {a0 a1 a2 a3 a4 a5 a6 a7 : Array Edge} {i0 i1 i2 i3 : Nat} {zv : Value} {sz by_ E : Nat}
 (hm : P.follows .mixedOrders = true) (hf : P.funcs[f]? = some fn) (hok : ZzK P fn 1 = true) (hr : fn.results = #[.tmp 2])
 (hb : fn.body = some (.seq (.region i0 #[⟨some 2, .assign (.const (.slice none 0 0)), t0, p0, a0, none⟩] false) (.seq (.seq (.region i1 #[⟨some 3, .move (.tmp 0), t1, p1, a1, none⟩, ⟨some 4, .binOp .eql t (.tmp 3) (.const (.slice none 0 0)) t', tb, p2, a2, none⟩] false) (.cond (.tmp 4) (.seq (.region i2 #[⟨some 2, .assign (.const (.slice none 0 0)), t2, p3, a3, none⟩] false) .ret) .skip)) (.seq (.region i3 #[⟨some 5, .buildSlice t 0 #[], t3, p4, a4, none⟩, ⟨some 6, .move (.tmp 0), t4, p5, a5, none⟩, ⟨some 7, .call ⟨.builtin .append, #[.tmp 5, .tmp 6], #[t, t]⟩, t5, p6, a6, none⟩, ⟨some 2, .assign (.tmp 7), t6, p7, a7, none⟩] false) .ret))))
 (he : Zar P t = some e) (hsz : Zax P e = some sz) (hz : ZaR P e = some zv) (hby : Zcl P e = some by_) (hzs : zv.cells.size = sz) (hE : sz = C.sz E)
 (xs : List (T E)) (hroom : xs.length <= 140737488355328 /\ xs.length * by_ <= 140737488355328) : Tr C P (fun _ => True) f [.sl E xs none] [] (.sl E xs (some 0)) [.row e sz] := by
 intro ρ σ vs hs H
 obtain ⟨a, rfl, h3⟩ := ZeQ.1 hs
 obtain ⟨A, c, cs, rest, rfl, l1, l2, l3, l4, l5⟩ := ZcG.1 h3
 unfold ZzK at hok
 rw [hb] at hok
 simp only [Bool.and_eq_true] at hok
 obtain ⟨⟨o1, o2⟩, o3⟩ := hok
 have hlen := l5.len
 rw [Zcc] at hlen
 have hpos := C.pos E
 have hres : fn.results.toList = [.tmp 2] := by rw [hr]
 refine ZaG hm hf hb o2 o1 (Nat.le_of_ble_eq_true o3) ?_
 refine Zaa (Zab (Zlb rfl (Zah ?_)))
 refine Zac (Zaa (Zab (Ztk rfl (Zab (Zvo he rfl rfl (Zah ?_))))))
 refine Zbu rfl (fun hA => ?_) (fun hA => ?_)
 ·refine Zac (Zaa (Zab (Zlb rfl (Zah (ZmK ?_)))))
  cases A with
  | some ad => cases hA
  | none =>
   have hx : xs = [] := List.eq_nil_of_length_eq_zero (l4 rfl).1
   subst hx
   refine ZnJ hres (Zdx rfl) ?_
   exact Zry (xs := ([] : List (T E))) (e := e) (sz := sz) (cells := []) H (Ext.refl _) ⟨by simp, .inl ⟨rfl, rfl⟩⟩ (Nat.zero_le _) (fun _ _ => .none) (fun g hg => by cases hg)
 ·refine Zb2 (Zaa (Zab (ZkD (vs := []) (cells := []) rfl he hsz hz hzs (by omega) (by simp [ZdO]) fun b hu hn => ?_)))
  refine Zab (Ztk rfl ?_)
  have htk : (cs ++ rest).take (xs.length * sz) = cs := by rw [List.take_append_of_le_length (by rw [hlen, hE]; omega), List.take_of_length_le (by rw [hlen, hE]; omega)]
  have hown : Own (σ.put b (.tail e (0 * sz) (0 * sz))) e sz (.lst (some ⟨b, 0, none⟩) 0 0 []) 0 [] := ⟨by simp, .inr ⟨b, 0, rfl, Nat.le_refl _, Nat.zero_le _, Za3 _ _ _, .inr rfl⟩⟩
  refine Zab (Zvn (v := .lst (some ⟨b, 0, none⟩) 0 0 []) (n := 0) (cells := []) (m := xs.length) (cb := c) (news := cs ++ rest) (B := A) rfl rfl he hsz hz hby hzs (by omega) hown (by rw [List.length_append, hlen, hE]; omega) (by rw [htk]; exact l5.ones fun v hv => ZdR (Zb6 xs v hv)) (by unfold maxLen; omega) (by rw [Nat.zero_add]; exact hroom.2) fun v' τ ho ha => ?_)
  rw [htk, List.nil_append, Nat.zero_add] at ho
  refine Zab (Zlb rfl (Zah (Zbm ?_)))
  refine ZnJ hres (Zdx rfl) ?_
  have hX : Ext σ τ := But.ext (S := fun x => x = b) (Ext.put _ hn) (fun x hx => by subst hx; exact hn) ⟨fun x k hx hk => ha.keep x k (fun e => hx (by injection e with e; exact e.symm)) hk, ha.used⟩
  refine Zry (cells := cs) H hX ho hroom.1 (fun N ρ => l5.shut (Zb6 xs)) fun g hg => ?_
  obtain ⟨B', c', rfl, _⟩ := ho.form
  change (AV.lst B' xs.length c' cs).owns g at hg
  have hg := ZnS hg
  rcases ha.new with h1 | ⟨g', h1, h2, h5, _⟩
  ·rw [h1] at hg
   injection hg with hg
   change b = g at hg
   subst hg
   exact ⟨hn, hu⟩
  ·rw [h1] at hg; injection hg with hg; subst hg
   refine ⟨?_, fun hq => h5 (.inl hq)⟩
   cases hq : σ.blk g' with
   | none => rfl
   | some k =>
    rw [Zas _ _ (by rintro rfl; rw [hn] at hq; cases hq), hq] at h2
    cases h2
end
end Go.Proofs.YteempnebenjkmaaDoor
