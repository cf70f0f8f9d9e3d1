/- Operations over typed values: append, calls, numbers; all in one. -/
import Derived.Test.YtlmmpfbdgiokmaaGreatMb
namespace Go.Proofs.YtlmmpfbdgiokmaaGreat
open Go.RowKit
set_option linter.unusedSimpArgs false
set_option maxRecDepth 100000
set_option linter.unusedVariables false
variable {T : Nat -> Type} {A : Type}
section
variable {U : Nat -> Prop} {C : Zau T} {N : Nat} {ρ : Nat -> AV} {P : Program} {h : List (HI T)} {d : Option Nat} {ty t : TypeId} {pos : String} {af : Array Edge} {g : Option (Nat × Bool)} {z : A} {orc : Orc T A} {k : XV T -> List (HI T) -> Option A} {vs : List (XV T)}
theorem Zuv {σ : St} {K : AV -> St -> Prop} {x y : Operand} {e : TypeId} {v : AV} {n m cb sz bytes : Nat} {zv : Value} {cells news : List AV} {B : Option Addr} (ht : ZaB P t = some e) (hs : Zaw P e = some sz) (hz : Zbt P e = some zv) (hby : ZdE P e = some bytes) (hzs : zv.cells.size = sz) (hsz : 0 < sz)
 (hown : Own σ e sz v n cells) (hl : m * sz <= news.length) (h1 : ∀ c ∈ news.take (m * sz), c.one = true) (h63 : n + m <= maxLen) (hb : (n + m) * bytes <= 140737488355328)
 (hK : ∀ v' τ, Own τ e sz v' (n + m) (cells ++ news.take (m * sz)) -> App σ v τ v' -> K v' τ) : ZgJ P ⟨d, .call ⟨.builtin .append, #[x, y], #[t, t]⟩, ty, pos, af, g⟩ [v, .lst B m cb news] σ K := by
 refine .inr ⟨rfl, fun ρ hρ w Z hH hV => ?_⟩
 have hρ' := hρ
 simp [Op.operands, Call.operands] at hρ'
 obtain ⟨v', σ', w', hr, h2, h3, h4, h5, h6⟩ := Zpx (ty := ty) (B := B) (m := m) (cb := cb) (news := news) hH (hV v (by simp)) (hV (.lst B m cb news) (by simp)) ht hs hz hby hzs hsz hown hl h1 h63 hb
 refine ⟨v', σ', w', .inl ?_, hK v' σ' h2 h3, h4, h5, h6⟩
 simp [execOp, resolve, invoke, builtin, hρ', hr]
theorem ZwO (A : Option Addr) (n c : Nat) (l : List AV) : (AV.lst A n c l).blk = (AV.lst A n c l).blkO := by cases A <;> rfl
theorem Zp5 {A : Option Addr} {n c : Nat} {l : List AV} {g : Nat} (h : (AV.lst A n c l).owns g) : (AV.lst A n c l).blk = some g := (ZwO A n c l).trans h
theorem Zrn {τ : St} {e sz E : Nat} {v : AV} {xs : List (T E)} {cells : List AV} (ho : Own τ e sz v xs.length cells) (hl : xs.length <= 140737488355328) (hc : SVs C N ρ (xs.flatMap (C.enc E)) cells) : SV C N ρ (.sl E xs none) v := by
 obtain ⟨B, c, rfl, l1, l2, l3⟩ := ho.form
 exact ZfO.2 ⟨B, c, cells, [], by simp, l1, l2, hl, l3, hc⟩
theorem Zvu {x y : XV T} {ox oy : Operand} (hU0 : ∀ E xs r, x = .sl E xs (some r) -> U r) (hk : Ztg C P t x y h k = some z) : Zcn C P U ⟨d, .call ⟨.builtin .append, #[ox, oy], #[t, t]⟩, ty, pos, af, g⟩ [x, y] h k z := by
 unfold Ztg at hk
 split at hk
 ·cases hk
 rename_i e he
 split at hk
 rotate_left
 ·cases hk
 rename_i sz zv by_ hsz hz hby
 split at hk
 rotate_left
 ·cases hk
 rename_i hzs
 have hzs := Nat.eq_of_beq_eq_true hzs
 split at hk
 ·-- nil
  rename_i E ys oy_
  split at hk
  rotate_left
  ·cases hk
  rename_i e1
  have e1 := Nat.eq_of_beq_eq_true e1
  split at hk
  rotate_left
  ·cases hk
  rename_i hroom
  rw [Zbd] at hk
  refine ⟨_, _, hk, fun ρ σ as_ hs H => ?_⟩
  obtain ⟨a, b, rfl, h3, h4⟩ := ZiI.1 hs
  rw [ZfZ.1 h3]
  obtain ⟨B, c, cs, rest, rfl, l1, l2, l3, l4, l5⟩ := ZgT h4
  have hlen := l5.len
  rw [Zc2] at hlen
  have htk : (cs ++ rest).take (ys.length * sz) = cs := by rw [List.take_append_of_le_length (by rw [hlen, e1]; omega), List.take_of_length_le (by rw [hlen, e1]; omega)]
  have hpos := C.pos E
  refine Zuv he hsz hz hby hzs (by omega) (n := 0) (cells := []) ⟨by simp, .inl ⟨rfl, rfl⟩⟩ (by rw [List.length_append, hlen, e1]; omega) (by rw [htk]; exact l5.ones fun v hv => Ze6 (ZcC ys v hv)) (by unfold maxLen; omega) (by rw [Nat.zero_add]; exact hroom.2) fun v' τ ho ha => ?_
  rw [htk, List.nil_append, Nat.zero_add] at ho
  have hnew : ∀ g, v'.owns g -> σ.blk g = none /\ ¬ σ.used g := fun g hg => by
   obtain ⟨B', c', rfl, _⟩ := ho.form
   have hg := Zp5 hg
   rcases ha.new with h1 | ⟨g', h1, h2, h5, _⟩
   ·rw [h1] at hg; cases hg
   ·rw [h1] at hg; injection hg with hg; subst hg; exact ⟨h2, h5⟩
  have hX : Ext σ τ := ⟨fun b x hx => ha.keep b x (by simp [AV.blk]) hx, ha.used⟩
  obtain ⟨g1, g2⟩ := H.newRow hX ho hnew
  refine ⟨_, ?_, g1, g2⟩
  exact Zgt.2 ⟨(Zar _ _ _).symm, by simp, Zrn ho hroom.1 (l5.shut (ZcC ys))⟩
 ·-- ours
  rename_i E xs r E' ys oy_
  split at hk
  rotate_left
  ·cases hk
  rename_i hE
  subst hE
  have hU := hU0 _ _ _ rfl
  split at hk
  rotate_left
  ·cases hk
  rename_i e' sz' hr
  split at hk
  rotate_left
  ·cases hk
  rename_i hc
  obtain ⟨c1, c2, e1⟩ := hc
  have c1 := Nat.eq_of_beq_eq_true c1
  have c2 := Nat.eq_of_beq_eq_true c2
  have e1 := Nat.eq_of_beq_eq_true e1
  subst c1 c2
  split at hk
  rotate_left
  ·cases hk
  rename_i hroom
  rw [Zbd] at hk
  refine ⟨_, _, hk, fun ρ σ as_ hs H => ?_⟩
  obtain ⟨a, b, rfl, h3, h4⟩ := ZiI.1 hs
  obtain ⟨rfl, hrN, h3⟩ := Zgt.1 h3
  obtain ⟨n0, cells0, ho0⟩ := H.it r _ hr
  obtain ⟨A0, c0, cs0, rest0, ea, k1, k2, k3, k4, k5⟩ := ZfO.1 h3
  obtain ⟨A1, c1, ea1, _, _, _⟩ := ho0.form
  have hcl := ho0.1
  rw [ea] at ea1
  injection ea1 with i1 i2 i3 i4
  subst i1 i2 i3
  have hlen0 := k5.len
  rw [Zc2] at hlen0
  have hrest : rest0 = [] := by
   have := congrArg List.length i4
   rw [List.length_append, hlen0, hcl, e1] at this
   exact List.eq_nil_of_length_eq_zero (by omega)
  subst hrest
  rw [List.append_nil] at i4
  subst i4
  obtain ⟨B, c, cs, rest, rfl, l1, l2, l3, l4, l5⟩ := ZgT h4
  have hlen := l5.len
  rw [Zc2] at hlen
  have htk : (cs ++ rest).take (ys.length * sz') = cs := by rw [List.take_append_of_le_length (by rw [hlen, e1]; omega), List.take_of_length_le (by rw [hlen, e1]; omega)]
  have hpos := C.pos E'
  refine Zuv he hsz hz hby hzs (by omega) ho0 (by rw [List.length_append, hlen, e1]; omega) (by rw [htk]; exact l5.ones fun v hv => Ze6 (ZcC ys v hv)) (by unfold maxLen; omega) hroom.2 fun v' τ ho ha => ?_
  rw [htk] at ho
  have hblk : (ρ r).blk = (ρ r).blkO := by rw [ea]; exact ZwO _ _ _ _
  have hnew : ∀ g, v'.owns g -> (ρ r).owns g \/ (σ.blk g = none /\ ¬ σ.used g) := fun g hg => by
   obtain ⟨B', c', rfl, _⟩ := ho.form
   have hg := Zp5 hg
   rcases ha.new with h1 | ⟨g', h1, h2, h5, _⟩
   ·rw [h1, hblk] at hg; exact .inl (by rw [ea] at hg ⊢; exact hg)
   ·rw [h1] at hg; injection hg with hg; subst hg; exact .inr ⟨h2, h5⟩
  have hX : But (fun b => (ρ r).owns b) σ τ := ha.but.more fun b hb => by rw [hblk] at hb; rw [ea] at hb ⊢; exact hb
  obtain ⟨g1, g2⟩ := H.grow hU hr hX ho hnew
  refine ⟨_, ?_, g1, g2⟩
  have hcs : SVs C h.length ρ ((xs ++ ys).flatMap (C.enc E')) (cs0 ++ cs) := by rw [List.flatMap_append]; exact k5.app l5
  have ho' : Own τ e' sz' v' (xs ++ ys).length (cs0 ++ cs) := by rw [List.length_append]; exact ho
  exact Zgt.2 ⟨by rw [Zar], by simp, Zrn ho' (by rw [List.length_append]; exact hroom.1) (hcs.shut (ZcC _))⟩
 ·cases hk
theorem Zeu {o : Oper} {r : XV T} (hk : k r h = some z) (hd : ∀ (as_ : List AV) σ (K : AV -> St -> Prop), as_.length = vs.length -> (∃ v, ZdR P o as_ v /\ K (.raw v) σ) -> ZgJ P o as_ σ K)
 (hr : ∀ ρ as_, SVs C h.length ρ vs as_ -> ∃ v, ZdR P o as_ v /\ SV C h.length ρ r (.raw v)) : Zcn C P U o vs h k z :=
 ⟨r, h, hk, ZnT.same fun ρ σ as_ K hs H hK => by
  obtain ⟨v, h1, h2⟩ := hr ρ as_ hs
  exact hd as_ σ K hs.len ⟨v, h1, hK _ h2⟩⟩
theorem ZAX {op : BinOp} {ox oy : Operand} {ty' : TypeId} {x y : XV T} (hk : (ZCV P op t x y fun v => k v h) = some z) : Zcn C P U ⟨d, .binOp op t ox oy ty', ty, pos, af, g⟩ [x, y] h k z := by
 obtain ⟨r, h1, h2⟩ := Zvm hk
 refine Zeu h1 (fun as_ σ K hl hp => ?_) (fun ρ as_ hs => ?_)
 ·match as_, hl with
  | [a, b], _ => exact .inl hp
 ·obtain ⟨a, b, rfl, h3, h4⟩ := ZiI.1 hs
  obtain ⟨v, h5, h6⟩ := h2 C _ ρ a b h3 h4
  refine ⟨v, fun ρ' hρ w _ _ => ?_, h6⟩
  simp [Op.operands] at hρ
  have := h5 w ox oy
  simp only [execOp]
  rw [hρ.1, hρ.2, Sem.run_bind, this]
  simp
theorem Zz5 {op : UnOp} {ox : Operand} {x r : XV T} (hk : k r h = some z) (hr : ∀ ρ a, SV C h.length ρ x a -> ∃ v, (∀ w : World, (Op.unary op a.val).run P w = .ok v w) /\ SV C h.length ρ r (.raw v)) : Zcn C P U ⟨d, .unOp op t ox, ty, pos, af, g⟩ [x] h k z := by
 refine Zeu hk (fun as_ σ K hl hp => ?_) (fun ρ as_ hs => ?_)
 ·match as_, hl with
  | [a], _ => exact .inl hp
 ·obtain ⟨a, rfl, h3⟩ := ZgU.1 hs
  obtain ⟨v, h5, h6⟩ := hr ρ a h3
  refine ⟨v, fun ρ' hρ w _ _ => ?_, h6⟩
  simp [Op.operands] at hρ
  simp only [execOp]
  rw [hρ, Sem.run_bind, h5]
  simp
theorem Zyy {t' : TypeId} {ox : Operand} {x r : XV T} (hk : k r h = some z) (hr : ∀ ρ a, SV C h.length ρ x a -> ∃ v, (∀ w : World, (convert t t' a.val).run P w = .ok v w) /\ SV C h.length ρ r (.raw v)) : Zcn C P U ⟨d, .convert t t' ox, ty, pos, af, g⟩ [x] h k z := by
 refine Zeu hk (fun as_ σ K hl hp => ?_) (fun ρ as_ hs => ?_)
 ·match as_, hl with
  | [a], _ => exact .inl hp
 ·obtain ⟨a, rfl, h3⟩ := ZgU.1 hs
  obtain ⟨v, h5, h6⟩ := hr ρ a h3
  refine ⟨v, fun ρ' hρ w _ _ => ?_, h6⟩
  simp [Op.operands] at hρ
  simp only [execOp]
  rw [hρ, Sem.run_bind, h5]
  simp
theorem Zro {t' e : TypeId} {ox : Operand} {x : XV T} {bs : List UInt8} (hs : P.underlying t = some (.slice e)) (he : P.underlying e = some (.int .u8)) (hd : P.underlying t' = some .string) (hk : k (.str bs) h = some z)
 (hr : ∀ ρ a, SV C h.length ρ x a -> ∃ A n c cs rest, a = .lst A n c (cs ++ rest) /\ cs = bs.map (fun b => AV.raw (.int .u8 (b.toNat : Int))) /\ bs.length = n) : Zcn C P U ⟨d, .convert t t' ox, ty, pos, af, g⟩ [x] h k z := by
 refine Zeu hk (fun as_ σ K hl hp => ?_) (fun ρ as_ hs' => ?_)
 ·match as_, hl with
  | [a], _ => exact .inl hp
 ·obtain ⟨a, rfl, h3⟩ := ZgU.1 hs'
  obtain ⟨A, n, c, cs, rest, rfl, hcs, hn⟩ := hr ρ a h3
  refine ⟨.string ⟨bs.toArray⟩, fun ρ' hρ w B hv => ?_, Zc1.2 rfl⟩
  have hva := hv _ (List.mem_singleton.2 rfl)
  simp [Op.operands] at hρ
  have hfold : ∀ (l : List UInt8) (s : ByteArray), (l.map fun b => (b.toNat : Int)).foldl (fun r n => r.push (UInt8.ofNat n.toNat)) s = ⟨s.data ++ l.toArray⟩ := by
   intro l
   induction l with
   | nil => intro s; simp
   | cons b l ih => intro s; rw [List.map_cons, List.foldl_cons, ih]; simp [ByteArray.push]
  have hrun : (Conv.bytesToString (.slice A n c)).run P w = .ok (.string ⟨bs.toArray⟩) w := by
   cases A with
   | none =>
    unfold Zag at hva
    have h0 := (hva.2.1 rfl).1
    have : bs = [] := List.eq_nil_of_length_eq_zero (by omega)
    subst this
    unfold Conv.bytesToString
    simp [Sem.run_pure]
    rfl
   | some ad =>
    unfold Zag at hva
    have hat := hva.2.2 ad rfl
    have hl : (loadCells ad n).run P w = .ok ((bs.map fun b => (b.toNat : Int)).map (Value.int .u8)).toArray w := by
     have := run_loadCells_list (P := P) (w := w) ad ((bs.map fun b => (b.toNat : Int)).map (Value.int .u8)) (fun j v hj => by
      have hcj : cs[j]? = some (AV.raw v) := by
       rw [hcs, List.getElem?_map]
       rw [List.map_map, List.getElem?_map] at hj
       cases hb : bs[j]? with
       | none => rw [hb] at hj; cases hj
       | some b => rw [hb] at hj; injection hj with hj; subst hj; rfl
      have := (hat.get (i := j) (d := AV.raw v) (by rw [List.getElem?_append_left (Zav hcj)]; exact hcj)).1
      rw [Nat.zero_add] at this
      rw [this]; simp)
     rw [<- hn]
     simpa using this
    rw [run_bytesToString w ad n c _ hl, hfold]
    congr 2
    simp
  simp only [execOp]
  rw [hρ, Sem.run_bind]
  have : (convert t t' (.slice A n c)).run P w = .ok (.string ⟨bs.toArray⟩) w := by
   simp only [convert, Sem.run_bind, run_underlying hs, run_underlying hd, run_underlying he, Result.andThen_ok]
   exact hrun
  rw [this]
  simp
theorem ZwP {α : Type} {xs : List α} {n : Int} {x : α} (h : Zdg xs n = some x) : 0 <= n /\ xs[n.toNat]? = some x := by
 unfold Zdg at h
 split at h
 ·exact ⟨‹_›, h⟩
 ·cases h
theorem ZwQ {ox oy : Operand} {s : List UInt8} {ki : IntKind} {n : Int} {b : UInt8} (ht : P.underlying t = some .string) (hb : Zdg s n = some b) (hk : k (.int .u8 (b.toNat : Int)) h = some z) : Zcn C P U ⟨d, .index t ox oy, ty, pos, af, g⟩ [.str s, .int ki n] h k z := by
 obtain ⟨hn, hx⟩ := ZwP hb
 refine Zeu hk (fun as_ σ K hl hp => ?_) (fun ρ as_ hs => ?_)
 ·match as_, hl with
  | [a, b], _ => exact .inl hp
 ·obtain ⟨a, c, rfl, h3, h4⟩ := ZiI.1 hs
  rw [Zc1.1 h3, Zat.1 h4]
  refine ⟨.int .u8 (b.toNat : Int), fun ρ' hρ w _ _ => ?_, Zat.2 rfl⟩
  simp [Op.operands] at hρ
  have hb' : (ByteArray.mk s.toArray)[n.toNat]? = some b := by
   have hlt := Zav hx
   rw [List.getElem?_eq_getElem hlt] at hx
   injection hx with hx
   rw [getElem?_pos (ByteArray.mk s.toArray) n.toNat (by show n.toNat < s.toArray.size; simpa using hlt)]
   exact congrArg some hx
  simp only [execOp, hρ.1, hρ.2, Instr.index, asIntOf, Sem.run_bind, run_underlying ht, if_pos hn, hb', Sem.run_pure, Result.andThen_ok]
theorem Zuw {oc oa ob : Operand} {c : Bool} {a b r : XV T} (hk : k r h = some z) (hr : r = if c then a else b) : Zcn C P U ⟨d, .pick oc oa ob, ty, pos, af, g⟩ [.bool c, a, b] h k z := by
 refine ⟨_, _, hk, ZnT.same fun ρ σ as_ K hs H hK => ?_⟩
 obtain ⟨x, y, w, rfl, h1, h2, h3⟩ := ZD4.1 hs
 rw [Za6.1 h1]
 refine ⟨c, by simp, hK _ ?_⟩
 subst hr
 cases c
 ·exact h3
 ·exact h2
theorem Zn3 {x : Operand} {f off n : Nat} {l : List (Nat × Option Nat × Option Bool)} {b : Option Bool} {E i j o : Nat} (hl : ZdQ P t = some l) (hf : l[f]? = some (off, some (n + 1), b)) (hk : k (.ap E i j (o + off)) h = some z) : Zcn C P U ⟨d, .fieldAddr t x f, ty, pos, af, g⟩ [.ap E i j o] h k z := by
 refine ⟨_, _, hk, fun ρ σ as_ hs H => ?_⟩
 obtain ⟨a, rfl, h3⟩ := ZgU.1 hs
 obtain ⟨c, rfl, h4, h5⟩ := ZoW.1 h3
 exact ⟨l, off, n, b, hl, hf, ρ, by rw [ZdP]; exact ZoW.2 ⟨c, by rw [Nat.add_assoc]; rfl, h4, h5⟩, H, .refl _ _ _ _⟩
theorem Ztr {x y : Operand} {E i lo m sz : Nat} {co : Option Nat} {e : TypeId} {ki : IntKind} {n : Int} (he : ZaB P t = some e) (hsz : Zaw P e = some sz) (h1 : Nat.beq sz (C.sz E) = true) (hn : 0 <= n /\ n < (m : Int)) (hk : k (.ap E i (lo + n.toNat) 0) h = some z) : Zcn C P U ⟨d, .indexAddr t x y, ty, pos, af, g⟩ [.as E i lo m co, .int ki n] h k z := by
 have e1 := Nat.eq_of_beq_eq_true h1
 refine ⟨_, h, hk, ZnT.same fun ρ σ as_ K hs H hK => ?_⟩
 obtain ⟨a, b, rfl, h3, h4⟩ := ZiI.1 hs
 rcases Zbz.1 h3 with ⟨ad, c, rfl, hA⟩ | ⟨_, hm0, _⟩
 rotate_left
 ·omega
 rw [Zat.1 h4]
 obtain ⟨bb, q1, q2⟩ := hA.at_
 have hle := hA.le
 have had := q2 (by omega)
 subst had
 refine .inl ⟨.pointer (some ⟨bb, (lo + n.toNat) * sz, none⟩), fun ρ' hρ w _ _ => ?_, hK _ (ZoW.2 ⟨bb, by rw [Nat.add_zero, e1]; rfl, hA.lt, _, q1, by omega⟩)⟩
 simp [Op.operands] at hρ
 have hj : n = ((n.toNat : Nat) : Int) := by omega
 have hr := Zk3 (P := P) (w := w) (ad := ⟨bb, lo * C.sz E, none⟩) (n := m) (c := c) (k := ki) (j := n.toNat) he hsz (by omega)
 rw [<- hj] at hr
 simp only [execOp, hρ.1, hρ.2, Sem.run_bind, hr, Result.andThen_ok, Sem.run_pure]
 rw [e1, ZdP, Nat.add_mul]
theorem ZmN {n : Int} {i o sz : Nat} {h : List (HI T)} {k : XV T -> List (HI T) -> Option A} : ∀ {r j : Nat}, Zri n i o sz h k r j = some z -> ∃ j', j <= j' /\ j' < j + r /\ n = (j' : Int) /\ k (.ptr i (o + j' * sz)) h = some z
 | 0, _, hk => by cases hk
 | r + 1, j, hk => by
  unfold Zri at hk
  split at hk
  ·rename_i hn
   exact ⟨j, Nat.le_refl _, by omega, hn, hk⟩
  ·obtain ⟨j', h1, h2, h3, h4⟩ := ZmN hk
   exact ⟨j', by omega, by omega, h3, h4⟩
theorem Zrp {x y : Operand} {i o len sz : Nat} {e : TypeId} {ki : IntKind} {n : Int} (he : ZwB P t = some (len, e)) (hsz : Zaw P e = some sz) (hk : Zri n i o sz h k len 0 = some z) : Zcn C P U ⟨d, .indexAddr t x y, ty, pos, af, g⟩ [.ptr i o, .int ki n] h k z := by
 obtain ⟨j, _, hj, hnj, hk2⟩ := ZmN hk
 clear hk
 subst hnj
 refine ⟨_, h, hk2, ZnT.same fun ρ σ as_ K hs H hK => ?_⟩
 obtain ⟨a, b, rfl, h3, h4⟩ := ZiI.1 hs
 obtain ⟨c, rfl, h5, h6⟩ := Zfj.1 h3
 rw [Zat.1 h4]
 refine .inl ⟨.pointer (some ⟨c, o + j * sz, none⟩), fun ρ' hρ w _ _ => ?_, hK _ (Zfj.2 ⟨c, rfl, h5, h6⟩)⟩
 simp [Op.operands, ptr] at hρ
 have hu : P.underlying t = some (.array len e) := by
  unfold ZwB at he
  split at he
  ·rename_i n' e' hq
   injection he with he
   injection he with h1 h2
   subst h1 h2
   exact hq
  ·cases he
 have hr : (Instr.indexAt t (.pointer (some ⟨c, o, none⟩)) (.int ki (j : Int))).run P w = .ok (.pointer (some ⟨c, o + j * sz, none⟩)) w := by
  have hjl : j < len := by omega
  have ha := ZdP c o (j * sz)
  simp [Instr.indexAt, asIntOf, run_underlying hu, ZcY hsz, Instr.sureAddr, hjl, ha]
 simp only [execOp, hρ.1, hρ.2, Sem.run_bind, hr, Result.andThen_ok, Sem.run_pure]
theorem Zrq {x hi mx : Operand} {lo : Option Operand} {E i a0 n0 : Nat} {co : Option Nat} {ix : List (XV T)} (hk : (ZAJ C P t lo.isSome E n0 co ix fun v => k v h) = some z) : Zcn C P U ⟨d, .slice t x lo (some hi) (some mx), ty, pos, af, g⟩ (.as E i a0 n0 co :: ix) h k z := by
 unfold ZAJ at hk
 split at hk
 rotate_left
 ·cases hk
 rename_i e he
 split at hk
 rotate_left
 ·cases hk
 rename_i sz hsz
 split at hk
 rotate_left
 ·cases hk
 rename_i h1
 split at hk
 rotate_left
 ·cases hk
 rename_i l u m hends
 split at hk
 rotate_left
 ·cases hk
 rename_i hb
 obtain ⟨b1, b2, b3, b4⟩ := hb
 refine ⟨_, h, hk, ZnT.same fun ρ σ as_ K hs H hK => ?_⟩
 obtain ⟨a, bs, rfl, h3, h4⟩ := hs.to
 have hse : ∀ n c, ZeI n c lo.isSome (some hi).isSome (some mx).isSome bs l.toNat u.toNat m.toNat := fun n c => by
  generalize lo.isSome = bl at hends ⊢
  unfold Zup at hends
  split at hends
  ·injection hends with hends; injection hends with f1 f2; injection f2 with f2 f3; subst f1 f2 f3
   obtain ⟨b, b', rfl, h5, h6⟩ := ZiI.1 h4
   rw [Zat.1 h5, Zat.1 h6]
   exact ⟨rfl, ⟨_, (AV.val_raw _).trans (congrArg (Value.int _) (Int.toNat_of_nonneg (by omega)).symm)⟩, ⟨_, (AV.val_raw _).trans (congrArg (Value.int _) (Int.toNat_of_nonneg (by omega)).symm)⟩⟩
  ·injection hends with hends; injection hends with f1 f2; injection f2 with f2 f3; subst f1 f2 f3
   obtain ⟨b, bs', rfl, h5, h6⟩ := h4.to
   obtain ⟨b', b'', rfl, h7, h8⟩ := ZiI.1 h6
   rw [Zat.1 h5, Zat.1 h7, Zat.1 h8]
   exact ⟨⟨_, (AV.val_raw _).trans (congrArg (Value.int _) (Int.toNat_of_nonneg (by omega)).symm)⟩, ⟨_, (AV.val_raw _).trans (congrArg (Value.int _) (Int.toNat_of_nonneg (by omega)).symm)⟩, ⟨_, (AV.val_raw _).trans (congrArg (Value.int _) (Int.toNat_of_nonneg (by omega)).symm)⟩⟩
  ·cases hends
 rcases Zbz.1 h3 with ⟨ad, c, rfl, hA⟩ | ⟨rfl, hn0, hiN, hρi, hco⟩
 ·have hcu : m.toNat <= c := by
   have := hA.le
   cases co with
   | none => rw [Option.getD_none] at b4; omega
   | some c' => have := hA.cap c' rfl; rw [Option.getD_some] at b4; omega
  refine ⟨.slice (if m.toNat = l.toNat then (some ad : Option Addr) else (some ad).map (·.add (l.toNat * sz))) (u.toNat - l.toNat) (m.toNat - l.toNat), fun ρ' hρ w _ _ => ?_, hK _ Zcu⟩
  have hρ' : ρ' x = .slice (some ad) n0 c /\ (lo.toArray ++ (some hi).toArray ++ (some mx).toArray).toList.map ρ' = bs.map AV.val := by
   simp [Op.operands] at hρ ⊢
   exact hρ
  have hr := Zk4 (P := P) (w := w) (A := some ad) he hsz hρ'.2 (hse n0 c) (by omega) (by omega) hcu
  simp only [execOp, hρ'.1, Sem.run_bind, hr, Result.andThen_ok, Sem.run_pure]
 ·have hm0 : m.toNat = 0 := by
   cases co with
   | none => rw [Option.getD_none] at b4; omega
   | some c' => have := hco c' rfl; rw [Option.getD_some] at b4; omega
  exact ⟨e, sz, he, hsz, l.toNat, u.toNat, m.toNat, hse _ _, by omega, by omega, by omega, hK _ Zcu⟩
theorem Zts {x : Operand} {lo hi : Option Operand} {E i a0 n0 : Nat} {co : Option Nat} {ix : List (XV T)} (hk : (ZDj C P t lo.isSome hi.isSome (.as E i a0 n0 co) ix fun v => k v h) = some z) : Zcn C P U ⟨d, .slice t x lo hi none, ty, pos, af, g⟩ (.as E i a0 n0 co :: ix) h k z := by
 unfold ZDj at hk
 dsimp only at hk
 ·split at hk
  ·rename_i e he
   split at hk
   ·rename_i sz hsz
    split at hk
    ·rename_i h1
     have e1 := Nat.eq_of_beq_eq_true h1
     split at hk
     ·rename_i l u hends
      split at hk
      ·rename_i hb
       obtain ⟨b1, b2, b3, b4⟩ := hb
       refine ⟨_, h, hk, ZnT.same fun ρ σ as_ K hs H hK => ?_⟩
       obtain ⟨a, bs, rfl, h3, h4⟩ := hs.to
       rcases Zbz.1 h3 with ⟨ad, c, rfl, hA⟩ | ⟨rfl, hn0, hiN, hρi, hco⟩
       rotate_left
       ·have hlu : l.toNat = 0 /\ u.toNat = 0 := by
         cases co with
         | none => rw [Option.getD_none] at b3; omega
         | some c' => have := hco c' rfl; rw [Option.getD_some] at b3; omega
        subst hn0
        refine ⟨e, sz, he, hsz, 0, 0, 0, ?_, Nat.le_refl _, Nat.le_refl _, Nat.le_refl _, ?_⟩
        ·have hse : ZeI 0 0 lo.isSome hi.isSome (none : Option Operand).isSome bs l.toNat u.toNat 0 := by
          generalize lo.isSome = bl at hends ⊢
          generalize hi.isSome = bh at hends ⊢
          unfold Zte at hends
          split at hends
          ·injection hends with hends; injection hends with f1 f2; subst f1 f2
           rw [ZcB] at h4; subst h4
           exact ⟨rfl, by simp, rfl⟩
          ·injection hends with hends; injection hends with f1 f2; subst f1 f2
           obtain ⟨b, rfl, h5⟩ := ZgU.1 h4
           rw [Zat.1 h5]
           exact ⟨⟨_, (AV.val_raw _).trans (congrArg (Value.int _) (Int.toNat_of_nonneg (by omega)).symm)⟩, by simp, rfl⟩
          ·injection hends with hends; injection hends with f1 f2; subst f1 f2
           obtain ⟨b, rfl, h5⟩ := ZgU.1 h4
           rw [Zat.1 h5]
           exact ⟨rfl, ⟨_, (AV.val_raw _).trans (congrArg (Value.int _) (Int.toNat_of_nonneg (by omega)).symm)⟩, rfl⟩
          ·injection hends with hends; injection hends with f1 f2; subst f1 f2
           obtain ⟨b, b', rfl, h5, h6⟩ := ZiI.1 h4
           rw [Zat.1 h5, Zat.1 h6]
           exact ⟨⟨_, (AV.val_raw _).trans (congrArg (Value.int _) (Int.toNat_of_nonneg (by omega)).symm)⟩, ⟨_, (AV.val_raw _).trans (congrArg (Value.int _) (Int.toNat_of_nonneg (by omega)).symm)⟩, rfl⟩
          ·cases hends
         rw [hlu.1, hlu.2] at hse
         exact hse
        ·refine hK _ (Zbz.2 (.inr ⟨by simp, by omega, hiN, hρi, fun c' hc' => ?_⟩))
         cases co with
         | none => cases hc'
         | some c0 => injection hc' with hc'; have := hco c0 rfl; dsimp only at hc'; omega
       have hle := hA.le
       have hcu : u.toNat <= c := by
        cases co with
        | none => rw [Option.getD_none] at b3; omega
        | some c' => have := hA.cap c' rfl; rw [Option.getD_some] at b3; omega
       have hse : ZeI n0 c lo.isSome hi.isSome (none : Option Operand).isSome bs l.toNat u.toNat c := by
        generalize lo.isSome = bl at hends ⊢
        generalize hi.isSome = bh at hends ⊢
        unfold Zte at hends
        split at hends
        ·injection hends with hends; injection hends with f1 f2; subst f1 f2
         rw [ZcB] at h4; subst h4
         exact ⟨rfl, by simp, rfl⟩
        ·injection hends with hends; injection hends with f1 f2; subst f1 f2
         obtain ⟨b, rfl, h5⟩ := ZgU.1 h4
         rw [Zat.1 h5]
         exact ⟨⟨_, (AV.val_raw _).trans (congrArg (Value.int _) (Int.toNat_of_nonneg (by omega)).symm)⟩, by simp, rfl⟩
        ·injection hends with hends; injection hends with f1 f2; subst f1 f2
         obtain ⟨b, rfl, h5⟩ := ZgU.1 h4
         rw [Zat.1 h5]
         exact ⟨rfl, ⟨_, (AV.val_raw _).trans (congrArg (Value.int _) (Int.toNat_of_nonneg (by omega)).symm)⟩, rfl⟩
        ·injection hends with hends; injection hends with f1 f2; subst f1 f2
         obtain ⟨b, b', rfl, h5, h6⟩ := ZiI.1 h4
         rw [Zat.1 h5, Zat.1 h6]
         exact ⟨⟨_, (AV.val_raw _).trans (congrArg (Value.int _) (Int.toNat_of_nonneg (by omega)).symm)⟩, ⟨_, (AV.val_raw _).trans (congrArg (Value.int _) (Int.toNat_of_nonneg (by omega)).symm)⟩, rfl⟩
        ·cases hends
       have hval : ∀ A' : Option Addr, (if c = l.toNat then (some ad : Option Addr) else (some ad).map (·.add (l.toNat * sz))) = some (if c = l.toNat then ad else ad.add (l.toNat * sz)) := fun _ => by split <;> rfl
       have hsv : SV C h.length ρ (.as E i (a0 + l.toNat) (u.toNat - l.toNat) (co.map (· - l.toNat))) (.raw (.slice (some (if c = l.toNat then ad else ad.add (l.toNat * sz))) (u.toNat - l.toNat) (c - l.toNat))) := by
        refine Zbz.2 (.inl ⟨_, _, rfl, hA.lt, by omega, ?_, by omega, ?_, fun c' hc' => ?_⟩)
        ·have := hA.max; omega
        ·obtain ⟨bb, q1, q2⟩ := hA.at_
         refine ⟨bb, by rw [q1]; congr 1; omega, fun hc => ?_⟩
         rw [if_neg (by omega), q2 (by omega), ZdP, e1, Nat.add_mul]
        ·cases co with
         | none => cases hc'
         | some c0 =>
          injection hc' with hc'
          have := hA.cap c0 rfl
          dsimp only at hc'
          omega
       refine ⟨_, fun ρ' hρ w _ _ => ?_, hK _ hsv⟩
       have hρ' : ρ' x = .slice (some ad) n0 c /\ (lo.toArray ++ hi.toArray ++ (none : Option Operand).toArray).toList.map ρ' = bs.map AV.val := by
        simp [Op.operands] at hρ ⊢
        exact hρ
       have hr := Zk4 (P := P) (w := w) (A := some ad) he hsz hρ'.2 hse (by omega) hcu (Nat.le_refl _)
       rw [hval none] at hr
       simp only [execOp, hρ'.1, Sem.run_bind, hr, Result.andThen_ok, Sem.run_pure]
      ·cases hk
     ·cases hk
    ·cases hk
   ·cases hk
  ·cases hk
theorem Zvv {E i j o : Nat} {kp : Bool} {ox : Operand} {e : TypeId} {xs : List (T E)} {x : T E} (hi : h[i]? = some (.arr e E kp xs)) (ho : o <= C.sz E) (hj : xs[j]? = some x) (hk : (Zes (Zer P t) (Zaw P t) ((C.enc E x).drop o) 0 fun v => k v h) = some z) : Zcn C P U ⟨d, .load t ox, ty, pos, af, g⟩ [.ap E i j o] h k z := by
 obtain ⟨r, h1, h2⟩ := Zd7 hk
 refine ⟨_, _, h1, fun ρ σ as_ hs H => ?_⟩
 obtain ⟨a, rfl, h3⟩ := ZgU.1 hs
 obtain ⟨b, rfl, hiN, K, hρ, hjK⟩ := ZoW.1 h3
 obtain ⟨pre, rest, hb2, hb3, hb4, hb5, hb6⟩ := H.arrAt hi hρ
 obtain ⟨p, q, r', e1, e2, e3⟩ := ZB9 (rest := rest) (hb4 h.length ρ) hj
 have hql := e3.len
 rw [C.len] at hql
 obtain ⟨a, h4, h5⟩ := h2 h.length ρ (q.drop o) r' (e3.drop o)
 refine ⟨a, ?_, ρ, h5, H, .refl _ _ _ _⟩
 unfold ZfX ptr
 dsimp only
 rw [hb2, e1]
 dsimp only
 refine Zrl (by simp only [List.length_append]; omega) ?_
 rw [<- e2, <- List.drop_drop, List.drop_left, List.drop_append_of_le_length (by omega)]
 exact h4
theorem Ztt {E i j o n : Nat} (hU : U i) {ox oy : Operand} {e : TypeId} {kp : Bool} {xs : List (T E)} {y y' : T E} {v : XV T} (hi : h[i]? = some (.arr e E kp xs)) (hn : Zaw P t = some n) (hc : v.isVal = true /\ Nat.beq v.cells.length n = true /\ o + n <= C.sz E) (hj : xs[j]? = some y) (hy : C.dec E (Zk7 (C.enc E y) o v.cells) = some y')
 (hk : k .junk (h.set i (.arr e E kp (xs.set j y'))) = some z) : Zcn C P U ⟨d, .store t ox oy, ty, pos, af, g⟩ [.ap E i j o, v] h k z := by
 obtain ⟨c1, c2, c3⟩ := hc
 have c2 := Nat.eq_of_beq_eq_true c2
 refine ⟨_, _, hk, fun ρ σ as_ hs H => ?_⟩
 obtain ⟨a, u, rfl, h3, h4⟩ := ZiI.1 hs
 obtain ⟨b, rfl, hiN, K, hρ, hjK⟩ := ZoW.1 h3
 obtain ⟨pre, rest, hb2, hb3, hb4, hb5, hb6⟩ := H.arrAt hi hρ
 have hlt := Zav hj
 have hx : xs[j] = y := by rw [List.getElem?_eq_getElem hlt] at hj; injection hj
 have hcv := Zlt h4 c1
 have e1 := hcv.len
 have hpre := (hb4 h.length ρ).len
 rw [Zc2] at hpre
 have hm : (j + 1) * C.sz E <= xs.length * C.sz E := Nat.mul_le_mul_right _ hlt
 rw [Nat.succ_mul] at hm
 have hones : u.cells.all AV.one = true := List.all_eq_true.2 (hcv.ones (ZnS c1))
 have hnew : SVs C h.length ρ ((xs.set j y').flatMap (C.enc E)) (ZaH pre (j * C.sz E + o) u.cells) := by
  have hb := hb4 h.length ρ
  have p1 := hb.take (j * C.sz E)
  have p2 := (hb.drop (j * C.sz E)).take (C.sz E)
  have p3 := hb.drop ((j + 1) * C.sz E)
  rw [Ze3] at p1
  rw [Zet] at p3
  rw [Zet, List.drop_eq_getElem_cons hlt, List.flatMap_cons, List.take_append_of_le_length (by rw [C.len]; omega), List.take_of_length_le (by rw [C.len]; omega), hx] at p2
  have p4 := Wks.sv (C.back E _ _ hy) (ZnX o p2 hcv)
  have := p1.app (p4.app p3)
  rw [List.set_eq_take_append_cons_drop, if_pos hlt, List.flatMap_append, List.flatMap_cons]
  have he : ZaH pre (j * C.sz E + o) u.cells = pre.take (j * C.sz E) ++ (ZaH ((pre.drop (j * C.sz E)).take (C.sz E)) o u.cells ++ pre.drop ((j + 1) * C.sz E)) := by
   unfold ZaH
   rw [List.take_take, Nat.min_eq_left (by omega), List.take_add, List.append_assoc, List.append_assoc, List.append_assoc, List.append_assoc]
   congr 3
   rw [List.drop_take, List.drop_drop]
   rw [Nat.succ_mul]
   have hl : u.cells.length = n := by rw [e1, c2]
   rw [hl]
   conv => lhs; rw [<- List.take_append_drop (C.sz E - (o + n)) (pre.drop (j * C.sz E + o + n))]
   congr 1
   ·rw [Nat.add_assoc]
   ·rw [List.drop_drop]
    congr 1
    omega
  rw [he]
  exact this
 have hsp : ZaH (pre ++ rest) (j * C.sz E + o) u.cells = ZaH pre (j * C.sz E + o) u.cells ++ rest := by
  unfold ZaH
  have hl : u.cells.length = n := by rw [e1, c2]
  rw [List.take_append_of_le_length (by omega), List.drop_append_of_le_length (by omega), List.append_assoc, List.append_assoc, List.append_assoc]
 obtain ⟨g1, g2⟩ := H.writeArr (rest' := rest) hU hi hρ (fun N' ρ' => hnew.shut (ZcC _)) (by
  rw [<- hsp]
  have hl : u.cells.length = n := by rw [e1, c2]
  unfold ZaH
  simp only [List.length_append, List.length_take, List.length_drop] at hb5 ⊢
  omega) hb6.2
 refine ⟨_, ?_, ρ, Zcu, g1, g2⟩
 unfold ZkK ptr Zhs
 dsimp only
 rw [hb2, hn]
 dsimp only
 rw [Zhx h4 c1, hones, hsp]
 rw [if_pos (by simp only [Bool.true_and, Bool.and_true, Bool.and_eq_true, decide_eq_true_eq, beq_iff_eq, List.length_append]; omega)]
theorem Zrr {E i j n : Nat} (hU : U i) {ox oy : Operand} {e : TypeId} {kp : Bool} {xs : List (T E)} {y' : T E} {v : XV T} (hi : h[i]? = some (.arr e E kp xs)) (hn : Zaw P t = some n) (hc : v.isVal = true /\ Nat.beq v.cells.length n = true /\ Nat.beq n (C.sz E) = true) (hj : j <= xs.length) (hy : C.dec E v.cells = some y')
 (hk : k .junk (h.set i (.arr e E kp (xs.take j ++ y' :: xs.drop (j + 1)))) = some z) : Zcn C P U ⟨d, .store t ox oy, ty, pos, af, g⟩ [.ap E i j 0, v] h k z := by
 obtain ⟨c1, c2, c3⟩ := hc
 have c2 := Nat.eq_of_beq_eq_true c2
 have c3 := Nat.eq_of_beq_eq_true c3
 refine ⟨_, _, hk, fun ρ σ as_ hs H => ?_⟩
 obtain ⟨a, u, rfl, h3, h4⟩ := ZiI.1 hs
 obtain ⟨b, rfl, hiN, K, hρ, hjK⟩ := ZoW.1 h3
 obtain ⟨pre, rest, hb2, hb3, hb4, hb5, hb6⟩ := H.arrAt hi hρ
 have hcv := Zlt h4 c1
 have e1 := hcv.len
 have hl : u.cells.length = C.sz E := by rw [e1, c2, c3]
 have hpre := (hb4 h.length ρ).len
 rw [Zc2] at hpre
 have hm : j * C.sz E <= xs.length * C.sz E := Nat.mul_le_mul_right _ hj
 have hm2 : (j + 1) * C.sz E <= K * C.sz E := Nat.mul_le_mul_right _ hjK
 have hones : u.cells.all AV.one = true := List.all_eq_true.2 (hcv.ones (ZnS c1))
 have hnew : SVs C h.length ρ ((xs.take j ++ y' :: xs.drop (j + 1)).flatMap (C.enc E)) (pre.take (j * C.sz E) ++ u.cells ++ pre.drop (j * C.sz E + u.cells.length)) := by
  have hb := hb4 h.length ρ
  have p1 := hb.take (j * C.sz E)
  have p3 := hb.drop ((j + 1) * C.sz E)
  rw [Ze3] at p1
  rw [Zet] at p3
  have p4 := Wks.sv (C.back E _ _ hy) hcv
  have := (p1.app p4).app p3
  rw [List.flatMap_append, List.flatMap_cons, <- List.append_assoc]
  rw [hl, show j * C.sz E + C.sz E = (j + 1) * C.sz E from (Nat.succ_mul _ _).symm]
  exact this
 have hsp := ZpC pre rest u.cells (off := j * C.sz E) (by omega)
 obtain ⟨g1, g2⟩ := H.writeArr (rest' := rest.drop (j * C.sz E + u.cells.length - pre.length)) hU hi hρ (fun N' ρ' => hnew.shut (ZcC _)) (by
  rw [<- hsp]
  rw [Nat.succ_mul] at hm2
  unfold ZaH
  simp only [List.length_append, List.length_take, List.length_drop] at hb5 ⊢
  omega) (fun hf => by
  obtain ⟨zs, hzs⟩ := hb6.2 hf
  refine ⟨zs.drop (j + 1 - xs.length), fun N ρ => ?_⟩
  have p := (hzs N ρ).drop ((j + 1 - xs.length) * C.sz E)
  rw [Zet] at p
  have he : j * C.sz E + u.cells.length - pre.length = (j + 1 - xs.length) * C.sz E := by rw [hl, hpre, Nat.sub_mul, Nat.succ_mul]
  rw [he]
  exact p)
 refine ⟨_, ?_, ρ, Zcu, g1, g2⟩
 unfold ZkK ptr Zhs
 dsimp only
 rw [Nat.add_zero, hb2, hn]
 dsimp only
 rw [Zhx h4 c1, hones, hsp]
 rw [Nat.succ_mul] at hm2
 rw [if_pos (by simp only [Bool.true_and, Bool.and_true, Bool.and_eq_true, decide_eq_true_eq, beq_iff_eq, List.length_append] at hb5 ⊢; omega)]
theorem Zux : ∀ {vs : List (XV T)} {ps : List Nat} {as_ : List AV}, Zvn vs = some ps -> SVs C N ρ vs as_ -> ∃ bs : List Nat, as_.map AV.val = bs.map (fun b => Value.pointer (some ⟨b, 0, none⟩)) /\ ZgS N ρ ps bs
 | [], ps, as_, hp, hs => by
  injection hp with hp
  subst hp
  rw [ZcB.1 hs]
  exact ⟨[], rfl, trivial⟩
 | v :: vs, ps, as_, hp, hs => by
  obtain ⟨a, bs, rfl, h1, h2⟩ := hs.to
  unfold Zvn at hp
  split at hp
  ·rename_i heq; cases heq
  ·rename_i i l heq
   injection heq with q1 q2
   subst q1 q2
   cases hr : Zvn vs with
   | none => rw [hr] at hp; cases hp
   | some ps' =>
    rw [hr] at hp
    injection hp with hp
    subst hp
    obtain ⟨cs, g1, g2⟩ := Zux hr h2
    obtain ⟨b, rfl, h3, h4⟩ := Zfj.1 h1
    exact ⟨b :: cs, by simp [g1, ptr], ⟨h3, h4⟩, g2⟩
  ·cases hp
theorem ZmO {f : FuncId} {first caps : Array Operand} {ps : List Nat} (hf : Nat.beq first.size 0 = true) (hp : Zvn vs = some ps) (hk : k (match ps with | [] => .fn f | i :: l => .clo f (i :: l)) h = some z) : Zcn C P U ⟨d, .makeFunc (.func f) first caps, ty, pos, af, g⟩ vs h k z := by
 refine ⟨_, h, hk, ZnT.same fun ρ σ as_ K hs H hK => ?_⟩
 obtain ⟨bs, g1, g2⟩ := Zux hp hs
 have hf0 : first = #[] := Array.eq_empty_of_size_eq_zero (Nat.eq_of_beq_eq_true hf)
 subst hf0
 refine .inl ⟨ZCS f bs, fun ρ' hρ w _ _ => ?_, hK _ ?_⟩
 ·have hc : caps.map ρ' = (bs.map fun b => Value.pointer (some ⟨b, 0, none⟩)).toArray := by
   apply Array.ext'
   simp only [Op.operands] at hρ
   rw [g1] at hρ
   simpa using hρ
  simp [execOp, Instr.makeFunc, ZCS, hc]
 ·cases ps with
  | nil =>
   cases bs with
   | nil => exact Zlr.2 rfl
   | cons b bs => exact g2.elim
  | cons i l => exact ZkP.2 ⟨bs, rfl, g2⟩
theorem ZgS.svs : ∀ {ps bs : List Nat}, ZgS N ρ ps bs -> SVs C N ρ (ps.map fun i => .ptr i 0) (bs.map fun b => ptr b 0)
 | [], [], _ => .none
 | i :: ps, b :: bs, h => .cons (Zfj.2 ⟨b, rfl, h.1.1, h.1.2⟩) (ZgS.svs h.2)
 | [], _ :: _, h => h.elim
 | _ :: _, [], h => h.elim
theorem ZDo {α β : Type} {as_ : Array α} {f : α -> β} {y : β} (h : as_.toList.map f = [y]) : ∃ x, as_ = #[x] /\ f x = y := by
 obtain ⟨l⟩ := as_
 match l, h with
 | [x], h => exact ⟨x, rfl, by simpa using h⟩
theorem ZCW {α β : Type} {as_ : Array α} {f : α -> β} {y z : β} (h : as_.toList.map f = [y, z]) : ∃ x u, as_ = #[x, u] /\ f x = y /\ f u = z := by
 obtain ⟨l⟩ := as_
 match l, h with
 | [x, u], h => simp at h; exact ⟨x, u, rfl, h.1, h.2⟩
theorem Zuy {as_ : Array Operand} {ts : Array TypeId} {e : TypeId} {B : Option Addr} {n c : Nat} {cells : List AV} (hts : ts[0]? = some t) (ht : ZaB P t = some e) : ZdR P ⟨d, .call ⟨.builtin .len, as_, ts⟩, ty, pos, af, g⟩ [.lst B n c cells] (.int .i64 n) := fun ρ hρ w _ _ => by
 obtain ⟨x, rfl, hx⟩ := ZDo (as_ := as_) (f := ρ) (y := .slice B n c) (by simpa [Op.operands, Call.operands] using hρ)
 simp [execOp, resolve, invoke, builtin, Builtin.len_, hx, hts, run_underlying (ZaQ ht), goInt]
theorem ZAY {as_ : Array Operand} {ts : Array TypeId} {e : TypeId} {B : Option Addr} {n c : Nat} (hts : ts[0]? = some t) (ht : ZaB P t = some e) : ZdR P ⟨d, .call ⟨.builtin .len, as_, ts⟩, ty, pos, af, g⟩ [.raw (.slice B n c)] (.int .i64 n) := fun ρ hρ w _ _ => by
 obtain ⟨x, rfl, hx⟩ := ZDo (as_ := as_) (f := ρ) (y := .slice B n c) (by simpa [Op.operands, Call.operands] using hρ)
 simp [execOp, resolve, invoke, builtin, Builtin.len_, hx, hts, run_underlying (ZaQ ht), goInt]
theorem ZAZ {as_ : Array Operand} {ts : Array TypeId} {s : List UInt8} (hts : ts[0]? = some t) (ht : P.underlying t = some .string) : ZdR P ⟨d, .call ⟨.builtin .len, as_, ts⟩, ty, pos, af, g⟩ [.raw (.string ⟨s.toArray⟩)] (.int .i64 s.length) := fun ρ hρ w _ _ => by
 obtain ⟨x, rfl, hx⟩ := ZDo (as_ := as_) (f := ρ) (y := .string ⟨s.toArray⟩) (by simpa [Op.operands, Call.operands] using hρ)
 have hl : (ByteArray.mk s.toArray).size = s.length := by show s.toArray.size = _; simp
 simp [execOp, resolve, invoke, builtin, Builtin.len_, hx, hts, run_underlying ht, goInt, hl]
theorem ZCc {as_ : Array Operand} {ts : Array TypeId} {ka kb : IntKind} {a b : Int} : ZdR P ⟨d, .call ⟨.builtin .min, as_, ts⟩, ty, pos, af, g⟩ [.raw (.int ka a), .raw (.int kb b)] (.int ka (if b < a then b else a)) := fun ρ hρ w _ _ => by
 obtain ⟨x, y, rfl, hx, hy⟩ := ZCW (as_ := as_) (f := ρ) (y := .int ka a) (z := .int kb b) (by simpa [Op.operands, Call.operands] using hρ)
 simp [execOp, resolve, invoke, builtin, Builtin.min_, hx, hy, Builtin.min2]
theorem ZCd {as_ : Array Operand} {ts : Array TypeId} {ka kb : IntKind} {a b : Int} : ZdR P ⟨d, .call ⟨.builtin .max, as_, ts⟩, ty, pos, af, g⟩ [.raw (.int ka a), .raw (.int kb b)] (.int ka (if a < b then b else a)) := fun ρ hρ w _ _ => by
 obtain ⟨x, y, rfl, hx, hy⟩ := ZCW (as_ := as_) (f := ρ) (y := .int ka a) (z := .int kb b) (by simpa [Op.operands, Call.operands] using hρ)
 simp [execOp, resolve, invoke, builtin, Builtin.max_, hx, hy, Builtin.max2]
theorem ZA0 {as_ : Array Operand} {ts : Array TypeId} {a b : List UInt8} : ZdR P ⟨d, .call ⟨.builtin .min, as_, ts⟩, ty, pos, af, g⟩ [.raw (.string ⟨a.toArray⟩), .raw (.string ⟨b.toArray⟩)] (.string ⟨(bif (decide (a < b) || decide (a = b)) then a else b).toArray⟩) := fun ρ hρ w _ _ => by
 obtain ⟨x, y, rfl, hx, hy⟩ := ZCW (as_ := as_) (f := ρ) (y := .string ⟨a.toArray⟩) (z := .string ⟨b.toArray⟩) (by simpa [Op.operands, Call.operands] using hρ)
 by_cases h1 : a < b <;> by_cases h2 : a = b <;> simp [execOp, resolve, invoke, builtin, Builtin.min_, hx, hy, Builtin.min2, Op.stringOp, ZnU, Zgz, asBool, h1, h2]
theorem ZA1 {as_ : Array Operand} {ts : Array TypeId} {a b : List UInt8} : ZdR P ⟨d, .call ⟨.builtin .max, as_, ts⟩, ty, pos, af, g⟩ [.raw (.string ⟨a.toArray⟩), .raw (.string ⟨b.toArray⟩)] (.string ⟨(bif !decide (a < b) then a else b).toArray⟩) := fun ρ hρ w _ _ => by
 obtain ⟨x, y, rfl, hx, hy⟩ := ZCW (as_ := as_) (f := ρ) (y := .string ⟨a.toArray⟩) (z := .string ⟨b.toArray⟩) (by simpa [Op.operands, Call.operands] using hρ)
 by_cases h1 : a < b <;> simp [execOp, resolve, invoke, builtin, Builtin.max_, hx, hy, Builtin.max2, Op.stringOp, ZnU, Zgz, asBool, h1]
theorem Zuz {tou : Tou T} {c : Call} (hO : orc.Ok C P tou) (hU : ∀ i ∈ ZkR tou (.call c) vs h, U i) (hn : c.args.size + (match c.callee with | .value _ => 1 | _ => 0) = vs.length) (hk : Zvp C P orc c vs h k = some z) : Zcn C P U ⟨d, .call c, ty, pos, af, g⟩ vs h k z := by
 obtain ⟨callee, as_, ts⟩ := c
 unfold Zvp at hk
 dsimp only at hk hn
 split at hk
 ·rename_i y f args
  obtain ⟨r, h', h1, h2⟩ := hO.call _ _ _ _ _ hk
  refine ⟨r, h', h1, fun ρ σ bs hs H => ?_⟩
  obtain ⟨a, cs, rfl, h3, h4⟩ := hs.to
  rw [Zlr.1 h3]
  refine ⟨f, #[], #[], by simp, ?_⟩
  have := h2 ρ σ cs h4 H
  simpa using this.mono fun rv τ ⟨ρ', g1, g2, g3⟩ => ⟨ρ', g1, g2, g3.mono hU⟩
 ·rename_i y f ps args
  rw [Zc0] at hk
  obtain ⟨r, h', h1, h2⟩ := hO.call _ _ _ _ _ hk
  refine ⟨r, h', h1, fun ρ σ bs hs H => ?_⟩
  obtain ⟨a, cs, rfl, h3, h4⟩ := hs.to
  obtain ⟨ks, rfl, h5⟩ := ZkP.1 h3
  refine ⟨f, #[], (ks.map fun b => Value.pointer (some ⟨b, 0, none⟩)).toArray, rfl, ?_⟩
  have := h2 ρ σ (cs ++ ks.map fun b => ptr b 0) (h4.app h5.svs) H
  have e : (#[] : Array Value).toList.map AV.raw ++ cs ++ (ks.map fun b => Value.pointer (some ⟨b, 0, none⟩)).toArray.toList.map AV.raw = cs ++ ks.map fun b => ptr b 0 := by simp [ptr, Function.comp_def]
  rw [e]
  exact this.mono fun rv τ ⟨ρ', g1, g2, g3⟩ => ⟨ρ', g1, g2, g3.mono hU⟩
 ·split at hk
  ·rename_i E xs ow t' hts
   split at hk
   ·rename_i e he
    refine Zeu hk (fun bs σ K hl hp => ?_) (fun ρ bs hs => ?_)
    ·match bs, hl with
     | [b], _ => exact .inl hp
    ·obtain ⟨a, rfl, h3⟩ := ZgU.1 hs
     obtain ⟨B, c, cs, rest, rfl, _⟩ := ZgT h3
     exact ⟨_, Zuy hts he, Zat.2 rfl⟩
   ·cases hk
  ·rename_i t' hts
   split at hk
   ·rename_i e he
    refine Zeu hk (fun bs σ K hl hp => ?_) (fun ρ bs hs => ?_)
    ·match bs, hl with
     | [b], _ => exact .inl hp
    ·obtain ⟨a, rfl, h3⟩ := ZgU.1 hs
     rw [ZfZ.1 h3]
     exact ⟨_, Zuy hts he, Zat.2 rfl⟩
   ·cases hk
  ·rename_i s t' hts
   split at hk
   ·rename_i he
    refine Zeu hk (fun bs σ K hl hp => ?_) (fun ρ bs hs => ?_)
    ·match bs, hl with
     | [b], _ => exact .inl hp
    ·obtain ⟨a, rfl, h3⟩ := ZgU.1 hs
     rw [Zc1.1 h3]
     exact ⟨_, ZAZ hts he, Zat.2 rfl⟩
   ·cases hk
  ·rename_i E i lo n co t' hts
   split at hk
   ·rename_i e he
    refine ⟨_, h, hk, ZnT.same fun ρ σ bs K hs H hK => ?_⟩
    obtain ⟨a, rfl, h3⟩ := ZgU.1 hs
    rcases Zbz.1 h3 with ⟨ad, c, rfl, hA⟩ | ⟨rfl, hn0, _⟩
    ·exact .inl ⟨_, ZAY hts he, hK _ (Zat.2 rfl)⟩
    ·subst hn0
     exact .inl ⟨_, Zuy hts he, hK _ (Zat.2 rfl)⟩
   ·cases hk
  ·rename_i l t' hts
   split at hk
   ·rename_i e he
    refine Zeu hk (fun bs σ K hl hp => ?_) (fun ρ bs hs => ?_)
    ·match bs, hl with
     | [b], _ => exact .inl hp
    ·obtain ⟨a, rfl, h3⟩ := ZgU.1 hs
     obtain ⟨B, c, cs, rest, rfl, _⟩ := Zwu.1 h3
     exact ⟨_, Zuy hts he, Zat.2 rfl⟩
   ·cases hk
  ·cases hk
 ·refine Zeu hk (fun bs σ K hl hp => ?_) (fun ρ bs hs => ?_)
  ·match bs, hl with
   | [a, b], _ => exact .inl hp
  ·obtain ⟨a, b, rfl, h3, h4⟩ := ZiI.1 hs
   rw [Zat.1 h3, Zat.1 h4]
   exact ⟨_, ZCc, Zat.2 rfl⟩
 ·refine Zeu hk (fun bs σ K hl hp => ?_) (fun ρ bs hs => ?_)
  ·match bs, hl with
   | [a, b], _ => exact .inl hp
  ·obtain ⟨a, b, rfl, h3, h4⟩ := ZiI.1 hs
   rw [Zc1.1 h3, Zc1.1 h4]
   exact ⟨_, ZA0, Zc1.2 rfl⟩
 ·refine Zeu hk (fun bs σ K hl hp => ?_) (fun ρ bs hs => ?_)
  ·match bs, hl with
   | [a, b], _ => exact .inl hp
  ·obtain ⟨a, b, rfl, h3, h4⟩ := ZiI.1 hs
   rw [Zc1.1 h3, Zc1.1 h4]
   exact ⟨_, ZA1, Zc1.2 rfl⟩
 ·refine Zeu hk (fun bs σ K hl hp => ?_) (fun ρ bs hs => ?_)
  ·match bs, hl with
   | [a, b], _ => exact .inl hp
  ·obtain ⟨a, b, rfl, h3, h4⟩ := ZiI.1 hs
   rw [Zat.1 h3, Zat.1 h4]
   exact ⟨_, ZCd, Zat.2 rfl⟩
 ·split at hk
  ·rename_i t1 t2 hts
   obtain ⟨l⟩ := as_
   obtain ⟨tl⟩ := ts
   simp only at hts
   subst hts
   match l, hn with
   | [ox, oy], _ =>
   split at hk
   ·rename_i ht
    have ht := Nat.eq_of_beq_eq_true ht
    subst ht
    rw [cond_eq_ite] at hk
    split at hk
    ·rename_i hm
     exact ZAR hm (fun E i lo n co e => hU i (by subst e; exact List.mem_singleton.2 rfl)) hk
    ·exact Zvu (fun E xs r e => hU r (by subst e; exact List.mem_singleton.2 rfl)) hk
   ·exact ZAS hk
  ·cases hk
 ·split at hk
  ·rename_i t' hts
   split at hk
   ·rename_i e he
    exact ZAT hts he hk (by simpa using hn)
   ·cases hk
  ·cases hk
 ·split at hk
  ·rename_i t1 t2 hts
   obtain ⟨l⟩ := as_
   obtain ⟨tl⟩ := ts
   simp only at hts
   subst hts
   match l, hn with
   | [ox, oy], _ => exact Zyr (fun E i lo n co e => hU i (by subst e; exact List.mem_singleton.2 rfl)) hk
  ·cases hk
 ·split at hk
  ·rename_i t1 hts
   obtain ⟨l⟩ := as_
   obtain ⟨tl⟩ := ts
   simp only at hts
   subst hts
   match l, hn with
   | [ox], _ => exact ZwI (fun E i lo n co e => hU i (by subst e; exact List.mem_singleton.2 rfl)) hk
  ·cases hk
 ·cases hk
theorem Ztu {o : Oper} {E : Nat} {xs ys : List (T E)} {y : XV T} (hs : Zcn C P U o [.sl E xs none, y] h k z) : Zcn C P U o [.slx E xs ys, y] h k z := by
 obtain ⟨r, h', h1, h2⟩ := hs
 refine ⟨r, h', h1, fun ρ σ as_ hs H => h2 ρ σ as_ ?_ H⟩
 obtain ⟨a, b, rfl, k1, k2⟩ := ZiI.1 hs
 exact .cons ((Wk.spare _ _ _).sv k1) k2
theorem ZDp {N : Nat} {ρ : Nat -> AV} {v : XV T} {a : AV} (hs : SV C N ρ v a) : SV C N ρ v.wk a := by
 cases v <;> first | exact hs | exact (Wk.spare _ _ _).sv hs
theorem ZCe {N : Nat} {ρ : Nat -> AV} {as_ : List AV} {vs : List (XV T)} (hs : SVs C N ρ vs as_) : SVs C N ρ (vs.map XV.wk) as_ := by
 induction vs generalizing as_ with
 | nil => exact hs
 | cons v vs ih => obtain ⟨a, bs, rfl, h1, h2⟩ := hs.to; exact .cons (ZDp h1) (ih h2)
theorem ZCf {o : Oper} (hs : Zcn C P U o (vs.map XV.wk) h k z) : Zcn C P U o vs h k z := by
 obtain ⟨r, h', h1, h2⟩ := hs
 exact ⟨r, h', h1, fun ρ σ as_ hs H => h2 ρ σ as_ (ZCe hs) H⟩
theorem ZwR : ∀ vs : List (XV T), gvs (vs.map XV.wk) = gvs vs
 | [] => rfl
 | v :: vs => by
  rw [List.map_cons]
  cases v <;> first | exact ZwR vs | exact congrArg (List.cons _) (ZwR vs)
theorem Zyz {tou : Tou T} {c : Call} (hb : ZnW c = true) {i : Nat} (hi : i ∈ ZkR tou (.call c) (vs.map XV.wk) h) : i ∈ ZkR tou (.call c) vs h := by
 obtain ⟨callee, as_, ts⟩ := c
 cases callee with
 | builtin b =>
  cases vs with
  | nil => exact hi
  | cons v vs =>
   have key : ∀ {u : XV T}, i ∈ gvs ((u :: vs).map XV.wk) -> i ∈ gvs (u :: vs) := fun h => by rw [ZwR] at h; exact h
   cases v with
   | sl E xs o => cases o <;> cases b <;> first | exact hi | exact key hi
   | _ => cases b <;> first | exact hi | exact key hi
 | _ => cases hb
theorem ZpF {N : Nat} {ρ : Nat -> AV} : ∀ {bs : List UInt8} {cs : List AV}, SVs C N ρ (bs.map fun b => XV.int .u8 (b.toNat : Int)) cs -> cs = bs.map fun b => AV.raw (.int .u8 (b.toNat : Int))
 | [], cs, h => ZcB.1 h
 | b :: bs, cs, h => by
  obtain ⟨a, l, rfl, h1, h2⟩ := h.to
  rw [Zat.1 h1, ZpF h2]
  rfl
theorem Zvw {tou : Tou T} {o : Op} (hO : orc.Ok C P tou) (hU : ∀ i ∈ ZkR tou o vs h, U i) (hn : o.operands.size = vs.length) (hk : ZDm C P orc o vs h k = some z) : Zcn C P U ⟨d, o, ty, pos, af, g⟩ vs h k z := by
 unfold ZDm at hk
 split at hk
 ·rw [Ze2] at hk
  exact ⟨_, _, hk, ZnT.same fun ρ σ as_ K hs H hK => by obtain ⟨a, rfl, h1⟩ := ZgU.1 hs; exact hK a h1⟩
 ·rw [Ze2] at hk
  exact ⟨_, _, hk, ZnT.same fun ρ σ as_ K hs H hK => by obtain ⟨a, rfl, h1⟩ := ZgU.1 hs; exact hK a h1⟩
 ·rw [Ze2, Ze2] at hk
  rename_i c a b
  cases c
  ·exact Zuw hk rfl
  ·exact Zuw hk rfl
 ·split at hk
  ·rw [Zc0, Zbd] at hk
   exact ZwC ‹_› hk
  ·cases hk
 ·split at hk
  ·rw [Zc0, Zbd] at hk
   exact ZAQ ‹_› hk
  ·cases hk
 ·split at hk
  ·split at hk
   ·rw [Zc0] at hk
    exact ZwD ‹_› ‹_› ‹_› hk
   ·cases hk
  ·cases hk
 ·split at hk
  ·split at hk
   ·split at hk
    ·split at hk
     ·simp only [Zbd] at hk
      exact Zrj ‹_› ‹_› ‹_› ‹_› ‹_› hk
     ·cases hk
    ·cases hk
   ·split at hk
    ·split at hk
     ·rw [Zc0] at hk
      exact ZnY ‹_› ‹_› ‹_› ‹_› ‹_› hk
     ·cases hk
    ·cases hk
   ·cases hk
  ·cases hk
 ·split at hk
  ·exact Zyq ‹_› hk
  ·cases hk
 ·exact Ztl hk
 ·exact Zvq hk
 ·split at hk
  ·split at hk
   ·split at hk
    ·rw [Zc0, Zbd] at hk
     exact ZwE (hU _ (List.mem_singleton.2 rfl)) ‹_› ‹_› ‹_› hk
    ·cases hk
   ·cases hk
  ·cases hk
 ·split at hk
  ·rename_i hi
   split at hk
   ·rename_i hE
    obtain ⟨hE, ho⟩ := hE
    subst hE
    obtain ⟨x, hx, hk⟩ := Zp3 hk
    exact Zvv hi ho hx hk
   ·cases hk
  ·cases hk
 ·split at hk
  ·rename_i hi
   split at hk
   ·rename_i hE
    subst hE
    split at hk
    ·rename_i n hn'
     rw [cond_eq_ite] at hk
     split at hk
     ·split at hk
      ·rename_i hc
       split at hk
       ·rename_i hj
        obtain ⟨y', hy', hk⟩ := Zp3 hk
        rw [Zbd] at hk
        simp only [Bool.and_eq_true] at hc
        obtain ⟨⟨⟨q1, q2⟩, q3⟩, q4⟩ := hc
        have q4 := Nat.eq_of_beq_eq_true q4
        subst q4
        exact Zrr (hU _ (List.mem_singleton.2 rfl)) hi hn' ⟨q1, q2, q3⟩ hj hy' hk
       ·cases hk
      ·cases hk
     ·split at hk
      ·rename_i hc
       obtain ⟨y, hy, hk⟩ := Zp3 hk
       obtain ⟨y', hy', hk⟩ := Zp3 hk
       rw [Zbd] at hk
       exact Ztt (hU _ (List.mem_singleton.2 rfl)) hi hn' hc hy hy' hk
      ·cases hk
    ·cases hk
   ·cases hk
  ·cases hk
 ·exact Zys hk
 ·split at hk
  ·rename_i hf
   split at hk
   ·exact ZmO (ps := []) hf ‹_› hk
   ·exact ZmO (ps := _ :: _) hf ‹_› hk
   ·cases hk
  ·cases hk
 ·split at hk
  ·exact ⟨_, _, hk, ZnT.same fun ρ σ as_ K hs H hK => by
    obtain ⟨a, rfl, h1⟩ := ZgU.1 hs
    obtain ⟨b, rfl, _⟩ := Zfj.1 h1
    exact ⟨rfl, hK _ h1⟩⟩
  ·exact ⟨_, _, hk, ZnT.same fun ρ σ as_ K hs H hK => by
    obtain ⟨a, rfl, h1⟩ := ZgU.1 hs
    obtain ⟨b, rfl, _⟩ := ZoW.1 h1
    exact ⟨rfl, hK _ h1⟩⟩
  ·exact ⟨_, _, hk, ZnT.same fun ρ σ as_ K hs H hK => by
    obtain ⟨a, rfl, h1⟩ := ZgU.1 hs
    obtain ⟨bs, rfl, _⟩ := ZkP.1 h1
    exact ⟨rfl, hK _ h1⟩⟩
  ·exact ⟨_, _, hk, ZnT.same fun ρ σ as_ K hs H hK => by
    obtain ⟨a, rfl, h1⟩ := ZgU.1 hs
    obtain ⟨ad, cs, rest, rfl, _⟩ := Zrg.1 h1
    exact ⟨rfl, hK _ h1⟩⟩
  ·exact ⟨_, _, hk, ZnT.same fun ρ σ as_ K hs H hK => by
    obtain ⟨a, rfl, h1⟩ := ZgU.1 hs
    obtain ⟨ad, cs, rest, rfl, _⟩ := Zvj.1 h1
    exact ⟨rfl, hK _ h1⟩⟩
  ·exact ⟨_, _, hk, ZnT.same fun ρ σ as_ K hs H hK => by
    obtain ⟨a, rfl, h1⟩ := ZgU.1 hs
    rw [Zlr.1 h1]
    exact ⟨rfl, hK _ (by rw [<- Zlr.1 h1]; exact h1)⟩⟩
  ·cases hk
 ·split at hk
  ·rename_i r hr
   rw [Ze2] at hk
   exact ⟨_, _, hk, ZnT.same fun ρ σ as_ K hs H hK => by
    obtain ⟨a, rfl, h1⟩ := ZgU.1 hs
    obtain ⟨ls, rfl, h2⟩ := ZkQ.1 h1
    obtain ⟨b, h3, h4⟩ := h2.get hr
    exact ⟨b, h3, hK _ h4⟩⟩
  ·cases hk
 ·split at hk
  ·split at hk
   ·split at hk
    ·exact Zp1 ‹_› ‹_› hk
    ·exact ZnZ ‹_› ‹_› hk
    ·exact Zn3 ‹_› ‹_› hk
    ·exact Zm1 ‹_› ‹_› hk
    ·cases hk
   ·cases hk
  ·cases hk
 ·split at hk
  ·split at hk
   ·exact ZwF ‹_› ‹_› hk
   ·cases hk
  ·cases hk
 ·split at hk
  ·split at hk
   ·split at hk
    ·exact Zrk ‹_› ‹_› ‹_› hk
    ·cases hk
   ·cases hk
  ·cases hk
 ·split at hk
  ·split at hk
   ·split at hk
    ·split at hk
     ·rw [Zc0] at hk
      exact Ztm ‹_› ‹_› ‹_› ‹_› hk
     ·cases hk
    ·cases hk
   ·cases hk
  ·cases hk
 ·split at hk
  ·split at hk
   ·split at hk
    ·exact Ztu (Zrk ‹_› ‹_› ‹_› hk)
    ·cases hk
   ·cases hk
  ·cases hk
 ·split at hk
  ·split at hk
   ·split at hk
    ·split at hk
     ·exact Ztr ‹_› ‹_› ‹_› ‹_› hk
     ·cases hk
    ·cases hk
   ·cases hk
  ·cases hk
 ·split at hk
  ·split at hk
   ·exact Zrp ‹_› ‹_› hk
   ·cases hk
  ·cases hk
 ·split at hk
  ·rename_i s _ n _ ht
   cases hb : Zdg s n with
   | none => rw [hb] at hk; cases hk
   | some b => rw [hb] at hk; exact ZwQ ht hb hk
  ·cases hk
 ·exact Zts hk
 ·exact ZwG hk
 ·exact Zrq hk
 ·exact Zvr hk
 ·exact ZAX hk
 ·rename_i b
  exact Zz5 hk fun ρ a ha => ⟨.bool (!b), fun w => by rw [Za6.1 ha]; simp [Op.unary], Za6.2 rfl⟩
 ·rename_i kd n
  exact Zz5 hk fun ρ a ha => ⟨.int kd (kd.wrap (0 - n)), fun w => by rw [Zat.1 ha]; simp [Op.unary, Op.intArith], Zat.2 rfl⟩
 ·split at hk
  ·rename_i ks kd ki n hs hd
   refine Zyy hk fun ρ a ha => ⟨.int kd (kd.wrap n), fun w => ?_, Zat.2 rfl⟩
   rw [Zat.1 ha]
   simp [convert, run_underlying hs, run_underlying hd, Conv.intToInt]
  ·rename_i e E xs o hs hd
   split at hk
   ·rename_i he
    obtain ⟨bs, hb, hk⟩ := Zp3 hk
    refine Zro hs he hd hk fun ρ a ha => ?_
    obtain ⟨A, c, cs, rest, rfl, l1, l2, l3, l4, l5⟩ := ZgT ha
    have hbs := C.byt_ok E xs bs hb
    rw [hbs] at l5
    refine ⟨A, _, c, cs, rest, rfl, ZpF l5, ?_⟩
    have h1 := congrArg List.length hbs
    rw [Zc2, List.length_map] at h1
    rw [<- h1, C.byt_sz E xs bs hb, Nat.mul_one]
   ·cases hk
  ·rename_i e hs hd
   split at hk
   ·rename_i he
    refine Zro hs he hd hk fun ρ a ha => ?_
    rw [ZfZ.1 ha]
    exact ⟨none, 0, 0, [], [], rfl, rfl, rfl⟩
   ·cases hk
  ·cases hk
 ·exact Zvs hk
 ·exact Zyw hk
 ·split at hk
  ·rw [Zbd] at hk
   exact ZwN ‹_› hk
  ·cases hk
 ·exact Zyu (hU _ (by simp [ZkR])) hk
 ·rename_i c
  cases hb : ZnW c
  ·rw [hb] at hk
   refine Zuz hO hU ?_ hk
   obtain ⟨callee, as_, ts⟩ := c
   simp only [Op.operands, Call.operands] at hn
   cases callee <;> simp at hn ⊢ <;> first | omega | (dsimp only [cond_false] at hk; unfold Zvp at hk; cases hk) | (cases hb)
  ·rw [hb] at hk
   refine ZCf (Zuz hO (fun i hi => hU i (Zyz hb hi)) ?_ hk)
   obtain ⟨callee, as_, ts⟩ := c
   simp only [Op.operands, Call.operands] at hn
   cases callee <;> simp at hn ⊢ <;> first | omega | (dsimp only [cond_true] at hk; unfold Zvp at hk; cases hk) | (cases hb)
 ·cases hk
theorem Zrs {tou : Tou T} {o : Op} (hO : orc.Ok C P tou) (hU : ∀ i ∈ ZkR tou o vs h, U i) (hn : o.operands.size = vs.length) (hk : xop C P orc o vs h k = some z) : Zcn C P U ⟨d, o, ty, pos, af, g⟩ vs h k z := by
 unfold xop at hk
 cases hb : orc.on o vs
 ·rw [hb] at hk; exact Zvw hO hU hn hk
 ·rw [hb] at hk
  obtain ⟨r, h', h1, h2⟩ := hO.op _ _ _ _ _ hb hk
  exact ⟨r, h', h1, fun ρ σ as_ hs H => Zfh (fun rv τ ⟨ρ', g1, g2, g3⟩ => ⟨ρ', g1, g2, g3.mono hU⟩) (h2 d ty pos af g ρ σ as_ hs H)⟩
end
end Go.Proofs.YtlmmpfbdgiokmaaGreat
