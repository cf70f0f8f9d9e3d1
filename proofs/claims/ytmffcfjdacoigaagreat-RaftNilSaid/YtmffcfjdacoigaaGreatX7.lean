/- Operations over typed values: append, calls, numbers; all in one. -/
import Derived.Test.YtmffcfjdacoigaaGreatMb
namespace Go.Proofs.YtmffcfjdacoigaaGreat
open Go.RowKit
set_option linter.unusedSimpArgs false
set_option maxRecDepth 100000
set_option linter.unusedVariables false
variable {T : Nat → Type} {A : Type}
section
variable {U : Nat → Prop} {C : Codec T} {N : Nat} {ρ : Nat → AV} {P : Program} {h : List (HI T)} {d : Option Nat} {ty t : TypeId} {pos : String} {af : Array Edge} {g : Option (Nat × Bool)} {z : A} {orc : Orc T A} {k : XV T → List (HI T) → Option A} {vs : List (XV T)}
theorem v_append {σ : St} {K : AV → St → Prop} {x y : Operand} {e : TypeId} {v : AV} {n m cb sz bytes : Nat} {zv : Value} {cells news : List AV} {B : Option Addr} (ht : sliceA P t = some e) (hs : sizeA P e = some sz) (hz : zeroA P e = some zv) (hby : bytesA P e = some bytes) (hzs : zv.cells.size = sz) (hsz : 0 < sz)
    (hown : Own σ e sz v n cells) (hl : m * sz ≤ news.length) (h1 : ∀ c ∈ news.take (m * sz), c.one = true) (h63 : n + m ≤ maxLen) (hb : (n + m) * bytes ≤ 140737488355328)
    (hK : ∀ v' τ, Own τ e sz v' (n + m) (cells ++ news.take (m * sz)) → App σ v τ v' → K v' τ) : aVal P ⟨d, .call ⟨.builtin .append, #[x, y], #[t, t]⟩, ty, pos, af, g⟩ [v, .lst B m cb news] σ K := by
  refine .inr ⟨rfl, fun ρ hρ w Z hH hV => ?_⟩
  have hρ' := hρ
  simp [Op.operands, Call.operands] at hρ'
  obtain ⟨v', σ', w', hr, h2, h3, h4, h5, h6⟩ := append_run (ty := ty) (B := B) (m := m) (cb := cb) (news := news) hH (hV v (by simp)) (hV (.lst B m cb news) (by simp)) ht hs hz hby hzs hsz hown hl h1 h63 hb
  refine ⟨v', σ', w', .inl ?_, hK v' σ' h2 h3, h4, h5, h6⟩
  simp [execOp, resolve, invoke, builtin, hρ', hr]
theorem lst_blk (A : Option Addr) (n c : Nat) (l : List AV) : (AV.lst A n c l).blk = (AV.lst A n c l).blkO := by cases A <;> rfl
theorem lst_owns {A : Option Addr} {n c : Nat} {l : List AV} {g : Nat} (h : (AV.lst A n c l).owns g) : (AV.lst A n c l).blk = some g := (lst_blk A n c l).trans h
theorem own_sv {τ : St} {e sz E : Nat} {v : AV} {xs : List (T E)} {cells : List AV} (ho : Own τ e sz v xs.length cells) (hl : xs.length ≤ 140737488355328) (hc : SVs C N ρ (xs.flatMap (C.enc E)) cells) : SV C N ρ (.sl E xs none) v := by
  obtain ⟨B, c, rfl, l1, l2, l3⟩ := ho.form
  exact sv_sl.2 ⟨B, c, cells, [], by simp, l1, l2, hl, l3, hc⟩
theorem snd_append {x y : XV T} {ox oy : Operand} (hU0 : ∀ E xs r, x = .sl E xs (some r) → U r) (hk : xappend C P t x y h k = some z) : Sound C P U ⟨d, .call ⟨.builtin .append, #[ox, oy], #[t, t]⟩, ty, pos, af, g⟩ [x, y] h k z := by
  unfold xappend at hk
  split at hk
  · cases hk
  rename_i e he
  split at hk
  rotate_left
  · cases hk
  rename_i sz zv by_ hsz hz hby
  split at hk
  rotate_left
  · cases hk
  rename_i hzs
  have hzs := Nat.eq_of_beq_eq_true hzs
  split at hk
  · -- nil
    rename_i E ys oy_
    split at hk
    rotate_left
    · cases hk
    rename_i e1
    have e1 := Nat.eq_of_beq_eq_true e1
    split at hk
    rotate_left
    · cases hk
    rename_i hroom
    rw [hforce_eq] at hk
    refine ⟨_, _, hk, fun ρ σ as_ hs H => ?_⟩
    obtain ⟨a, b, rfl, h3, h4⟩ := svs2.1 hs
    rw [sv_nil.1 h3]
    obtain ⟨B, c, cs, rest, rfl, l1, l2, l3, l4, l5⟩ := sv_list h4
    have hlen := l5.len
    rw [enc_len] at hlen
    have htk : (cs ++ rest).take (ys.length * sz) = cs := by rw [List.take_append_of_le_length (by rw [hlen, e1]; omega), List.take_of_length_le (by rw [hlen, e1]; omega)]
    have hpos := C.pos E
    refine v_append he hsz hz hby hzs (by omega) (n := 0) (cells := []) ⟨by simp, .inl ⟨rfl, rfl⟩⟩ (by rw [List.length_append, hlen, e1]; omega) (by rw [htk]; exact l5.ones fun v hv => closed_one (enc_shut ys v hv)) (by unfold maxLen; omega) (by rw [Nat.zero_add]; exact hroom.2) fun v' τ ho ha => ?_
    rw [htk, List.nil_append, Nat.zero_add] at ho
    have hnew : ∀ g, v'.owns g → σ.blk g = none ∧ ¬ σ.used g := fun g hg => by
      obtain ⟨B', c', rfl, _⟩ := ho.form
      have hg := lst_owns hg
      rcases ha.new with h1 | ⟨g', h1, h2, h5, _⟩
      · rw [h1] at hg; cases hg
      · rw [h1] at hg; injection hg with hg; subst hg; exact ⟨h2, h5⟩
    have hX : Ext σ τ := ⟨fun b x hx => ha.keep b x (by simp [AV.blk]) hx, ha.used⟩
    obtain ⟨g1, g2⟩ := H.newRow hX ho hnew
    refine ⟨_, ?_, g1, g2⟩
    exact sv_own.2 ⟨(rup_same _ _ _).symm, by simp, own_sv ho hroom.1 (l5.shut (enc_shut ys))⟩
  · -- ours
    rename_i E xs r E' ys oy_
    split at hk
    rotate_left
    · cases hk
    rename_i hE
    subst hE
    have hU := hU0 _ _ _ rfl
    split at hk
    rotate_left
    · cases hk
    rename_i e' sz' hr
    split at hk
    rotate_left
    · cases hk
    rename_i hc
    obtain ⟨c1, c2, e1⟩ := hc
    have c1 := Nat.eq_of_beq_eq_true c1
    have c2 := Nat.eq_of_beq_eq_true c2
    have e1 := Nat.eq_of_beq_eq_true e1
    subst c1 c2
    split at hk
    rotate_left
    · cases hk
    rename_i hroom
    rw [hforce_eq] at hk
    refine ⟨_, _, hk, fun ρ σ as_ hs H => ?_⟩
    obtain ⟨a, b, rfl, h3, h4⟩ := svs2.1 hs
    obtain ⟨rfl, hrN, h3⟩ := sv_own.1 h3
    obtain ⟨n0, cells0, ho0⟩ := H.it r _ hr
    obtain ⟨A0, c0, cs0, rest0, ea, k1, k2, k3, k4, k5⟩ := sv_sl.1 h3
    obtain ⟨A1, c1, ea1, _, _, _⟩ := ho0.form
    have hcl := ho0.1
    rw [ea] at ea1
    injection ea1 with i1 i2 i3 i4
    subst i1 i2 i3
    have hlen0 := k5.len
    rw [enc_len] at hlen0
    have hrest : rest0 = [] := by
      have := congrArg List.length i4
      rw [List.length_append, hlen0, hcl, e1] at this
      exact List.eq_nil_of_length_eq_zero (by omega)
    subst hrest
    rw [List.append_nil] at i4
    subst i4
    obtain ⟨B, c, cs, rest, rfl, l1, l2, l3, l4, l5⟩ := sv_list h4
    have hlen := l5.len
    rw [enc_len] at hlen
    have htk : (cs ++ rest).take (ys.length * sz') = cs := by rw [List.take_append_of_le_length (by rw [hlen, e1]; omega), List.take_of_length_le (by rw [hlen, e1]; omega)]
    have hpos := C.pos E'
    refine v_append he hsz hz hby hzs (by omega) ho0 (by rw [List.length_append, hlen, e1]; omega) (by rw [htk]; exact l5.ones fun v hv => closed_one (enc_shut ys v hv)) (by unfold maxLen; omega) hroom.2 fun v' τ ho ha => ?_
    rw [htk] at ho
    have hblk : (ρ r).blk = (ρ r).blkO := by rw [ea]; exact lst_blk _ _ _ _
    have hnew : ∀ g, v'.owns g → (ρ r).owns g ∨ (σ.blk g = none ∧ ¬ σ.used g) := fun g hg => by
      obtain ⟨B', c', rfl, _⟩ := ho.form
      have hg := lst_owns hg
      rcases ha.new with h1 | ⟨g', h1, h2, h5, _⟩
      · rw [h1, hblk] at hg; exact .inl (by rw [ea] at hg ⊢; exact hg)
      · rw [h1] at hg; injection hg with hg; subst hg; exact .inr ⟨h2, h5⟩
    have hX : But (fun b => (ρ r).owns b) σ τ := ha.but.more fun b hb => by rw [hblk] at hb; rw [ea] at hb ⊢; exact hb
    obtain ⟨g1, g2⟩ := H.grow hU hr hX ho hnew
    refine ⟨_, ?_, g1, g2⟩
    have hcs : SVs C h.length ρ ((xs ++ ys).flatMap (C.enc E')) (cs0 ++ cs) := by rw [List.flatMap_append]; exact k5.app l5
    have ho' : Own τ e' sz' v' (xs ++ ys).length (cs0 ++ cs) := by rw [List.length_append]; exact ho
    exact sv_own.2 ⟨by rw [rup_same], by simp, own_sv ho' (by rw [List.length_append]; exact hroom.1) (hcs.shut (enc_shut _))⟩
  · cases hk
theorem snd_pure {o : Oper} {r : XV T} (hk : k r h = some z) (hd : ∀ (as_ : List AV) σ (K : AV → St → Prop), as_.length = vs.length → (∃ v, PureRun P o as_ v ∧ K (.raw v) σ) → aVal P o as_ σ K)
    (hr : ∀ ρ as_, SVs C h.length ρ vs as_ → ∃ v, PureRun P o as_ v ∧ SV C h.length ρ r (.raw v)) : Sound C P U o vs h k z :=
  ⟨r, h, hk, OpTr.same fun ρ σ as_ K hs H hK => by
    obtain ⟨v, h1, h2⟩ := hr ρ as_ hs
    exact hd as_ σ K hs.len ⟨v, h1, hK _ h2⟩⟩
theorem snd_bin {op : BinOp} {ox oy : Operand} {ty' : TypeId} {x y : XV T} (hk : (xbin P op t x y fun v => k v h) = some z) : Sound C P U ⟨d, .binOp op t ox oy ty', ty, pos, af, g⟩ [x, y] h k z := by
  obtain ⟨r, h1, h2⟩ := xbin_sound hk
  refine snd_pure h1 (fun as_ σ K hl hp => ?_) (fun ρ as_ hs => ?_)
  · match as_, hl with
    | [a, b], _ => exact .inl hp
  · obtain ⟨a, b, rfl, h3, h4⟩ := svs2.1 hs
    obtain ⟨v, h5, h6⟩ := h2 C _ ρ a b h3 h4
    refine ⟨v, fun ρ' hρ w _ _ => ?_, h6⟩
    simp [Op.operands] at hρ
    have := h5 w ox oy
    simp only [execOp]
    rw [hρ.1, hρ.2, Sem.run_bind, this]
    simp
theorem snd_un {op : UnOp} {ox : Operand} {x r : XV T} (hk : k r h = some z) (hr : ∀ ρ a, SV C h.length ρ x a → ∃ v, (∀ w : World, (Op.unary op a.val).run P w = .ok v w) ∧ SV C h.length ρ r (.raw v)) : Sound C P U ⟨d, .unOp op t ox, ty, pos, af, g⟩ [x] h k z := by
  refine snd_pure hk (fun as_ σ K hl hp => ?_) (fun ρ as_ hs => ?_)
  · match as_, hl with
    | [a], _ => exact .inl hp
  · obtain ⟨a, rfl, h3⟩ := svs1.1 hs
    obtain ⟨v, h5, h6⟩ := hr ρ a h3
    refine ⟨v, fun ρ' hρ w _ _ => ?_, h6⟩
    simp [Op.operands] at hρ
    simp only [execOp]
    rw [hρ, Sem.run_bind, h5]
    simp
theorem snd_conv {t' : TypeId} {ox : Operand} {x r : XV T} (hk : k r h = some z) (hr : ∀ ρ a, SV C h.length ρ x a → ∃ v, (∀ w : World, (convert t t' a.val).run P w = .ok v w) ∧ SV C h.length ρ r (.raw v)) : Sound C P U ⟨d, .convert t t' ox, ty, pos, af, g⟩ [x] h k z := by
  refine snd_pure hk (fun as_ σ K hl hp => ?_) (fun ρ as_ hs => ?_)
  · match as_, hl with
    | [a], _ => exact .inl hp
  · obtain ⟨a, rfl, h3⟩ := svs1.1 hs
    obtain ⟨v, h5, h6⟩ := hr ρ a h3
    refine ⟨v, fun ρ' hρ w _ _ => ?_, h6⟩
    simp [Op.operands] at hρ
    simp only [execOp]
    rw [hρ, Sem.run_bind, h5]
    simp
/-- Bytes as a text. -/
theorem snd_convB {t' e : TypeId} {ox : Operand} {x : XV T} {bs : List UInt8} (hs : P.underlying t = some (.slice e)) (he : P.underlying e = some (.int .u8)) (hd : P.underlying t' = some .string) (hk : k (.str bs) h = some z)
    (hr : ∀ ρ a, SV C h.length ρ x a → ∃ A n c cs rest, a = .lst A n c (cs ++ rest) ∧ cs = bs.map (fun b => AV.raw (.int .u8 (b.toNat : Int))) ∧ bs.length = n) : Sound C P U ⟨d, .convert t t' ox, ty, pos, af, g⟩ [x] h k z := by
  refine snd_pure hk (fun as_ σ K hl hp => ?_) (fun ρ as_ hs' => ?_)
  · match as_, hl with
    | [a], _ => exact .inl hp
  · obtain ⟨a, rfl, h3⟩ := svs1.1 hs'
    obtain ⟨A, n, c, cs, rest, rfl, hcs, hn⟩ := hr ρ a h3
    refine ⟨.string ⟨bs.toArray⟩, fun ρ' hρ w B hv => ?_, sv_str.2 rfl⟩
    have hva := hv _ (List.mem_singleton.2 rfl)
    simp [Op.operands] at hρ
    have hfold : ∀ (l : List UInt8) (s : ByteArray), (l.map fun b => (b.toNat : Int)).foldl (fun r n => r.push (UInt8.ofNat n.toNat)) s = ⟨s.data ++ l.toArray⟩ := by
      intro l
      induction l with
      | nil => intro s; simp
      | cons b l ih => intro s; rw [List.map_cons, List.foldl_cons, ih]; simp [ByteArray.push]
    have hrun : (Conv.bytesToString (.slice A n c)).run P w = .ok (.string ⟨bs.toArray⟩) w := by
      cases A with
      | none =>
        unfold Valid at hva
        have h0 := (hva.2.1 rfl).1
        have : bs = [] := List.eq_nil_of_length_eq_zero (by omega)
        subst this
        unfold Conv.bytesToString
        simp [Sem.run_pure]
        rfl
      | some ad =>
        unfold Valid at hva
        have hat := hva.2.2 ad rfl
        have hl : (loadCells ad n).run P w = .ok ((bs.map fun b => (b.toNat : Int)).map (Value.int .u8)).toArray w := by
          have := run_loadCells_list (P := P) (w := w) ad ((bs.map fun b => (b.toNat : Int)).map (Value.int .u8)) (fun j v hj => by
            have hcj : cs[j]? = some (AV.raw v) := by
              rw [hcs, List.getElem?_map]
              rw [List.map_map, List.getElem?_map] at hj
              cases hb : bs[j]? with
              | none => rw [hb] at hj; cases hj
              | some b => rw [hb] at hj; injection hj with hj; subst hj; rfl
            have := (hat.get (i := j) (d := AV.raw v) (by rw [List.getElem?_append_left (lt_of_get hcj)]; exact hcj)).1
            rw [Nat.zero_add] at this
            rw [this]; simp)
          rw [← hn]
          simpa using this
        rw [run_bytesToString w ad n c _ hl, hfold]
        congr 2
        simp
    simp only [execOp]
    rw [hρ, Sem.run_bind]
    have : (convert t t' (.slice A n c)).run P w = .ok (.string ⟨bs.toArray⟩) w := by
      simp only [convert, Sem.run_bind, run_underlying hs, run_underlying hd, run_underlying he, Result.andThen_ok]
      exact hrun
    rw [this]
    simp
theorem getI_some {α : Type} {xs : List α} {n : Int} {x : α} (h : getI xs n = some x) : 0 ≤ n ∧ xs[n.toNat]? = some x := by
  unfold getI at h
  split at h
  · exact ⟨‹_›, h⟩
  · cases h
theorem snd_strAt {ox oy : Operand} {s : List UInt8} {ki : IntKind} {n : Int} {b : UInt8} (ht : P.underlying t = some .string) (hb : getI s n = some b) (hk : k (.int .u8 (b.toNat : Int)) h = some z) : Sound C P U ⟨d, .index t ox oy, ty, pos, af, g⟩ [.str s, .int ki n] h k z := by
  obtain ⟨hn, hx⟩ := getI_some hb
  refine snd_pure hk (fun as_ σ K hl hp => ?_) (fun ρ as_ hs => ?_)
  · match as_, hl with
    | [a, b], _ => exact .inl hp
  · obtain ⟨a, c, rfl, h3, h4⟩ := svs2.1 hs
    rw [sv_str.1 h3, sv_int.1 h4]
    refine ⟨.int .u8 (b.toNat : Int), fun ρ' hρ w _ _ => ?_, sv_int.2 rfl⟩
    simp [Op.operands] at hρ
    have hb' : (ByteArray.mk s.toArray)[n.toNat]? = some b := by
      have hlt := lt_of_get hx
      rw [List.getElem?_eq_getElem hlt] at hx
      injection hx with hx
      rw [getElem?_pos (ByteArray.mk s.toArray) n.toNat (by show n.toNat < s.toArray.size; simpa using hlt)]
      exact congrArg some hx
    simp only [execOp, hρ.1, hρ.2, Instr.index, asIntOf, Sem.run_bind, run_underlying ht, if_pos hn, hb', Sem.run_pure, Result.andThen_ok]
theorem snd_pick {oc oa ob : Operand} {c : Bool} {a b r : XV T} (hk : k r h = some z) (hr : r = if c then a else b) : Sound C P U ⟨d, .pick oc oa ob, ty, pos, af, g⟩ [.bool c, a, b] h k z := by
  refine ⟨_, _, hk, OpTr.same fun ρ σ as_ K hs H hK => ?_⟩
  obtain ⟨x, y, w, rfl, h1, h2, h3⟩ := svs3.1 hs
  rw [sv_bool.1 h1]
  refine ⟨c, by simp, hK _ ?_⟩
  subst hr
  cases c
  · exact h3
  · exact h2
theorem snd_fieldAddr_a {x : Operand} {f off n : Nat} {l : List (Nat × Option Nat × Option Bool)} {b : Option Bool} {E i j o : Nat} (hl : structA P t = some l) (hf : l[f]? = some (off, some (n + 1), b)) (hk : k (.ap E i j (o + off)) h = some z) : Sound C P U ⟨d, .fieldAddr t x f, ty, pos, af, g⟩ [.ap E i j o] h k z := by
  refine ⟨_, _, hk, fun ρ σ as_ hs H => ?_⟩
  obtain ⟨a, rfl, h3⟩ := svs1.1 hs
  obtain ⟨c, rfl, h4, h5⟩ := sv_ap.1 h3
  exact ⟨l, off, n, b, hl, hf, ρ, by rw [add_off_]; exact sv_ap.2 ⟨c, by rw [Nat.add_assoc]; rfl, h4, h5⟩, H, .refl _ _ _ _⟩
theorem snd_asIndex {x y : Operand} {E i lo m sz : Nat} {co : Option Nat} {e : TypeId} {ki : IntKind} {n : Int} (he : sliceA P t = some e) (hsz : sizeA P e = some sz) (h1 : Nat.beq sz (C.sz E) = true) (hn : 0 ≤ n ∧ n < (m : Int)) (hk : k (.ap E i (lo + n.toNat) 0) h = some z) : Sound C P U ⟨d, .indexAddr t x y, ty, pos, af, g⟩ [.as E i lo m co, .int ki n] h k z := by
  have e1 := Nat.eq_of_beq_eq_true h1
  refine ⟨_, h, hk, OpTr.same fun ρ σ as_ K hs H hK => ?_⟩
  obtain ⟨a, b, rfl, h3, h4⟩ := svs2.1 hs
  rcases sv_as.1 h3 with ⟨ad, c, rfl, hA⟩ | ⟨_, hm0, _⟩
  rotate_left
  · omega
  rw [sv_int.1 h4]
  obtain ⟨bb, q1, q2⟩ := hA.at_
  have hle := hA.le
  have had := q2 (by omega)
  subst had
  refine .inl ⟨.pointer (some ⟨bb, (lo + n.toNat) * sz, none⟩), fun ρ' hρ w _ _ => ?_, hK _ (sv_ap.2 ⟨bb, by rw [Nat.add_zero, e1]; rfl, hA.lt, _, q1, by omega⟩)⟩
  simp [Op.operands] at hρ
  have hj : n = ((n.toNat : Nat) : Int) := by omega
  have hr := run_indexAt (P := P) (w := w) (ad := ⟨bb, lo * C.sz E, none⟩) (n := m) (c := c) (k := ki) (j := n.toNat) he hsz (by omega)
  rw [← hj] at hr
  simp only [execOp, hρ.1, hρ.2, Sem.run_bind, hr, Result.andThen_ok, Sem.run_pure]
  rw [e1, add_off_, Nat.add_mul]
theorem xplace_sound {n : Int} {i o sz : Nat} {h : List (HI T)} {k : XV T → List (HI T) → Option A} : ∀ {r j : Nat}, xplace n i o sz h k r j = some z → ∃ j', j ≤ j' ∧ j' < j + r ∧ n = (j' : Int) ∧ k (.ptr i (o + j' * sz)) h = some z
  | 0, _, hk => by cases hk
  | r + 1, j, hk => by
    unfold xplace at hk
    split at hk
    · rename_i hn
      exact ⟨j, Nat.le_refl _, by omega, hn, hk⟩
    · obtain ⟨j', h1, h2, h3, h4⟩ := xplace_sound hk
      exact ⟨j', by omega, by omega, h3, h4⟩
theorem snd_arrIndex {x y : Operand} {i o len sz : Nat} {e : TypeId} {ki : IntKind} {n : Int} (he : arrayA P t = some (len, e)) (hsz : sizeA P e = some sz) (hk : xplace n i o sz h k len 0 = some z) : Sound C P U ⟨d, .indexAddr t x y, ty, pos, af, g⟩ [.ptr i o, .int ki n] h k z := by
  obtain ⟨j, _, hj, hnj, hk2⟩ := xplace_sound hk
  clear hk
  subst hnj
  refine ⟨_, h, hk2, OpTr.same fun ρ σ as_ K hs H hK => ?_⟩
  obtain ⟨a, b, rfl, h3, h4⟩ := svs2.1 hs
  obtain ⟨c, rfl, h5, h6⟩ := sv_ptr.1 h3
  rw [sv_int.1 h4]
  refine .inl ⟨.pointer (some ⟨c, o + j * sz, none⟩), fun ρ' hρ w _ _ => ?_, hK _ (sv_ptr.2 ⟨c, rfl, h5, h6⟩)⟩
  simp [Op.operands, ptr] at hρ
  have hu : P.underlying t = some (.array len e) := by
    unfold arrayA at he
    split at he
    · rename_i n' e' hq
      injection he with he
      injection he with h1 h2
      subst h1 h2
      exact hq
    · cases he
  have hr : (Instr.indexAt t (.pointer (some ⟨c, o, none⟩)) (.int ki (j : Int))).run P w = .ok (.pointer (some ⟨c, o + j * sz, none⟩)) w := by
    have hjl : j < len := by omega
    have ha := add_off_ c o (j * sz)
    simp [Instr.indexAt, asIntOf, run_underlying hu, run_sizeOf' hsz, Instr.sureAddr, hjl, ha]
  simp only [execOp, hρ.1, hρ.2, Sem.run_bind, hr, Result.andThen_ok, Sem.run_pure]
theorem snd_asSlice3 {x hi mx : Operand} {lo : Option Operand} {E i a0 n0 : Nat} {co : Option Nat} {ix : List (XV T)} (hk : (xslA3 C P t lo.isSome E n0 co ix fun v => k v h) = some z) : Sound C P U ⟨d, .slice t x lo (some hi) (some mx), ty, pos, af, g⟩ (.as E i a0 n0 co :: ix) h k z := by
  unfold xslA3 at hk
  split at hk
  rotate_left
  · cases hk
  rename_i e he
  split at hk
  rotate_left
  · cases hk
  rename_i sz hsz
  split at hk
  rotate_left
  · cases hk
  rename_i h1
  split at hk
  rotate_left
  · cases hk
  rename_i l u m hends
  split at hk
  rotate_left
  · cases hk
  rename_i hb
  obtain ⟨b1, b2, b3, b4⟩ := hb
  refine ⟨_, h, hk, OpTr.same fun ρ σ as_ K hs H hK => ?_⟩
  obtain ⟨a, bs, rfl, h3, h4⟩ := hs.to
  have hse : ∀ n c, sliceEnds n c lo.isSome (some hi).isSome (some mx).isSome bs l.toNat u.toNat m.toNat := fun n c => by
    generalize lo.isSome = bl at hends ⊢
    unfold xends3 at hends
    split at hends
    · injection hends with hends; injection hends with f1 f2; injection f2 with f2 f3; subst f1 f2 f3
      obtain ⟨b, b', rfl, h5, h6⟩ := svs2.1 h4
      rw [sv_int.1 h5, sv_int.1 h6]
      exact ⟨rfl, ⟨_, (AV.val_raw _).trans (congrArg (Value.int _) (Int.toNat_of_nonneg (by omega)).symm)⟩, ⟨_, (AV.val_raw _).trans (congrArg (Value.int _) (Int.toNat_of_nonneg (by omega)).symm)⟩⟩
    · injection hends with hends; injection hends with f1 f2; injection f2 with f2 f3; subst f1 f2 f3
      obtain ⟨b, bs', rfl, h5, h6⟩ := h4.to
      obtain ⟨b', b'', rfl, h7, h8⟩ := svs2.1 h6
      rw [sv_int.1 h5, sv_int.1 h7, sv_int.1 h8]
      exact ⟨⟨_, (AV.val_raw _).trans (congrArg (Value.int _) (Int.toNat_of_nonneg (by omega)).symm)⟩, ⟨_, (AV.val_raw _).trans (congrArg (Value.int _) (Int.toNat_of_nonneg (by omega)).symm)⟩, ⟨_, (AV.val_raw _).trans (congrArg (Value.int _) (Int.toNat_of_nonneg (by omega)).symm)⟩⟩
    · cases hends
  rcases sv_as.1 h3 with ⟨ad, c, rfl, hA⟩ | ⟨rfl, hn0, hiN, hρi, hco⟩
  · have hcu : m.toNat ≤ c := by
      have := hA.le
      cases co with
      | none => rw [Option.getD_none] at b4; omega
      | some c' => have := hA.cap c' rfl; rw [Option.getD_some] at b4; omega
    refine ⟨.slice (if m.toNat = l.toNat then (some ad : Option Addr) else (some ad).map (·.add (l.toNat * sz))) (u.toNat - l.toNat) (m.toNat - l.toNat), fun ρ' hρ w _ _ => ?_, hK _ sv_junk⟩
    have hρ' : ρ' x = .slice (some ad) n0 c ∧ (lo.toArray ++ (some hi).toArray ++ (some mx).toArray).toList.map ρ' = bs.map AV.val := by
      simp [Op.operands] at hρ ⊢
      exact hρ
    have hr := run_sliceAt (P := P) (w := w) (A := some ad) he hsz hρ'.2 (hse n0 c) (by omega) (by omega) hcu
    simp only [execOp, hρ'.1, Sem.run_bind, hr, Result.andThen_ok, Sem.run_pure]
  · have hm0 : m.toNat = 0 := by
      cases co with
      | none => rw [Option.getD_none] at b4; omega
      | some c' => have := hco c' rfl; rw [Option.getD_some] at b4; omega
    exact ⟨e, sz, he, hsz, l.toNat, u.toNat, m.toNat, hse _ _, by omega, by omega, by omega, hK _ sv_junk⟩
theorem snd_asSlice {x : Operand} {lo hi : Option Operand} {E i a0 n0 : Nat} {co : Option Nat} {ix : List (XV T)} (hk : (xslA C P t lo.isSome hi.isSome (.as E i a0 n0 co) ix fun v => k v h) = some z) : Sound C P U ⟨d, .slice t x lo hi none, ty, pos, af, g⟩ (.as E i a0 n0 co :: ix) h k z := by
  unfold xslA at hk
  dsimp only at hk
  · split at hk
    · rename_i e he
      split at hk
      · rename_i sz hsz
        split at hk
        · rename_i h1
          have e1 := Nat.eq_of_beq_eq_true h1
          split at hk
          · rename_i l u hends
            split at hk
            · rename_i hb
              obtain ⟨b1, b2, b3, b4⟩ := hb
              refine ⟨_, h, hk, OpTr.same fun ρ σ as_ K hs H hK => ?_⟩
              obtain ⟨a, bs, rfl, h3, h4⟩ := hs.to
              rcases sv_as.1 h3 with ⟨ad, c, rfl, hA⟩ | ⟨rfl, hn0, hiN, hρi, hco⟩
              rotate_left
              · have hlu : l.toNat = 0 ∧ u.toNat = 0 := by
                  cases co with
                  | none => rw [Option.getD_none] at b3; omega
                  | some c' => have := hco c' rfl; rw [Option.getD_some] at b3; omega
                subst hn0
                refine ⟨e, sz, he, hsz, 0, 0, 0, ?_, Nat.le_refl _, Nat.le_refl _, Nat.le_refl _, ?_⟩
                · have hse : sliceEnds 0 0 lo.isSome hi.isSome (none : Option Operand).isSome bs l.toNat u.toNat 0 := by
                    generalize lo.isSome = bl at hends ⊢
                    generalize hi.isSome = bh at hends ⊢
                    unfold xends at hends
                    split at hends
                    · injection hends with hends; injection hends with f1 f2; subst f1 f2
                      rw [SVs_nil] at h4; subst h4
                      exact ⟨rfl, by simp, rfl⟩
                    · injection hends with hends; injection hends with f1 f2; subst f1 f2
                      obtain ⟨b, rfl, h5⟩ := svs1.1 h4
                      rw [sv_int.1 h5]
                      exact ⟨⟨_, (AV.val_raw _).trans (congrArg (Value.int _) (Int.toNat_of_nonneg (by omega)).symm)⟩, by simp, rfl⟩
                    · injection hends with hends; injection hends with f1 f2; subst f1 f2
                      obtain ⟨b, rfl, h5⟩ := svs1.1 h4
                      rw [sv_int.1 h5]
                      exact ⟨rfl, ⟨_, (AV.val_raw _).trans (congrArg (Value.int _) (Int.toNat_of_nonneg (by omega)).symm)⟩, rfl⟩
                    · injection hends with hends; injection hends with f1 f2; subst f1 f2
                      obtain ⟨b, b', rfl, h5, h6⟩ := svs2.1 h4
                      rw [sv_int.1 h5, sv_int.1 h6]
                      exact ⟨⟨_, (AV.val_raw _).trans (congrArg (Value.int _) (Int.toNat_of_nonneg (by omega)).symm)⟩, ⟨_, (AV.val_raw _).trans (congrArg (Value.int _) (Int.toNat_of_nonneg (by omega)).symm)⟩, rfl⟩
                    · cases hends
                  rw [hlu.1, hlu.2] at hse
                  exact hse
                · refine hK _ (sv_as.2 (.inr ⟨by simp, by omega, hiN, hρi, fun c' hc' => ?_⟩))
                  cases co with
                  | none => cases hc'
                  | some c0 => injection hc' with hc'; have := hco c0 rfl; dsimp only at hc'; omega
              have hle := hA.le
              have hcu : u.toNat ≤ c := by
                cases co with
                | none => rw [Option.getD_none] at b3; omega
                | some c' => have := hA.cap c' rfl; rw [Option.getD_some] at b3; omega
              have hse : sliceEnds n0 c lo.isSome hi.isSome (none : Option Operand).isSome bs l.toNat u.toNat c := by
                generalize lo.isSome = bl at hends ⊢
                generalize hi.isSome = bh at hends ⊢
                unfold xends at hends
                split at hends
                · injection hends with hends; injection hends with f1 f2; subst f1 f2
                  rw [SVs_nil] at h4; subst h4
                  exact ⟨rfl, by simp, rfl⟩
                · injection hends with hends; injection hends with f1 f2; subst f1 f2
                  obtain ⟨b, rfl, h5⟩ := svs1.1 h4
                  rw [sv_int.1 h5]
                  exact ⟨⟨_, (AV.val_raw _).trans (congrArg (Value.int _) (Int.toNat_of_nonneg (by omega)).symm)⟩, by simp, rfl⟩
                · injection hends with hends; injection hends with f1 f2; subst f1 f2
                  obtain ⟨b, rfl, h5⟩ := svs1.1 h4
                  rw [sv_int.1 h5]
                  exact ⟨rfl, ⟨_, (AV.val_raw _).trans (congrArg (Value.int _) (Int.toNat_of_nonneg (by omega)).symm)⟩, rfl⟩
                · injection hends with hends; injection hends with f1 f2; subst f1 f2
                  obtain ⟨b, b', rfl, h5, h6⟩ := svs2.1 h4
                  rw [sv_int.1 h5, sv_int.1 h6]
                  exact ⟨⟨_, (AV.val_raw _).trans (congrArg (Value.int _) (Int.toNat_of_nonneg (by omega)).symm)⟩, ⟨_, (AV.val_raw _).trans (congrArg (Value.int _) (Int.toNat_of_nonneg (by omega)).symm)⟩, rfl⟩
                · cases hends
              have hval : ∀ A' : Option Addr, (if c = l.toNat then (some ad : Option Addr) else (some ad).map (·.add (l.toNat * sz))) = some (if c = l.toNat then ad else ad.add (l.toNat * sz)) := fun _ => by split <;> rfl
              have hsv : SV C h.length ρ (.as E i (a0 + l.toNat) (u.toNat - l.toNat) (co.map (· - l.toNat))) (.raw (.slice (some (if c = l.toNat then ad else ad.add (l.toNat * sz))) (u.toNat - l.toNat) (c - l.toNat))) := by
                refine sv_as.2 (.inl ⟨_, _, rfl, hA.lt, by omega, ?_, by omega, ?_, fun c' hc' => ?_⟩)
                · have := hA.max; omega
                · obtain ⟨bb, q1, q2⟩ := hA.at_
                  refine ⟨bb, by rw [q1]; congr 1; omega, fun hc => ?_⟩
                  rw [if_neg (by omega), q2 (by omega), add_off_, e1, Nat.add_mul]
                · cases co with
                  | none => cases hc'
                  | some c0 =>
                    injection hc' with hc'
                    have := hA.cap c0 rfl
                    dsimp only at hc'
                    omega
              refine ⟨_, fun ρ' hρ w _ _ => ?_, hK _ hsv⟩
              have hρ' : ρ' x = .slice (some ad) n0 c ∧ (lo.toArray ++ hi.toArray ++ (none : Option Operand).toArray).toList.map ρ' = bs.map AV.val := by
                simp [Op.operands] at hρ ⊢
                exact hρ
              have hr := run_sliceAt (P := P) (w := w) (A := some ad) he hsz hρ'.2 hse (by omega) hcu (Nat.le_refl _)
              rw [hval none] at hr
              simp only [execOp, hρ'.1, Sem.run_bind, hr, Result.andThen_ok, Sem.run_pure]
            · cases hk
          · cases hk
        · cases hk
      · cases hk
    · cases hk
theorem snd_apLoad {E i j o : Nat} {kp : Bool} {ox : Operand} {e : TypeId} {xs : List (T E)} {x : T E} (hi : h[i]? = some (.arr e E kp xs)) (ho : o ≤ C.sz E) (hj : xs[j]? = some x) (hk : (xcellsAt (aggA P t) (sizeA P t) ((C.enc E x).drop o) 0 fun v => k v h) = some z) : Sound C P U ⟨d, .load t ox, ty, pos, af, g⟩ [.ap E i j o] h k z := by
  obtain ⟨r, h1, h2⟩ := xcellsAt_sound hk
  refine ⟨_, _, h1, fun ρ σ as_ hs H => ?_⟩
  obtain ⟨a, rfl, h3⟩ := svs1.1 hs
  obtain ⟨b, rfl, hiN, K, hρ, hjK⟩ := sv_ap.1 h3
  obtain ⟨pre, rest, hb2, hb3, hb4, hb5, hb6⟩ := H.arrAt hi hρ
  obtain ⟨p, q, r', e1, e2, e3⟩ := arr_at (rest := rest) (hb4 h.length ρ) hj
  have hql := e3.len
  rw [C.len] at hql
  obtain ⟨a, h4, h5⟩ := h2 h.length ρ (q.drop o) r' (e3.drop o)
  refine ⟨a, ?_, ρ, h5, H, .refl _ _ _ _⟩
  unfold aLoad ptr
  dsimp only
  rw [hb2, e1]
  dsimp only
  refine cellsAt_drop (by simp only [List.length_append]; omega) ?_
  rw [← e2, ← List.drop_drop, List.drop_left, List.drop_append_of_le_length (by omega)]
  exact h4
theorem snd_apStore {E i j o n : Nat} (hU : U i) {ox oy : Operand} {e : TypeId} {kp : Bool} {xs : List (T E)} {y y' : T E} {v : XV T} (hi : h[i]? = some (.arr e E kp xs)) (hn : sizeA P t = some n) (hc : v.isVal = true ∧ Nat.beq v.cells.length n = true ∧ o + n ≤ C.sz E) (hj : xs[j]? = some y) (hy : C.dec E (xsplice (C.enc E y) o v.cells) = some y')
    (hk : k .junk (h.set i (.arr e E kp (xs.set j y'))) = some z) : Sound C P U ⟨d, .store t ox oy, ty, pos, af, g⟩ [.ap E i j o, v] h k z := by
  obtain ⟨c1, c2, c3⟩ := hc
  have c2 := Nat.eq_of_beq_eq_true c2
  refine ⟨_, _, hk, fun ρ σ as_ hs H => ?_⟩
  obtain ⟨a, u, rfl, h3, h4⟩ := svs2.1 hs
  obtain ⟨b, rfl, hiN, K, hρ, hjK⟩ := sv_ap.1 h3
  obtain ⟨pre, rest, hb2, hb3, hb4, hb5, hb6⟩ := H.arrAt hi hρ
  have hlt := lt_of_get hj
  have hx : xs[j] = y := by rw [List.getElem?_eq_getElem hlt] at hj; injection hj
  have hcv := cells_sv h4 c1
  have e1 := hcv.len
  have hpre := (hb4 h.length ρ).len
  rw [enc_len] at hpre
  have hm : (j + 1) * C.sz E ≤ xs.length * C.sz E := Nat.mul_le_mul_right _ hlt
  rw [Nat.succ_mul] at hm
  have hones : u.cells.all AV.one = true := List.all_eq_true.2 (hcv.ones (cells_one c1))
  -- the new cells
  have hnew : SVs C h.length ρ ((xs.set j y').flatMap (C.enc E)) (splice pre (j * C.sz E + o) u.cells) := by
    have hb := hb4 h.length ρ
    have p1 := hb.take (j * C.sz E)
    have p2 := (hb.drop (j * C.sz E)).take (C.sz E)
    have p3 := hb.drop ((j + 1) * C.sz E)
    rw [enc_take] at p1
    rw [enc_drop] at p3
    rw [enc_drop, List.drop_eq_getElem_cons hlt, List.flatMap_cons, List.take_append_of_le_length (by rw [C.len]; omega), List.take_of_length_le (by rw [C.len]; omega), hx] at p2
    have p4 := Wks.sv (C.back E _ _ hy) (splice_sv o p2 hcv)
    have := p1.app (p4.app p3)
    rw [List.set_eq_take_append_cons_drop, if_pos hlt, List.flatMap_append, List.flatMap_cons]
    have he : splice pre (j * C.sz E + o) u.cells = pre.take (j * C.sz E) ++ (splice ((pre.drop (j * C.sz E)).take (C.sz E)) o u.cells ++ pre.drop ((j + 1) * C.sz E)) := by
      unfold splice
      rw [List.take_take, Nat.min_eq_left (by omega), List.take_add, List.append_assoc, List.append_assoc, List.append_assoc, List.append_assoc]
      congr 3
      rw [List.drop_take, List.drop_drop]
      rw [Nat.succ_mul]
      have hl : u.cells.length = n := by rw [e1, c2]
      rw [hl]
      conv => lhs; rw [← List.take_append_drop (C.sz E - (o + n)) (pre.drop (j * C.sz E + o + n))]
      congr 1
      · rw [Nat.add_assoc]
      · rw [List.drop_drop]
        congr 1
        omega
    rw [he]
    exact this
  have hsp : splice (pre ++ rest) (j * C.sz E + o) u.cells = splice pre (j * C.sz E + o) u.cells ++ rest := by
    unfold splice
    have hl : u.cells.length = n := by rw [e1, c2]
    rw [List.take_append_of_le_length (by omega), List.drop_append_of_le_length (by omega), List.append_assoc, List.append_assoc, List.append_assoc]
  obtain ⟨g1, g2⟩ := H.writeArr (rest' := rest) hU hi hρ (fun N' ρ' => hnew.shut (enc_shut _)) (by
    rw [← hsp]
    have hl : u.cells.length = n := by rw [e1, c2]
    unfold splice
    simp only [List.length_append, List.length_take, List.length_drop] at hb5 ⊢
    omega) hb6.2
  refine ⟨_, ?_, ρ, sv_junk, g1, g2⟩
  unfold aStore ptr aStoreAt
  dsimp only
  rw [hb2, hn]
  dsimp only
  rw [isVal_notTup h4 c1, hones, hsp]
  rw [if_pos (by simp only [Bool.true_and, Bool.and_true, Bool.and_eq_true, decide_eq_true_eq, beq_iff_eq, List.length_append]; omega)]
/-- A whole element is written, at a known place or just behind the last one. -/
theorem snd_apStoreX {E i j n : Nat} (hU : U i) {ox oy : Operand} {e : TypeId} {kp : Bool} {xs : List (T E)} {y' : T E} {v : XV T} (hi : h[i]? = some (.arr e E kp xs)) (hn : sizeA P t = some n) (hc : v.isVal = true ∧ Nat.beq v.cells.length n = true ∧ Nat.beq n (C.sz E) = true) (hj : j ≤ xs.length) (hy : C.dec E v.cells = some y')
    (hk : k .junk (h.set i (.arr e E kp (xs.take j ++ y' :: xs.drop (j + 1)))) = some z) : Sound C P U ⟨d, .store t ox oy, ty, pos, af, g⟩ [.ap E i j 0, v] h k z := by
  obtain ⟨c1, c2, c3⟩ := hc
  have c2 := Nat.eq_of_beq_eq_true c2
  have c3 := Nat.eq_of_beq_eq_true c3
  refine ⟨_, _, hk, fun ρ σ as_ hs H => ?_⟩
  obtain ⟨a, u, rfl, h3, h4⟩ := svs2.1 hs
  obtain ⟨b, rfl, hiN, K, hρ, hjK⟩ := sv_ap.1 h3
  obtain ⟨pre, rest, hb2, hb3, hb4, hb5, hb6⟩ := H.arrAt hi hρ
  have hcv := cells_sv h4 c1
  have e1 := hcv.len
  have hl : u.cells.length = C.sz E := by rw [e1, c2, c3]
  have hpre := (hb4 h.length ρ).len
  rw [enc_len] at hpre
  have hm : j * C.sz E ≤ xs.length * C.sz E := Nat.mul_le_mul_right _ hj
  have hm2 : (j + 1) * C.sz E ≤ K * C.sz E := Nat.mul_le_mul_right _ hjK
  have hones : u.cells.all AV.one = true := List.all_eq_true.2 (hcv.ones (cells_one c1))
  have hnew : SVs C h.length ρ ((xs.take j ++ y' :: xs.drop (j + 1)).flatMap (C.enc E)) (pre.take (j * C.sz E) ++ u.cells ++ pre.drop (j * C.sz E + u.cells.length)) := by
    have hb := hb4 h.length ρ
    have p1 := hb.take (j * C.sz E)
    have p3 := hb.drop ((j + 1) * C.sz E)
    rw [enc_take] at p1
    rw [enc_drop] at p3
    have p4 := Wks.sv (C.back E _ _ hy) hcv
    have := (p1.app p4).app p3
    rw [List.flatMap_append, List.flatMap_cons, ← List.append_assoc]
    rw [hl, show j * C.sz E + C.sz E = (j + 1) * C.sz E from (Nat.succ_mul _ _).symm]
    exact this
  have hsp := splice_arr pre rest u.cells (off := j * C.sz E) (by omega)
  obtain ⟨g1, g2⟩ := H.writeArr (rest' := rest.drop (j * C.sz E + u.cells.length - pre.length)) hU hi hρ (fun N' ρ' => hnew.shut (enc_shut _)) (by
    rw [← hsp]
    rw [Nat.succ_mul] at hm2
    unfold splice
    simp only [List.length_append, List.length_take, List.length_drop] at hb5 ⊢
    omega) (fun hf => by
    obtain ⟨zs, hzs⟩ := hb6.2 hf
    refine ⟨zs.drop (j + 1 - xs.length), fun N ρ => ?_⟩
    have p := (hzs N ρ).drop ((j + 1 - xs.length) * C.sz E)
    rw [enc_drop] at p
    have he : j * C.sz E + u.cells.length - pre.length = (j + 1 - xs.length) * C.sz E := by rw [hl, hpre, Nat.sub_mul, Nat.succ_mul]
    rw [he]
    exact p)
  refine ⟨_, ?_, ρ, sv_junk, g1, g2⟩
  unfold aStore ptr aStoreAt
  dsimp only
  rw [Nat.add_zero, hb2, hn]
  dsimp only
  rw [isVal_notTup h4 c1, hones, hsp]
  rw [Nat.succ_mul] at hm2
  rw [if_pos (by simp only [Bool.true_and, Bool.and_true, Bool.and_eq_true, decide_eq_true_eq, beq_iff_eq, List.length_append] at hb5 ⊢; omega)]
theorem ptr0s_sv : ∀ {vs : List (XV T)} {ps : List Nat} {as_ : List AV}, ptr0s vs = some ps → SVs C N ρ vs as_ → ∃ bs : List Nat, as_.map AV.val = bs.map (fun b => Value.pointer (some ⟨b, 0, none⟩)) ∧ PtrsAt N ρ ps bs
  | [], ps, as_, hp, hs => by
    injection hp with hp
    subst hp
    rw [SVs_nil.1 hs]
    exact ⟨[], rfl, trivial⟩
  | v :: vs, ps, as_, hp, hs => by
    obtain ⟨a, bs, rfl, h1, h2⟩ := hs.to
    unfold ptr0s at hp
    split at hp
    · rename_i heq; cases heq
    · rename_i i l heq
      injection heq with q1 q2
      subst q1 q2
      cases hr : ptr0s vs with
      | none => rw [hr] at hp; cases hp
      | some ps' =>
        rw [hr] at hp
        injection hp with hp
        subst hp
        obtain ⟨cs, g1, g2⟩ := ptr0s_sv hr h2
        obtain ⟨b, rfl, h3, h4⟩ := sv_ptr.1 h1
        exact ⟨b :: cs, by simp [g1, ptr], ⟨h3, h4⟩, g2⟩
    · cases hp
theorem snd_makeFunc {f : FuncId} {first caps : Array Operand} {ps : List Nat} (hf : Nat.beq first.size 0 = true) (hp : ptr0s vs = some ps) (hk : k (match ps with | [] => .fn f | i :: l => .clo f (i :: l)) h = some z) : Sound C P U ⟨d, .makeFunc (.func f) first caps, ty, pos, af, g⟩ vs h k z := by
  refine ⟨_, h, hk, OpTr.same fun ρ σ as_ K hs H hK => ?_⟩
  obtain ⟨bs, g1, g2⟩ := ptr0s_sv hp hs
  have hf0 : first = #[] := Array.eq_empty_of_size_eq_zero (Nat.eq_of_beq_eq_true hf)
  subst hf0
  refine .inl ⟨cloV f bs, fun ρ' hρ w _ _ => ?_, hK _ ?_⟩
  · have hc : caps.map ρ' = (bs.map fun b => Value.pointer (some ⟨b, 0, none⟩)).toArray := by
      apply Array.ext'
      simp only [Op.operands] at hρ
      rw [g1] at hρ
      simpa using hρ
    simp [execOp, Instr.makeFunc, cloV, hc]
  · cases ps with
    | nil =>
      cases bs with
      | nil => exact sv_fn.2 rfl
      | cons b bs => exact g2.elim
    | cons i l => exact sv_clo.2 ⟨bs, rfl, g2⟩
theorem PtrsAt.svs : ∀ {ps bs : List Nat}, PtrsAt N ρ ps bs → SVs C N ρ (ps.map fun i => .ptr i 0) (bs.map fun b => ptr b 0)
  | [], [], _ => .none
  | i :: ps, b :: bs, h => .cons (sv_ptr.2 ⟨b, rfl, h.1.1, h.1.2⟩) (PtrsAt.svs h.2)
  | [], _ :: _, h => h.elim
  | _ :: _, [], h => h.elim
theorem arr1 {α β : Type} {as_ : Array α} {f : α → β} {y : β} (h : as_.toList.map f = [y]) : ∃ x, as_ = #[x] ∧ f x = y := by
  obtain ⟨l⟩ := as_
  match l, h with
  | [x], h => exact ⟨x, rfl, by simpa using h⟩
theorem arr2 {α β : Type} {as_ : Array α} {f : α → β} {y z : β} (h : as_.toList.map f = [y, z]) : ∃ x u, as_ = #[x, u] ∧ f x = y ∧ f u = z := by
  obtain ⟨l⟩ := as_
  match l, h with
  | [x, u], h => simp at h; exact ⟨x, u, rfl, h.1, h.2⟩
theorem pr_len {as_ : Array Operand} {ts : Array TypeId} {e : TypeId} {B : Option Addr} {n c : Nat} {cells : List AV} (hts : ts[0]? = some t) (ht : sliceA P t = some e) : PureRun P ⟨d, .call ⟨.builtin .len, as_, ts⟩, ty, pos, af, g⟩ [.lst B n c cells] (.int .i64 n) := fun ρ hρ w _ _ => by
  obtain ⟨x, rfl, hx⟩ := arr1 (as_ := as_) (f := ρ) (y := .slice B n c) (by simpa [Op.operands, Call.operands] using hρ)
  simp [execOp, resolve, invoke, builtin, Builtin.len_, hx, hts, run_underlying (run_slice' ht), goInt]
theorem pr_lenA {as_ : Array Operand} {ts : Array TypeId} {e : TypeId} {B : Option Addr} {n c : Nat} (hts : ts[0]? = some t) (ht : sliceA P t = some e) : PureRun P ⟨d, .call ⟨.builtin .len, as_, ts⟩, ty, pos, af, g⟩ [.raw (.slice B n c)] (.int .i64 n) := fun ρ hρ w _ _ => by
  obtain ⟨x, rfl, hx⟩ := arr1 (as_ := as_) (f := ρ) (y := .slice B n c) (by simpa [Op.operands, Call.operands] using hρ)
  simp [execOp, resolve, invoke, builtin, Builtin.len_, hx, hts, run_underlying (run_slice' ht), goInt]
theorem pr_lenS {as_ : Array Operand} {ts : Array TypeId} {s : List UInt8} (hts : ts[0]? = some t) (ht : P.underlying t = some .string) : PureRun P ⟨d, .call ⟨.builtin .len, as_, ts⟩, ty, pos, af, g⟩ [.raw (.string ⟨s.toArray⟩)] (.int .i64 s.length) := fun ρ hρ w _ _ => by
  obtain ⟨x, rfl, hx⟩ := arr1 (as_ := as_) (f := ρ) (y := .string ⟨s.toArray⟩) (by simpa [Op.operands, Call.operands] using hρ)
  have hl : (ByteArray.mk s.toArray).size = s.length := by show s.toArray.size = _; simp
  simp [execOp, resolve, invoke, builtin, Builtin.len_, hx, hts, run_underlying ht, goInt, hl]
theorem pr_min {as_ : Array Operand} {ts : Array TypeId} {ka kb : IntKind} {a b : Int} : PureRun P ⟨d, .call ⟨.builtin .min, as_, ts⟩, ty, pos, af, g⟩ [.raw (.int ka a), .raw (.int kb b)] (.int ka (if b < a then b else a)) := fun ρ hρ w _ _ => by
  obtain ⟨x, y, rfl, hx, hy⟩ := arr2 (as_ := as_) (f := ρ) (y := .int ka a) (z := .int kb b) (by simpa [Op.operands, Call.operands] using hρ)
  simp [execOp, resolve, invoke, builtin, Builtin.min_, hx, hy, Builtin.min2]
theorem pr_max {as_ : Array Operand} {ts : Array TypeId} {ka kb : IntKind} {a b : Int} : PureRun P ⟨d, .call ⟨.builtin .max, as_, ts⟩, ty, pos, af, g⟩ [.raw (.int ka a), .raw (.int kb b)] (.int ka (if a < b then b else a)) := fun ρ hρ w _ _ => by
  obtain ⟨x, y, rfl, hx, hy⟩ := arr2 (as_ := as_) (f := ρ) (y := .int ka a) (z := .int kb b) (by simpa [Op.operands, Call.operands] using hρ)
  simp [execOp, resolve, invoke, builtin, Builtin.max_, hx, hy, Builtin.max2]
theorem pr_minS {as_ : Array Operand} {ts : Array TypeId} {a b : List UInt8} : PureRun P ⟨d, .call ⟨.builtin .min, as_, ts⟩, ty, pos, af, g⟩ [.raw (.string ⟨a.toArray⟩), .raw (.string ⟨b.toArray⟩)] (.string ⟨(bif (decide (a < b) || decide (a = b)) then a else b).toArray⟩) := fun ρ hρ w _ _ => by
  obtain ⟨x, y, rfl, hx, hy⟩ := arr2 (as_ := as_) (f := ρ) (y := .string ⟨a.toArray⟩) (z := .string ⟨b.toArray⟩) (by simpa [Op.operands, Call.operands] using hρ)
  by_cases h1 : a < b <;> by_cases h2 : a = b <;> simp [execOp, resolve, invoke, builtin, Builtin.min_, hx, hy, Builtin.min2, Op.stringOp, toList_mk, bytesLess_dec, asBool, h1, h2]
theorem pr_maxS {as_ : Array Operand} {ts : Array TypeId} {a b : List UInt8} : PureRun P ⟨d, .call ⟨.builtin .max, as_, ts⟩, ty, pos, af, g⟩ [.raw (.string ⟨a.toArray⟩), .raw (.string ⟨b.toArray⟩)] (.string ⟨(bif !decide (a < b) then a else b).toArray⟩) := fun ρ hρ w _ _ => by
  obtain ⟨x, y, rfl, hx, hy⟩ := arr2 (as_ := as_) (f := ρ) (y := .string ⟨a.toArray⟩) (z := .string ⟨b.toArray⟩) (by simpa [Op.operands, Call.operands] using hρ)
  by_cases h1 : a < b <;> simp [execOp, resolve, invoke, builtin, Builtin.max_, hx, hy, Builtin.max2, Op.stringOp, toList_mk, bytesLess_dec, asBool, h1]
theorem snd_call {tou : Tou T} {c : Call} (hO : orc.Ok C P tou) (hU : ∀ i ∈ xtouch tou (.call c) vs h, U i) (hn : c.args.size + (match c.callee with | .value _ => 1 | _ => 0) = vs.length) (hk : xcall C P orc c vs h k = some z) : Sound C P U ⟨d, .call c, ty, pos, af, g⟩ vs h k z := by
  obtain ⟨callee, as_, ts⟩ := c
  unfold xcall at hk
  dsimp only at hk hn
  split at hk
  · rename_i y f args
    obtain ⟨r, h', h1, h2⟩ := hO.call _ _ _ _ _ hk
    refine ⟨r, h', h1, fun ρ σ bs hs H => ?_⟩
    obtain ⟨a, cs, rfl, h3, h4⟩ := hs.to
    rw [sv_fn.1 h3]
    refine ⟨f, #[], #[], by simp, ?_⟩
    have := h2 ρ σ cs h4 H
    simpa using this.mono fun rv τ ⟨ρ', g1, g2, g3⟩ => ⟨ρ', g1, g2, g3.mono hU⟩
  · rename_i y f ps args
    rw [forceL_eq] at hk
    obtain ⟨r, h', h1, h2⟩ := hO.call _ _ _ _ _ hk
    refine ⟨r, h', h1, fun ρ σ bs hs H => ?_⟩
    obtain ⟨a, cs, rfl, h3, h4⟩ := hs.to
    obtain ⟨ks, rfl, h5⟩ := sv_clo.1 h3
    refine ⟨f, #[], (ks.map fun b => Value.pointer (some ⟨b, 0, none⟩)).toArray, rfl, ?_⟩
    have := h2 ρ σ (cs ++ ks.map fun b => ptr b 0) (h4.app h5.svs) H
    have e : (#[] : Array Value).toList.map AV.raw ++ cs ++ (ks.map fun b => Value.pointer (some ⟨b, 0, none⟩)).toArray.toList.map AV.raw = cs ++ ks.map fun b => ptr b 0 := by simp [ptr, Function.comp_def]
    rw [e]
    exact this.mono fun rv τ ⟨ρ', g1, g2, g3⟩ => ⟨ρ', g1, g2, g3.mono hU⟩
  · split at hk
    · rename_i E xs ow t' hts
      split at hk
      · rename_i e he
        refine snd_pure hk (fun bs σ K hl hp => ?_) (fun ρ bs hs => ?_)
        · match bs, hl with
          | [b], _ => exact .inl hp
        · obtain ⟨a, rfl, h3⟩ := svs1.1 hs
          obtain ⟨B, c, cs, rest, rfl, _⟩ := sv_list h3
          exact ⟨_, pr_len hts he, sv_int.2 rfl⟩
      · cases hk
    · rename_i t' hts
      split at hk
      · rename_i e he
        refine snd_pure hk (fun bs σ K hl hp => ?_) (fun ρ bs hs => ?_)
        · match bs, hl with
          | [b], _ => exact .inl hp
        · obtain ⟨a, rfl, h3⟩ := svs1.1 hs
          rw [sv_nil.1 h3]
          exact ⟨_, pr_len hts he, sv_int.2 rfl⟩
      · cases hk
    · rename_i s t' hts
      split at hk
      · rename_i he
        refine snd_pure hk (fun bs σ K hl hp => ?_) (fun ρ bs hs => ?_)
        · match bs, hl with
          | [b], _ => exact .inl hp
        · obtain ⟨a, rfl, h3⟩ := svs1.1 hs
          rw [sv_str.1 h3]
          exact ⟨_, pr_lenS hts he, sv_int.2 rfl⟩
      · cases hk
    · rename_i E i lo n co t' hts
      split at hk
      · rename_i e he
        refine ⟨_, h, hk, OpTr.same fun ρ σ bs K hs H hK => ?_⟩
        obtain ⟨a, rfl, h3⟩ := svs1.1 hs
        rcases sv_as.1 h3 with ⟨ad, c, rfl, hA⟩ | ⟨rfl, hn0, _⟩
        · exact .inl ⟨_, pr_lenA hts he, hK _ (sv_int.2 rfl)⟩
        · subst hn0
          exact .inl ⟨_, pr_len hts he, hK _ (sv_int.2 rfl)⟩
      · cases hk
    · rename_i l t' hts
      split at hk
      · rename_i e he
        refine snd_pure hk (fun bs σ K hl hp => ?_) (fun ρ bs hs => ?_)
        · match bs, hl with
          | [b], _ => exact .inl hp
        · obtain ⟨a, rfl, h3⟩ := svs1.1 hs
          obtain ⟨B, c, cs, rest, rfl, _⟩ := sv_vl.1 h3
          exact ⟨_, pr_len hts he, sv_int.2 rfl⟩
      · cases hk
    · cases hk
  · refine snd_pure hk (fun bs σ K hl hp => ?_) (fun ρ bs hs => ?_)
    · match bs, hl with
      | [a, b], _ => exact .inl hp
    · obtain ⟨a, b, rfl, h3, h4⟩ := svs2.1 hs
      rw [sv_int.1 h3, sv_int.1 h4]
      exact ⟨_, pr_min, sv_int.2 rfl⟩
  · refine snd_pure hk (fun bs σ K hl hp => ?_) (fun ρ bs hs => ?_)
    · match bs, hl with
      | [a, b], _ => exact .inl hp
    · obtain ⟨a, b, rfl, h3, h4⟩ := svs2.1 hs
      rw [sv_str.1 h3, sv_str.1 h4]
      exact ⟨_, pr_minS, sv_str.2 rfl⟩
  · refine snd_pure hk (fun bs σ K hl hp => ?_) (fun ρ bs hs => ?_)
    · match bs, hl with
      | [a, b], _ => exact .inl hp
    · obtain ⟨a, b, rfl, h3, h4⟩ := svs2.1 hs
      rw [sv_str.1 h3, sv_str.1 h4]
      exact ⟨_, pr_maxS, sv_str.2 rfl⟩
  · refine snd_pure hk (fun bs σ K hl hp => ?_) (fun ρ bs hs => ?_)
    · match bs, hl with
      | [a, b], _ => exact .inl hp
    · obtain ⟨a, b, rfl, h3, h4⟩ := svs2.1 hs
      rw [sv_int.1 h3, sv_int.1 h4]
      exact ⟨_, pr_max, sv_int.2 rfl⟩
  · split at hk
    · rename_i t1 t2 hts
      obtain ⟨l⟩ := as_
      obtain ⟨tl⟩ := ts
      simp only at hts
      subst hts
      match l, hn with
      | [ox, oy], _ =>
      split at hk
      · rename_i ht
        have ht := Nat.eq_of_beq_eq_true ht
        subst ht
        rw [cond_eq_ite] at hk
        split at hk
        · rename_i hm
          exact snd_apA hm (fun E i lo n co e => hU i (by subst e; exact List.mem_singleton.2 rfl)) hk
        · exact snd_append (fun E xs r e => hU r (by subst e; exact List.mem_singleton.2 rfl)) hk
      · exact snd_apZ hk
    · cases hk
  · split at hk
    · rename_i t' hts
      split at hk
      · rename_i e he
        exact snd_cap hts he hk (by simpa using hn)
      · cases hk
    · cases hk
  · split at hk
    · rename_i t1 t2 hts
      obtain ⟨l⟩ := as_
      obtain ⟨tl⟩ := ts
      simp only at hts
      subst hts
      match l, hn with
      | [ox, oy], _ => exact snd_copy (fun E i lo n co e => hU i (by subst e; exact List.mem_singleton.2 rfl)) hk
    · cases hk
  · split at hk
    · rename_i t1 hts
      obtain ⟨l⟩ := as_
      obtain ⟨tl⟩ := ts
      simp only at hts
      subst hts
      match l, hn with
      | [ox], _ => exact snd_clear (fun E i lo n co e => hU i (by subst e; exact List.mem_singleton.2 rfl)) hk
    · cases hk
  · cases hk
theorem snd_index_x {o : Oper} {E : Nat} {xs ys : List (T E)} {y : XV T} (hs : Sound C P U o [.sl E xs none, y] h k z) : Sound C P U o [.slx E xs ys, y] h k z := by
  obtain ⟨r, h', h1, h2⟩ := hs
  refine ⟨r, h', h1, fun ρ σ as_ hs H => h2 ρ σ as_ ?_ H⟩
  obtain ⟨a, b, rfl, k1, k2⟩ := svs2.1 hs
  exact .cons ((Wk.spare _ _ _).sv k1) k2
theorem wk_sv {N : Nat} {ρ : Nat → AV} {v : XV T} {a : AV} (hs : SV C N ρ v a) : SV C N ρ v.wk a := by
  cases v <;> first | exact hs | exact (Wk.spare _ _ _).sv hs
theorem wks_sv {N : Nat} {ρ : Nat → AV} {as_ : List AV} {vs : List (XV T)} (hs : SVs C N ρ vs as_) : SVs C N ρ (vs.map XV.wk) as_ := by
  induction vs generalizing as_ with
  | nil => exact hs
  | cons v vs ih => obtain ⟨a, bs, rfl, h1, h2⟩ := hs.to; exact .cons (wk_sv h1) (ih h2)
theorem snd_wk {o : Oper} (hs : Sound C P U o (vs.map XV.wk) h k z) : Sound C P U o vs h k z := by
  obtain ⟨r, h', h1, h2⟩ := hs
  exact ⟨r, h', h1, fun ρ σ as_ hs H => h2 ρ σ as_ (wks_sv hs) H⟩
theorem gvs_wk : ∀ vs : List (XV T), gvs (vs.map XV.wk) = gvs vs
  | [] => rfl
  | v :: vs => by
    rw [List.map_cons]
    cases v <;> first | exact gvs_wk vs | exact congrArg (List.cons _) (gvs_wk vs)
theorem touch_wk {tou : Tou T} {c : Call} (hb : isBuiltin c = true) {i : Nat} (hi : i ∈ xtouch tou (.call c) (vs.map XV.wk) h) : i ∈ xtouch tou (.call c) vs h := by
  obtain ⟨callee, as_, ts⟩ := c
  cases callee with
  | builtin b =>
    cases vs with
    | nil => exact hi
    | cons v vs =>
      have key : ∀ {u : XV T}, i ∈ gvs ((u :: vs).map XV.wk) → i ∈ gvs (u :: vs) := fun h => by rw [gvs_wk] at h; exact h
      cases v with
      | sl E xs o => cases o <;> cases b <;> first | exact hi | exact key hi
      | _ => cases b <;> first | exact hi | exact key hi
  | _ => cases hb
theorem byte_cells {N : Nat} {ρ : Nat → AV} : ∀ {bs : List UInt8} {cs : List AV}, SVs C N ρ (bs.map fun b => XV.int .u8 (b.toNat : Int)) cs → cs = bs.map fun b => AV.raw (.int .u8 (b.toNat : Int))
  | [], cs, h => SVs_nil.1 h
  | b :: bs, cs, h => by
    obtain ⟨a, l, rfl, h1, h2⟩ := h.to
    rw [sv_int.1 h1, byte_cells h2]
    rfl
theorem xop0_sound {tou : Tou T} {o : Op} (hO : orc.Ok C P tou) (hU : ∀ i ∈ xtouch tou o vs h, U i) (hn : o.operands.size = vs.length) (hk : xop0 C P orc o vs h k = some z) : Sound C P U ⟨d, o, ty, pos, af, g⟩ vs h k z := by
  unfold xop0 at hk
  split at hk
  · rw [force_eq] at hk
    exact ⟨_, _, hk, OpTr.same fun ρ σ as_ K hs H hK => by obtain ⟨a, rfl, h1⟩ := svs1.1 hs; exact hK a h1⟩
  · rw [force_eq] at hk
    exact ⟨_, _, hk, OpTr.same fun ρ σ as_ K hs H hK => by obtain ⟨a, rfl, h1⟩ := svs1.1 hs; exact hK a h1⟩
  · rw [force_eq, force_eq] at hk
    rename_i c a b
    cases c
    · exact snd_pick hk rfl
    · exact snd_pick hk rfl
  · split at hk
    · rw [forceL_eq, hforce_eq] at hk
      exact snd_alloc ‹_› hk
    · cases hk
  · split at hk
    · rw [forceL_eq, hforce_eq] at hk
      exact snd_box ‹_› hk
    · cases hk
  · split at hk
    · split at hk
      · rw [forceL_eq] at hk
        exact snd_build ‹_› ‹_› ‹_› hk
      · cases hk
    · cases hk
  · split at hk
    · split at hk
      · split at hk
        · split at hk
          · simp only [hforce_eq] at hk
            exact snd_buildAny ‹_› ‹_› ‹_› ‹_› ‹_› hk
          · cases hk
        · cases hk
      · split at hk
        · split at hk
          · rw [forceL_eq] at hk
            exact snd_buildVl ‹_› ‹_› ‹_› ‹_› ‹_› hk
          · cases hk
        · cases hk
      · cases hk
    · cases hk
  · split at hk
    · exact snd_load ‹_› hk
    · cases hk
  · exact snd_load_ce hk
  · exact snd_load_e hk
  · split at hk
    · split at hk
      · split at hk
        · rw [forceL_eq, hforce_eq] at hk
          exact snd_store (hU _ (List.mem_singleton.2 rfl)) ‹_› ‹_› ‹_› hk
        · cases hk
      · cases hk
    · cases hk
  · split at hk
    · rename_i hi
      split at hk
      · rename_i hE
        obtain ⟨hE, ho⟩ := hE
        subst hE
        obtain ⟨x, hx, hk⟩ := obind hk
        exact snd_apLoad hi ho hx hk
      · cases hk
    · cases hk
  · split at hk
    · rename_i hi
      split at hk
      · rename_i hE
        subst hE
        split at hk
        · rename_i n hn'
          rw [cond_eq_ite] at hk
          split at hk
          · split at hk
            · rename_i hc
              split at hk
              · rename_i hj
                obtain ⟨y', hy', hk⟩ := obind hk
                rw [hforce_eq] at hk
                simp only [Bool.and_eq_true] at hc
                obtain ⟨⟨⟨q1, q2⟩, q3⟩, q4⟩ := hc
                have q4 := Nat.eq_of_beq_eq_true q4
                subst q4
                exact snd_apStoreX (hU _ (List.mem_singleton.2 rfl)) hi hn' ⟨q1, q2, q3⟩ hj hy' hk
              · cases hk
            · cases hk
          · split at hk
            · rename_i hc
              obtain ⟨y, hy, hk⟩ := obind hk
              obtain ⟨y', hy', hk⟩ := obind hk
              rw [hforce_eq] at hk
              exact snd_apStore (hU _ (List.mem_singleton.2 rfl)) hi hn' hc hy hy' hk
            · cases hk
        · cases hk
      · cases hk
    · cases hk
  · exact snd_make hk
  · split at hk
    · rename_i hf
      split at hk
      · exact snd_makeFunc (ps := []) hf ‹_› hk
      · exact snd_makeFunc (ps := _ :: _) hf ‹_› hk
      · cases hk
    · cases hk
  · split at hk
    · exact ⟨_, _, hk, OpTr.same fun ρ σ as_ K hs H hK => by
        obtain ⟨a, rfl, h1⟩ := svs1.1 hs
        obtain ⟨b, rfl, _⟩ := sv_ptr.1 h1
        exact ⟨rfl, hK _ h1⟩⟩
    · exact ⟨_, _, hk, OpTr.same fun ρ σ as_ K hs H hK => by
        obtain ⟨a, rfl, h1⟩ := svs1.1 hs
        obtain ⟨b, rfl, _⟩ := sv_ap.1 h1
        exact ⟨rfl, hK _ h1⟩⟩
    · exact ⟨_, _, hk, OpTr.same fun ρ σ as_ K hs H hK => by
        obtain ⟨a, rfl, h1⟩ := svs1.1 hs
        obtain ⟨bs, rfl, _⟩ := sv_clo.1 h1
        exact ⟨rfl, hK _ h1⟩⟩
    · exact ⟨_, _, hk, OpTr.same fun ρ σ as_ K hs H hK => by
        obtain ⟨a, rfl, h1⟩ := svs1.1 hs
        obtain ⟨ad, cs, rest, rfl, _⟩ := sv_el.1 h1
        exact ⟨rfl, hK _ h1⟩⟩
    · exact ⟨_, _, hk, OpTr.same fun ρ σ as_ K hs H hK => by
        obtain ⟨a, rfl, h1⟩ := svs1.1 hs
        obtain ⟨ad, cs, rest, rfl, _⟩ := sv_ce.1 h1
        exact ⟨rfl, hK _ h1⟩⟩
    · exact ⟨_, _, hk, OpTr.same fun ρ σ as_ K hs H hK => by
        obtain ⟨a, rfl, h1⟩ := svs1.1 hs
        rw [sv_fn.1 h1]
        exact ⟨rfl, hK _ (by rw [← sv_fn.1 h1]; exact h1)⟩⟩
    · cases hk
  · split at hk
    · rename_i r hr
      rw [force_eq] at hk
      exact ⟨_, _, hk, OpTr.same fun ρ σ as_ K hs H hK => by
        obtain ⟨a, rfl, h1⟩ := svs1.1 hs
        obtain ⟨ls, rfl, h2⟩ := sv_tup.1 h1
        obtain ⟨b, h3, h4⟩ := h2.get hr
        exact ⟨b, h3, hK _ h4⟩⟩
    · cases hk
  · split at hk
    · split at hk
      · split at hk
        · exact snd_fieldAddr ‹_› ‹_› hk
        · exact snd_fieldAddr_e ‹_› ‹_› hk
        · exact snd_fieldAddr_a ‹_› ‹_› hk
        · exact snd_fieldAddr_ce ‹_› ‹_› hk
        · cases hk
      · cases hk
    · cases hk
  · split at hk
    · split at hk
      · exact snd_field ‹_› ‹_› hk
      · cases hk
    · cases hk
  · split at hk
    · split at hk
      · split at hk
        · exact snd_index ‹_› ‹_› ‹_› hk
        · cases hk
      · cases hk
    · cases hk
  · split at hk
    · split at hk
      · split at hk
        · split at hk
          · rw [forceL_eq] at hk
            exact snd_indexVl ‹_› ‹_› ‹_› ‹_› hk
          · cases hk
        · cases hk
      · cases hk
    · cases hk
  · split at hk
    · split at hk
      · split at hk
        · exact snd_index_x (snd_index ‹_› ‹_› ‹_› hk)
        · cases hk
      · cases hk
    · cases hk
  · split at hk
    · split at hk
      · split at hk
        · split at hk
          · exact snd_asIndex ‹_› ‹_› ‹_› ‹_› hk
          · cases hk
        · cases hk
      · cases hk
    · cases hk
  · split at hk
    · split at hk
      · exact snd_arrIndex ‹_› ‹_› hk
      · cases hk
    · cases hk
  · split at hk
    · rename_i s _ n _ ht
      cases hb : getI s n with
      | none => rw [hb] at hk; cases hk
      | some b => rw [hb] at hk; exact snd_strAt ht hb hk
    · cases hk
  · exact snd_asSlice hk
  · exact snd_slice hk
  · exact snd_asSlice3 hk
  · exact snd_slice3 hk
  · exact snd_bin hk
  · rename_i b
    exact snd_un hk fun ρ a ha => ⟨.bool (!b), fun w => by rw [sv_bool.1 ha]; simp [Op.unary], sv_bool.2 rfl⟩
  · rename_i kd n
    exact snd_un hk fun ρ a ha => ⟨.int kd (kd.wrap (0 - n)), fun w => by rw [sv_int.1 ha]; simp [Op.unary, Op.intArith], sv_int.2 rfl⟩
  · split at hk
    · rename_i ks kd ki n hs hd
      refine snd_conv hk fun ρ a ha => ⟨.int kd (kd.wrap n), fun w => ?_, sv_int.2 rfl⟩
      rw [sv_int.1 ha]
      simp [convert, run_underlying hs, run_underlying hd, Conv.intToInt]
    · rename_i e E xs o hs hd
      split at hk
      · rename_i he
        obtain ⟨bs, hb, hk⟩ := obind hk
        refine snd_convB hs he hd hk fun ρ a ha => ?_
        obtain ⟨A, c, cs, rest, rfl, l1, l2, l3, l4, l5⟩ := sv_list ha
        have hbs := C.byt_ok E xs bs hb
        rw [hbs] at l5
        refine ⟨A, _, c, cs, rest, rfl, byte_cells l5, ?_⟩
        have h1 := congrArg List.length hbs
        rw [enc_len, List.length_map] at h1
        rw [← h1, C.byt_sz E xs bs hb, Nat.mul_one]
      · cases hk
    · rename_i e hs hd
      split at hk
      · rename_i he
        refine snd_convB hs he hd hk fun ρ a ha => ?_
        rw [sv_nil.1 ha]
        exact ⟨none, 0, 0, [], [], rfl, rfl, rfl⟩
      · cases hk
    · cases hk
  · exact snd_lookup hk
  · exact snd_mget hk
  · split at hk
    · rw [hforce_eq] at hk
      exact snd_mmake ‹_› hk
    · cases hk
  · exact snd_mput (hU _ (by simp [xtouch])) hk
  · rename_i c
    cases hb : isBuiltin c
    · rw [hb] at hk
      refine snd_call hO hU ?_ hk
      obtain ⟨callee, as_, ts⟩ := c
      simp only [Op.operands, Call.operands] at hn
      cases callee <;> simp at hn ⊢ <;> first | omega | (dsimp only [cond_false] at hk; unfold xcall at hk; cases hk) | (cases hb)
    · rw [hb] at hk
      refine snd_wk (snd_call hO (fun i hi => hU i (touch_wk hb hi)) ?_ hk)
      obtain ⟨callee, as_, ts⟩ := c
      simp only [Op.operands, Call.operands] at hn
      cases callee <;> simp at hn ⊢ <;> first | omega | (dsimp only [cond_true] at hk; unfold xcall at hk; cases hk) | (cases hb)
  · cases hk
theorem xop_sound {tou : Tou T} {o : Op} (hO : orc.Ok C P tou) (hU : ∀ i ∈ xtouch tou o vs h, U i) (hn : o.operands.size = vs.length) (hk : xop C P orc o vs h k = some z) : Sound C P U ⟨d, o, ty, pos, af, g⟩ vs h k z := by
  unfold xop at hk
  cases hb : orc.on o vs
  · rw [hb] at hk; exact xop0_sound hO hU hn hk
  · rw [hb] at hk
    obtain ⟨r, h', h1, h2⟩ := hO.op _ _ _ _ _ hb hk
    exact ⟨r, h', h1, fun ρ σ as_ hs H => aVal_mono (fun rv τ ⟨ρ', g1, g2, g3⟩ => ⟨ρ', g1, g2, g3.mono hU⟩) (h2 d ty pos af g ρ σ as_ hs H)⟩
end
end Go.Proofs.YtmffcfjdacoigaaGreat
