/- The document's example; FerryTells, plainly. -/
import Derived.Test.YtlaehnldaejipaaFkf
import Derived.Test.YtlaehnldaejipaaG2
namespace Go.Proofs.Ytlaehnldaejipaa
open Go.RowKit
set_option maxRecDepth 100000
set_option linter.unusedVariables false
set_option linter.unusedSimpArgs false
def plainB (n : Nat) : List UInt8 := (List.range n).map fun i => UInt8.ofNat (i * 7)
def plainI (n : Nat) : DImage := ⟨⟨3, 2, ⟨[], [], [], []⟩⟩, plainB n⟩
@[simp] theorem plainB_len (n : Nat) : (plainB n).length = n := by simp [plainB]
theorem plainI_few {n : Nat} (h : n ≤ 900000) : (plainI n).few := ⟨few_nil, by simpa [plainI] using h⟩
theorem b8_7 (i : Nat) (hi : i ≤ 1000000) : b8 (IntKind.u8.wrap (IntKind.i64.wrap ((i : Int) * 7))) = some (UInt8.ofNat (i * 7)) := by
  rw [w64 (by omega), IntKind.wrap_u8]
  unfold b8 g8
  dsimp only
  rw [if_pos (by omega)]
  simp only [Option.bind_some]
  congr 1
  have : ((i : Int) * 7 % 256).toNat = i * 7 % 256 := by omega
  rw [this]
  apply UInt8.toNat_inj.1
  simp
theorem plain_p (n : Nat) (hn : n ≤ 100000) : wl_plain (n : Int) = some (plainI n, ()) := by
  unfold wl_plain
  have key : ∃ b, loopM wl_plain_l1 (((n : Int), (), (), (0 : Int), ()), ((0, 0, [], [], [], [], [], ()), (3, 2, [], [], [], [], [], ()), (), (), (), (), (), (), (), (), (), (), ())) = some b ∧ b.2.2.1 = (3, 2, [], [], [], [], plainB n, ()) := by
    refine loopM_runQ (step := wl_plain_l1) (fun b => b.2.2.1 = (3, 2, [], [], [], [], plainB n, ())) (N := n) (fun i => (((n : Int), (), (), (i : Int), ()), ((0, 0, [], [], [], [], [], ()), (3, 2, [], [], [], [], plainB i, ()), (), (), (), (), (), (), (), (), (), (), ()))) (fun i hi => ?_) ?_
    rotate_left
    · unfold wl_plain_l1
      dsimp only
      rw [decide_eq_false (by omega : ¬ (n : Int) < n), cond_false]
      exact ⟨_, rfl, rfl⟩
    · unfold wl_plain_l1
      dsimp only
      rw [decide_eq_true (by omega : (i : Int) < n), cond_true, b8_7 i (by omega)]
      simp only [Option.bind_some, plainB_len, List.length_cons, List.length_nil]
      rw [if_pos (by omega), w64 (by omega)]
      have : plainB (i + 1) = plainB i ++ [UInt8.ofNat (i * 7)] := by simp [plainB, List.range_succ]
      rw [this]
      rfl
  obtain ⟨b, h1, h2⟩ := key
  rw [h1]
  simp only [Option.bind_some, h2]
  rfl
def askL (m : DImage) (a : Int) : DLetter := ⟨5, 0, 1, 2, 4, 0, 0, 0, false, [], m.base, 0, a, 0, []⟩
theorem asks_p (m : DImage) (a : Int) : wl_asks m a = some (askL m a, ()) := rfl
theorem cloneE54_p {xs : List Int} (h : xs.length ≤ 1000000) : cloneE54 xs = some (xs.length, (xs, ())) := by
  unfold cloneE54
  exact iteT (by omega) rfl
theorem cloneE34_p {xs : List UInt8} (h : xs.length ≤ 1000000) : cloneE34 xs = some (xs.length, (xs, ())) := by
  unfold cloneE34
  exact iteT (by omega) rfl
theorem own_1_p {b : DBase} (h : b.config.few) : ferry_own b = some ((b.index, b.term_, b.config.voters.length, b.config.old.length, b.config.learners.length, b.config.want.length, ()), (b.config.voters, b.config.old, b.config.learners, b.config.want, ())) :=
  bindS (cloneE54_p h.1) (bindS (cloneE54_p h.2.1) (bindS (cloneE54_p h.2.2.1) (bindS (cloneE54_p h.2.2.2) rfl)))
theorem Fill_1_ok {x : DLetter} {m : DImage} (hm : m.few) (h : fillOk x m) : ferry_Fill x m = some ((ownL (fillL x m), true, ()), ((fillL x m).base.config.voters, (fillL x m).base.config.old, (fillL x m).base.config.learners, (fillL x m).base.config.want, (fillL x m).bytes, ())) := by
  obtain ⟨g1, g2, g3, g4, g5⟩ := h
  have hb := hm.2
  have hw : IntKind.i64.wrap (x.at_ + 600) = x.at_ + 600 := w64 (by omega)
  have hc := cut600 g4 g5 rfl
  unfold ferry_Fill
  refine condF (dF (by omega)) (condF (dF (by omega)) (condF (dF (by omega)) (condF (dF (by omega)) (condF (dF (by omega)) (bindS (own_1_p hm.1) ?_)))))
  dsimp only
  rw [hw, hc]
  refine iteT (by split <;> omega) (bindS (cloneE34_p (by simp; omega)) ?_)
  rfl
def pieceL (m : DImage) (a : Int) : DLetter := fillL (askL m a) m
theorem ask_fill {m : DImage} (hm : m.few) {a : Int} (h0 : 0 ≤ a) (h1 : a ≤ m.bytes.length) : ferry_Fill (askL m a) m = some ((ownL (pieceL m a), true, ()), (m.base.config.voters, m.base.config.old, m.base.config.learners, m.base.config.want, (pieceL m a).bytes, ())) := Fill_1_ok hm ⟨rfl, rfl, rfl, h0, h1⟩
theorem piece_len (m : DImage) (a : Nat) : (pieceL m (a : Int)).bytes.length = min 600 (m.bytes.length - a) := by simp [pieceL, fillL, askL]
theorem first_take {m : DImage} (hl : m.bytes.length = 1000) : takeX fer0 (pieceL m 0) = ((600, false, img0), ⟨true, 4, m.base.index, m.base.term_, 1000, m.bytes.take 600⟩) := by
  have hlen := piece_len m 0
  have hr : rightX (pieceL m 0) := ⟨rfl, by show (0 : Int) ≤ (m.bytes.length : Int); omega, by show (m.bytes.length : Int) ≤ 131072; omega, Int.le_refl 0, by show (0 : Int) ≤ (m.bytes.length : Int); omega, by
    show ((pieceL m 0).bytes.length : Int) ≤ (m.bytes.length : Int) - 0
    have : (pieceL m 0).bytes.length = min 600 (m.bytes.length - 0) := hlen
    omega⟩
  have hb : bsX (anew (pieceL m 0)) (pieceL m 0) = m.bytes.take 600 := by
    unfold bsX
    refine (if_pos (show (0 : Int) ≤ 0 from Int.le_refl 0)).trans ?_
    simp [anew, pieceL, fillL, askL]
  rw [takeX_new hr (fun h => by cases h.1) rfl]
  unfold tailX
  rw [hb, if_pos (by show ((m.bytes.take 600).length : Int) < (m.bytes.length : Int); simp; omega)]
  simp [anew, pieceL, fillL, askL, hl]
theorem second_take {m : DImage} (hl : m.bytes.length = 1000) : takeX ⟨true, 4, m.base.index, m.base.term_, 1000, m.bytes.take 600⟩ (pieceL m 600) = ((1000, true, m), fer0) := by
  have hlen : (pieceL m 600).bytes.length = min 600 (m.bytes.length - 600) := piece_len m 600
  have hr : rightX (pieceL m 600) := ⟨rfl, by show (0 : Int) ≤ (m.bytes.length : Int); omega, by show (m.bytes.length : Int) ≤ 131072; omega, by show (0 : Int) ≤ 600; decide, by show (600 : Int) ≤ (m.bytes.length : Int); omega, by
    show ((pieceL m 600).bytes.length : Int) ≤ (m.bytes.length : Int) - 600
    omega⟩
  have hb : bsX ⟨true, 4, m.base.index, m.base.term_, 1000, m.bytes.take 600⟩ (pieceL m 600) = m.bytes := by
    unfold bsX
    rw [if_pos (by show (600 : Int) ≤ ((m.bytes.take 600).length : Int); simp; omega)]
    simp only [pieceL, fillL, askL]
    have e : (m.bytes.take 600).length - (600 : Int).toNat = 0 := by simp; omega
    have e2 : (m.bytes.drop (600 : Int).toNat).take 600 = m.bytes.drop 600 := List.take_of_length_le (by simp; omega)
    rw [e, List.drop_zero, e2]
    exact List.take_append_drop 600 m.bytes
  rw [takeX_same hr ⟨rfl, rfl, rfl, rfl, by show (1000 : Int) = (m.bytes.length : Int); omega⟩]
  unfold tailX
  rw [hb, if_neg (by show ¬ (m.bytes.length : Int) < 1000; omega), hl]
  rfl
theorem Take1_n {f : Fer} {x : DLetter} (hf : f.inv) (hc : x.base.config.few) : ferry_Take (ownL x) (ferT f) x.base.config.voters x.base.config.old x.base.config.learners x.base.config.want x.bytes f.bs = some (((takeX f x).1.1, (takeX f x).1.2.1, imgT (takeX f x).1.2.2, ()), (ferT (takeX f x).2, x.base.config.voters, x.base.config.old, x.base.config.learners, x.base.config.want, x.bytes, (), (takeX f x).1.2.2.base.config.voters, (takeX f x).1.2.2.base.config.old, (takeX f x).1.2.2.base.config.learners, (takeX f x).1.2.2.base.config.want, (takeX f x).1.2.2.bytes, (takeX f x).2.bs, ())) := by
  have := Take1_p (t0 := []) (t1 := []) (t2 := []) (t3 := []) (t4 := []) hf hc
  simpa only [List.append_nil] using this
theorem SameImage_n {m : DImage} (h : m.few) : wk_SameImage m (imgT m) m.base.config.voters m.base.config.old m.base.config.learners m.base.config.want m.bytes = some (true, (m.base.config.voters, m.base.config.old, m.base.config.learners, m.base.config.want, m.bytes, ())) := by
  have := SameImage_p (t0 := []) (t1 := []) (t2 := []) (t3 := []) (t4 := []) h
  simpa only [List.append_nil] using this
theorem awake_p : wl_awake = some (true, ()) := by
  have hm : (plainI 1000).few := plainI_few (by omega)
  have hl : (plainI 1000).bytes.length = 1000 := plainB_len 1000
  generalize hM : plainI 1000 = M at hm hl
  have hp : wl_plain 1000 = some (M, ()) := by rw [← hM]; exact plain_p 1000 (by omega)
  have ha := ask_fill (a := 0) hm (by omega) (by omega)
  have hb := ask_fill (a := 600) hm (by omega) (by omega)
  have hc0 : (pieceL M 0).base.config.few := hm.1
  have hc1 : (pieceL M 600).base.config.few := hm.1
  have t1 := Take1_n fer0_inv hc0
  rw [first_take hl] at t1
  have hi : (⟨true, 4, M.base.index, M.base.term_, 1000, M.bytes.take 600⟩ : Fer).inv := by
    have := takeX_inv (f := fer0) (x := pieceL M 0) fer0_inv
    rw [first_take hl] at this
    exact this
  have t2 := Take1_n hi hc1
  rw [second_take hl] at t2
  have l0 : (pieceL M 0).bytes.length = 600 := (piece_len M 0).trans (by omega)
  have l1 : (pieceL M 600).bytes.length = 400 := (piece_len M 600).trans (by omega)
  unfold wl_awake
  refine bindS hp (bindS (asks_p _ _) (bindS ha (bindS (asks_p _ _) (bindS hb (bindS (v := ((), (ferT fer0, [], ()))) rfl (bindS t1 (bindS t2 ?_)))))))
  refine condT rfl (condT rfl (condT (dT (by dsimp only; omega)) (condT (dT (by dsimp only; omega)) (condT rfl (condT rfl (condT rfl (condT rfl (bindS (SameImage_n hm) rfl))))))))
theorem few_of_ok {c : DConfig} (h : cOf c ≤ 100) : c.few := cOf_few (by omega)
theorem FerryTells_p (x0 : DLetter) (x1 : DImage) (k0 : ok_DLetter x0) (k1 : ok_DImage x1) : wl_FerryTells x0 x1 = some (true, ()) := by
  unfold wl_FerryTells
  refine bindS awake_p (condF rfl ?_)
  obtain ⟨g, hg, hg2⟩ := great_p (l := [x0]) (fun x hx => by rw [List.mem_singleton] at hx; subst hx; exact k0) (by simp)
  refine bindS hg ?_
  cases g
  rotate_left
  · exact condT rfl rfl
  refine condF rfl ?_
  have hx : x0.few := (hg2 rfl).2 x0 (by simp)
  by_cases h6 : (6000 : Int) < x1.bytes.length
  · exact condT (dT h6) rfl
  refine condF (dF h6) ?_
  obtain ⟨c1, c2⟩ := ConfigOf_ok k1.1.2.2.1
  refine bindS c1 ?_
  by_cases h1 : (100 : Int) < ((cOf x1.base.config : Nat) : Int)
  · exact condT (dT h1) rfl
  refine condF (dF h1) ?_
  have hm : x1.few := ⟨few_of_ok (by omega), by omega⟩
  have hy := fillR_few (x := x0) hm
  have hs := SameLetter_p (t0 := []) (t1 := []) (t2 := []) (t3 := []) (t4 := []) hy.1 hy.2
  simp only [List.append_nil] at hs
  refine bindS (LentLetter_p hx) (bindS (LentImage_p hm) (bindS (Fill_2_p hm (by simp [marksB_len])) (bindS (refFill_p hx hm) (condF (dF (fun h => h rfl)) ?_))))
  refine bindS hs (condF rfl (bindS (OverLetter_p hy.1.2.2.1 (by have := hy.1.2.2.2; omega)) (bindS (KeptLetter_p hx) (condT rfl (bindS (KeptImage_p hm) rfl)))))
end Go.Proofs.Ytlaehnldaejipaa
