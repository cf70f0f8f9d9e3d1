/- FerryCrosses, plainly. -/
import Derived.Test.YtlaehnldaejipaaFp
namespace Go.Proofs.Ytlaehnldaejipaa
open Go.RowKit
set_option maxRecDepth 100000
set_option linter.unusedVariables false
set_option linter.unusedSimpArgs false
theorem Pick_p (x n : Int) (h1 : 1 ≤ n) (h2 : n ≤ 1000000000) : ∃ p, watershedkit_Pick x n = some (p, ()) ∧ 0 ≤ p ∧ p < n := by
  unfold watershedkit_Pick
  have hb := Int.tmod_lt_of_pos x (show 0 < n by omega)
  have hb2 : -n < x.tmod n := by
    have := Int.tmod_lt_of_pos (-x) (show 0 < n by omega)
    rw [Int.neg_tmod] at this
    omega
  rw [decide_eq_false (by omega : ¬ n < 1), cond_false, if_neg (by omega)]
  by_cases h : x.tmod n < 0
  · rw [decide_eq_true h, cond_true, w64 (by omega)]
    exact ⟨_, rfl, by omega, by omega⟩
  · rw [decide_eq_false h, cond_false]
    exact ⟨_, rfl, by omega, hb⟩
theorem ConfigOf_p {c : DConfig} (h : c.small) : watershedkit_ConfigOf c = some (1 + (c.voters.length : Int) + (c.old.length : Int) + (c.learners.length : Int) + (c.want.length : Int), ()) := by
  obtain ⟨h1, h2, h3, h4⟩ := h
  unfold watershedkit_ConfigOf
  rw [w64 (n := 1 + (c.voters.length : Int)) (by omega), w64 (n := 1 + (c.voters.length : Int) + c.old.length) (by omega), w64 (n := 1 + (c.voters.length : Int) + c.old.length + c.learners.length) (by omega), w64 (by omega)]
def plainB (n : Nat) : List UInt8 := (List.range n).map fun i => UInt8.ofNat (i * 7)
def plainI (n : Nat) : DImage := ⟨⟨3, 2, ⟨[], [], [], []⟩⟩, plainB n⟩
@[simp] theorem plainB_len (n : Nat) : (plainB n).length = n := by simp [plainB]
theorem b8_7 (i : Nat) (hi : i ≤ 1000000) : b8 (IntKind.u8.wrap (IntKind.i64.wrap ((i : Int) * 7))) = some (UInt8.ofNat (i * 7)) := by
  rw [w64 (by omega), IntKind.wrap_u8]
  unfold b8 g8
  dsimp only
  rw [if_pos (by omega)]
  simp only [Option.bind_some]
  congr 1
  have : ((i : Int) * 7 % 256).toNat = i * 7 % 256 := by omega
  rw [this]
  apply UInt8.toNat_inj.1
  simp
theorem plain_p (n : Nat) (hn : n ≤ 100000) : watershedlaw13_plain (n : Int) = some (plainI n, ()) := by
  unfold watershedlaw13_plain
  have key : ∃ b, loopM watershedlaw13_plain_l1 (((n : Int), (), (), (0 : Int), ()), ((0, 0, [], [], [], [], [], ()), (3, 2, [], [], [], [], [], ()), (), (), (), (), (), (), (), (), (), (), ())) = some b ∧ b.2.2.1 = (3, 2, [], [], [], [], plainB n, ()) := by
    refine loopM_runQ (step := watershedlaw13_plain_l1) (fun b => b.2.2.1 = (3, 2, [], [], [], [], plainB n, ())) (N := n) (fun i => (((n : Int), (), (), (i : Int), ()), ((0, 0, [], [], [], [], [], ()), (3, 2, [], [], [], [], plainB i, ()), (), (), (), (), (), (), (), (), (), (), ()))) (fun i hi => ?_) ?_
    rotate_left
    · unfold watershedlaw13_plain_l1
      dsimp only
      rw [decide_eq_false (by omega : ¬ (n : Int) < n), cond_false]
      exact ⟨_, rfl, rfl⟩
    · unfold watershedlaw13_plain_l1
      dsimp only
      rw [decide_eq_true (by omega : (i : Int) < n), cond_true, b8_7 i (by omega)]
      simp only [Option.bind_some, plainB_len, List.length_cons, List.length_nil]
      rw [if_pos (by omega), w64 (by omega)]
      have : plainB (i + 1) = plainB i ++ [UInt8.ofNat (i * 7)] := by simp [plainB, List.range_succ]
      rw [this]
      rfl
  obtain ⟨b, h1, h2⟩ := key
  rw [h1]
  simp only [Option.bind_some, h2]
  rfl
theorem imgSame {x : DImage} (h : x.base.config.few) (hb : x.bytes.length ≤ 1000000) : watershedkit_SameImage x x = some (true, ()) := by
  rw [SameImage_p x x h.small h.small (by omega) (by omega)]; simp
/-- A piece of our crossing. -/
def pieceL (m : DImage) (a : Int) : DLetter := fillL (askL m a) m
theorem ask_fill {m : DImage} (hc : m.base.config.few) (hb : m.bytes.length ≤ 1000000) {a : Int} (h0 : 0 ≤ a) (h1 : a ≤ m.bytes.length) : ferry_Fill (askL m a) m = some ((pieceL m a, true, ()), ()) := by
  rw [Fill_p hc hb, if_pos (by unfold fillOk askL; exact ⟨rfl, rfl, rfl, h0, h1⟩)]
  rfl
/-- Our crossing, so far. -/
def onWay (m : DImage) (k : Nat) : Fer := ⟨4, m.base.index, m.base.term_, m.bytes.length, true, m.bytes.take k⟩
theorem piece_right {m : DImage} (hb : m.bytes.length ≤ 100000) {a : Nat} (h1 : a ≤ m.bytes.length) : rightL (pieceL m a) := by
  unfold rightL pieceL fillL askL
  refine ⟨rfl, by simp, by simp; omega, by simp, by simp; omega, ?_⟩
  simp
  omega
theorem take_more (l : List UInt8) (a k : Nat) (hak : a ≤ k) (hk : k ≤ l.length) : l.take k ++ ((l.drop a).take 600).drop (k - a) = l.take (max k (min (a + 600) l.length)) := by
  by_cases h : k ≤ a + 600
  · have e : ((l.drop a).take 600).drop (k - a) = (l.drop k).take (a + 600 - k) := by
      rw [List.drop_take, List.drop_drop]
      congr 1
      · omega
      · congr 1; omega
    rw [e, ← List.take_add]
    rw [List.take_eq_take_iff]
    omega
  · rw [List.drop_eq_nil_of_le (by simp; omega), List.append_nil, List.take_eq_take_iff]
    omega
/-- One more piece. -/
theorem take_piece {m : DImage} (hb : m.bytes.length ≤ 100000) {a k : Nat} (hak : a ≤ k) (hk : k ≤ m.bytes.length) (f : Fer) (hf : f = onWay m k ∨ (f = fer0 ∧ k = 0)) :
    takeM f (pieceL m a) = if max k (min (a + 600) m.bytes.length) < m.bytes.length then ((((max k (min (a + 600) m.bytes.length) : Nat) : Int), false, img0, ()), onWay m (max k (min (a + 600) m.bytes.length))) else ((((m.bytes.length : Nat) : Int), true, m, ()), fer0) := by
  have hr := piece_right hb (show a ≤ m.bytes.length by omega)
  have hc : crossC f (pieceL m a) = onWay m k := by
    rcases hf with rfl | ⟨rfl, rfl⟩
    · unfold crossC; rw [if_pos ⟨rfl, rfl, rfl, rfl, rfl⟩]
    · unfold crossC; rw [if_neg (by unfold sameC fer0; simp)]; show (⟨4, m.base.index, m.base.term_, (m.bytes.length : Int), true, []⟩ : Fer) = ⟨4, m.base.index, m.base.term_, (m.bytes.length : Int), true, m.bytes.take 0⟩; rw [List.take_zero]
  have hs : sameC f (pieceL m a) ∨ (pieceL m a).at_ = 0 := by
    rcases hf with rfl | ⟨rfl, rfl⟩
    · exact .inl ⟨rfl, rfl, rfl, rfl, rfl⟩
    · right; show ((a : Nat) : Int) = 0; omega
  have ht : layL (onWay m k) (pieceL m a) = onWay m (max k (min (a + 600) m.bytes.length)) := by
    unfold layL
    have hlen : (onWay m k).bs.length = k := by unfold onWay; simp; omega
    rw [if_pos (by rw [hlen]; show ((a : Nat) : Int) ≤ k; omega), hlen]
    unfold onWay
    congr 1
    show m.bytes.take k ++ ((m.bytes.drop (a : Int).toNat).take 600).drop (k - (a : Int).toNat) = _
    rw [Int.toNat_natCast]
    exact take_more _ _ _ hak hk
  have hM : takeM f (pieceL m a) = tailM (crossC f (pieceL m a)) (pieceL m a) := if_pos ⟨hr, hs⟩
  rw [hM, hc]
  unfold tailM
  rw [ht]
  have hl2 : (onWay m (max k (min (a + 600) m.bytes.length))).bs.length = max k (min (a + 600) m.bytes.length) := by unfold onWay; simp; omega
  dsimp only
  rw [hl2]
  by_cases hz : max k (min (a + 600) m.bytes.length) < m.bytes.length
  · rw [if_pos hz, if_pos (by show ((max k (min (a + 600) m.bytes.length) : Nat) : Int) < m.bytes.length; omega)]
  · rw [if_neg hz, if_neg (by show ¬ ((max k (min (a + 600) m.bytes.length) : Nat) : Int) < m.bytes.length; omega)]
    have e : max k (min (a + 600) m.bytes.length) = m.bytes.length := by omega
    have e2 : (onWay m (max k (min (a + 600) m.bytes.length))).bs = m.bytes := by unfold onWay; rw [e]; simp
    rw [e2, e]
    rfl
/-- A piece of another crossing. -/
theorem take_other {m : DImage} {a k : Nat} (ha : 0 < a) (f : Fer) (hf : f = onWay m k ∨ f = fer0) : takeM f { pieceL m a with term_ := 9 } = ((0, false, img0, ()), f) := by
  unfold takeM
  refine if_neg fun h => h.2.elim (fun h => ?_) fun h => ?_
  · rcases hf with rfl | rfl
    · exact absurd h.2.1 (by show ¬ (4 : Int) = 9; decide)
    · exact absurd h.1 (by simp [fer0])
  · have : ((a : Nat) : Int) = 0 := h
    omega
theorem few_nil : (⟨[], [], [], []⟩ : DConfig).few := by unfold DConfig.few; simp
theorem awake_p : watershedlaw13_awake = some (true, ()) := by
  have hl : (plainI 1000).bytes.length = 1000 := by simp [plainI]
  have hc : (plainI 1000).base.config.few := few_nil
  have e1 := ask_fill (m := plainI 1000) hc (by omega) (a := 0) (by omega) (by omega)
  have e2 := ask_fill (m := plainI 1000) hc (by omega) (a := 600) (by omega) (by omega)
  have t1 := take_piece (m := plainI 1000) (by omega) (a := 0) (k := 0) (by omega) (by omega) fer0 (.inr ⟨rfl, rfl⟩)
  have t2 := take_piece (m := plainI 1000) (by omega) (a := 600) (k := 600) (by omega) (by omega) (onWay (plainI 1000) 600) (.inl rfl)
  rw [hl, if_pos (by omega)] at t1
  rw [hl, if_neg (by omega)] at t2
  have q1 := Take_p (f := fer0) (x := pieceL (plainI 1000) (0 : Nat)) (by simp [fer0]) few_nil
  have q2 := Take_p (f := onWay (plainI 1000) 600) (x := pieceL (plainI 1000) (600 : Nat)) (by simp [onWay]; omega) few_nil
  rw [t1] at q1
  rw [t2] at q2
  have n1 : (max 0 (min (0 + 600) 1000)) = 600 := by omega
  rw [n1] at q1
  have pl := plain_p 1000 (by omega)
  unfold watershedlaw13_awake
  have pl' : watershedlaw13_plain 1000 = some (plainI 1000, ()) := pl
  rw [pl']
  simp only [Option.bind_some, asks_p, e1, e2, New_p]
  have q1' : ferry_Take (pieceL (plainI 1000) 0) fer0.tup = _ := q1
  have q2' : ferry_Take (pieceL (plainI 1000) 600) (onWay (plainI 1000) 600).tup = _ := q2
  simp only [Fer.tup] at q1' q2' ⊢
  rw [q1']
  simp only [Option.bind_some]
  rw [q2']
  have b1 : (pieceL (plainI 1000) 0).bytes.length = 600 := by simp [pieceL, fillL, askL, hl]
  have b2 : (pieceL (plainI 1000) 600).bytes.length = 400 := by simp [pieceL, fillL, askL, hl]
  simp only [Option.bind_some, b1, b2, imgSame hc (by omega : (plainI 1000).bytes.length ≤ 1000000)]
  rfl
end Go.Proofs.Ytlaehnldaejipaa
