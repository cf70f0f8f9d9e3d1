/- FrameEnds, plainly. -/
import Derived.Test.YtklmbkkeiihgdaaG2
namespace Go.Proofs.Ytklmbkkeiihgdaa
open Go.RowKit
set_option maxRecDepth 100000
set_option linter.unusedVariables false
set_option linter.unusedSimpArgs false
theorem number_p {b : List UInt8} {at_ : Int} {k : Nat} (h : k + 4 ≤ b.length) : numberT (k : Int) ⟨⟨b⟩, at_⟩ = some ((num b k : Int), (⟨⟨b⟩, at_⟩, ())) := by
  unfold numberT
  exact iteT ⟨by omega, by dsimp only; omega⟩ rfl
theorem next_p {b : List UInt8} {at_ : Nat} (hb : b.length ≤ 1000000000) (ha : at_ ≤ 1000000000) : frame_next ⟨⟨b⟩, at_⟩ = some (match nextFr b with
    | none => ((⟨0, []⟩, false, ()), (⟨⟨b⟩, at_⟩, ()))
    | some f => ((toD f, true, ()), (⟨⟨b.drop (9 + f.2.length)⟩, ((at_ + 9 + f.2.length : Nat) : Int)⟩, ()))) := by
  unfold frame_next
  by_cases h9 : b.length < 9
  · have : nextFr b = none := by unfold nextFr; rw [if_pos h9]
    rw [this]
    exact condT (dT (by dsimp only; omega)) rfl
  have hn := num_lt b 0
  have hw : IntKind.i64.wrap (num b 0 : Int) = (num b 0 : Int) := w64 (by omega)
  refine condF (dF (by dsimp only; omega)) (bindS (number_p (k := 0) (by omega)) ?_)
  dsimp only
  rw [hw]
  by_cases h1 : 262144 < num b 0
  · have : nextFr b = none := by unfold nextFr; rw [if_neg h9, if_pos (.inl h1)]
    rw [this]
    exact condT (dT (by omega)) rfl
  refine condF (dF (by omega)) ?_
  rw [w64 (n := (b.length : Int) - 9) (by omega)]
  by_cases h2 : b.length - 9 < num b 0
  · have : nextFr b = none := by unfold nextFr; rw [if_neg h9, if_pos (.inr h2)]
    rw [this]
    exact condT (dT (by omega)) rfl
  refine condF (dF (by omega)) (bindS (getI_lt (i := 4) (by omega)) ?_)
  rw [w64 (n := 9 + (num b 0 : Int)) (by omega)]
  have hy : (b.drop ((9 : Int)).toNat).take ((9 + (num b 0 : Int)).toNat - ((9 : Int)).toNat) = (b.drop 9).take (num b 0) := by
    rw [show ((9 + (num b 0 : Int))).toNat - ((9 : Int)).toNat = num b 0 from by omega]
    rfl
  have hyl : ((b.drop 9).take (num b 0)).length = num b 0 := by rw [List.length_take, List.length_drop]; omega
  have hz : (b.drop (((0 : Int) : Int)).toNat).take ((5 : Int).toNat - (((0 : Int) : Int)).toNat) = b.take 5 := rfl
  refine iteT (by omega) ?_
  rw [hy]
  refine bindS (v := ((b.drop 9).take (num b 0), ((), ()))) (by unfold clone37; exact iteT (by omega) rfl) (iteT (by omega) ?_)
  rw [hz]
  refine bindS (number_p (k := 5) (by omega)) ?_
  have hs : sumT_a (0, 2, 2) [b.take 5, (b.drop 9).take (num b 0)] = some (((Crc.more 0#32 (b.take 5 ++ (b.drop 9).take (num b 0))).toNat : Int), ([b.take 5, (b.drop 9).take (num b 0)], ())) := by
    unfold sumT_a sumT
    refine iteT (by simp) ?_
    rw [if_pos trivial]
    have : ((([b.take 5, (b.drop 9).take (num b 0)] : List (List UInt8)).drop 0).take 2).flatten = b.take 5 ++ (b.drop 9).take (num b 0) := by simp
    dsimp only
    rw [this]
    rfl
  refine bindS hs ?_
  dsimp only
  by_cases h3 : num b 5 = (Crc.more 0#32 (b.take 5 ++ (b.drop 9).take (num b 0))).toNat
  · have hf : nextFr b = some (((b.getD 4 0).toNat : Int), (b.drop 9).take (num b 0)) := by
      unfold nextFr
      rw [if_neg h9, if_neg (by omega), if_pos h3]
    rw [hf]
    refine condF (dF (by omega)) (iteT (by omega) ?_)
    have hd : (b.drop ((9 + (num b 0 : Int))).toNat).take ((b.length : Int).toNat - ((9 + (num b 0 : Int))).toNat) = b.drop (9 + num b 0) := by
      rw [show ((9 + (num b 0 : Int))).toNat = 9 + num b 0 from by omega, Int.toNat_natCast]
      exact List.take_of_length_le (by rw [List.length_drop]; exact Nat.le_refl _)
    rw [hd]
    have hk : IntKind.i64.wrap ((b[4]'(by omega)).toNat : Int) = ((b.getD 4 0).toNat : Int) := by
      have := (b[4]'(by omega)).toNat_lt
      rw [w64 (by omega)]
      simp [List.getD_eq_getElem?_getD, List.getElem?_eq_getElem (show 4 < b.length by omega)]
    rw [hk, w64 (n := (at_ : Int) + 9) (by omega), w64 (by omega)]
    dsimp only
    rw [hyl]
    rw [show ((at_ + 9 + num b 0 : Nat) : Int) = (at_ : Int) + 9 + (num b 0 : Int) from by omega]
  · have hf : nextFr b = none := by
      unfold nextFr
      rw [if_neg h9, if_neg (by omega), if_neg h3]
    rw [hf]
    exact condT (dT (by omega)) rfl
theorem Get_p {b : List UInt8} (hb : b.length ≤ 1000000000) : frame_Get b = some (((getAll b).1.map toD, ((getAll b).2 : Int), ()), ((), ())) := by
  have key : ∃ z, loopM frame_Get_l1 (([], (), ()), ((⟨(⟨b⟩ : DRest), 0⟩ : DReader), (), ())) = some z ∧ z.1.1 = (getAll b).1.map toD ∧ z.1.2.1 = ((getAll b).2 : Int) := by
    refine loopM_spec (fun n a => ∃ (out : List DFrame) (r : List UInt8) (at_ : Nat), a = ((out, (), ()), ((⟨(⟨r⟩ : DRest), (at_ : Int)⟩ : DReader), (), ())) ∧ out ++ (getAll r).1.map toD = (getAll b).1.map toD ∧ at_ + (getAll r).2 = (getAll b).2 ∧ at_ + r.length ≤ b.length ∧ out.length ≤ at_ ∧ n = r.length) _ ?_ (n := b.length) ⟨[], b, 0, rfl, by simp, by simp, by simp, Nat.le_refl _, rfl⟩
    rintro n a ⟨out, r, at_, rfl, h1, h2, h3, h4, rfl⟩
    unfold frame_Get_l1
    have hnx := next_p (b := r) (at_ := at_) (by omega) (by omega)
    cases hf : nextFr r with
    | none =>
      right
      rw [hf] at hnx
      rw [getAll_none hf] at h1 h2
      exact ⟨_, bindS hnx (condT rfl rfl), by simpa using h1, by dsimp only; simp only [Nat.add_zero] at h2; rw [h2]⟩
    | some f =>
      left
      rw [hf] at hnx
      have hl := nextFr_len hf
      rw [getAll_some hf] at h1 h2
      refine ⟨(r.drop (9 + f.2.length)).length, _, by rw [List.length_drop]; omega, bindS hnx (condF rfl (iteT (by simp only [List.length_singleton]; omega) rfl)), out ++ [toD f], r.drop (9 + f.2.length), at_ + 9 + f.2.length, rfl, ?_, ?_, ?_, ?_, rfl⟩
      · rw [← h1]; simp
      · dsimp only at h2; omega
      · rw [List.length_drop]; omega
      · rw [List.length_append, List.length_singleton]; omega
  obtain ⟨z, hz, z1, z2⟩ := key
  unfold frame_Get
  refine bindS hz ?_
  rw [z1, z2]
theorem ft_p (y : List UInt8) (h : y.length ≤ 100000) : frameTells [] y = some (true, ()) := by
  unfold frameTells
  rw [if_pos ⟨by simp, by simp, by omega⟩]
theorem ftz_p (y : List UInt8) (n : Nat) (h : y.length ≤ 100000) (hn : n = y.length) : frameTells_z [] n y = some (true, (y, ())) := by
  subst hn
  unfold frameTells_z
  rw [if_pos (by omega), List.drop_zero, List.take_length, ft_p y h]
  rfl
theorem putSame (l : List DFrame) (hl : l.length ≤ 100) (hc : (codes (l.map fr)).length ≤ 10000000) : ∃ (o : List UInt8) (e : Int), frame_Put l = some ((o, e, ()), ((), ())) ∧ watershedref03_Put (l.map t2) = some ((o, e, ()), ((), ())) ∧ o.length ≤ 10000000 := by
  have h1 := Put_p l (by omega) hc
  have h2 := rPut_p (l.map t2) (by rw [List.length_map]; omega) (by rw [map_fr2]; exact hc)
  rw [map_fr2] at h2
  cases h : putErr (l.map fr) with
  | some e => rw [h] at h1 h2; exact ⟨[], e, h1, h2, by simp⟩
  | none => rw [h] at h1 h2; exact ⟨_, 0, h1, h2, hc⟩
theorem ends_l2 (L : List UInt8) (hL : L.length = 262145) (ks : List Int) (i : Nat) (hi : i < ks.length) : loopM watershedlaw03_FrameEnds_l2 ((ks, L, (i : Int), 0, ()), ((), ())) = some (.inr ((ks, L, (i : Int), ()), ((), (), ()))) := by
  refine loopM_run (step := watershedlaw03_FrameEnds_l2) (fun k : Nat => ((ks, L, (i : Int), (k : Int), ()), ((), ()))) (N := 2) (fun k hk => ?_) ?_
  · unfold watershedlaw03_FrameEnds_l2
    have hw : IntKind.i64.wrap (262144 + (k : Int)) = ((262144 + k : Nat) : Int) := by rw [w64 (by omega)]; omega
    refine condT (dT (by dsimp only; omega)) (bindS (getI_lt hi) ?_)
    dsimp only
    rw [hw]
    refine iteT (by omega) ?_
    have hy : (L.drop ((0 : Int) : Int).toNat).take (((262144 + k : Nat) : Int).toNat - ((0 : Int) : Int).toNat) = L.take (262144 + k) := by
      rw [Int.toNat_zero, List.drop_zero, Int.toNat_natCast, Nat.sub_zero]
    rw [hy]
    have hyl : (L.take (262144 + k)).length = 262144 + k := by rw [List.length_take]; omega
    generalize L.take (262144 + k) = y at hyl
    refine bindS (v := 1) (b8_p (by omega)) (bindS (v := 2) (b8_p (by omega)) ?_)
    have hc : (codes (([⟨3, [1, 2]⟩, ⟨ks[i], y⟩] : List DFrame).map fr)).length ≤ 10000000 := by
      rw [codes_dsum]
      simp [dsum]
      omega
    obtain ⟨o, e, h1, h2, h3⟩ := putSame [⟨3, [1, 2]⟩, ⟨ks[i], y⟩] (by simp) hc
    refine bindS h1 (bindS (turned_p (by simp)) (bindS h2 (condF (dF (by simp)) (bindS (SameBytes_p o o (by omega)) (condF (by simp) ?_)))))
    rw [w64 (by omega)]
    rfl
  · unfold watershedlaw03_FrameEnds_l2
    exact condF (dF (by dsimp only; omega)) rfl
theorem ends_l1 (L : List UInt8) (hL : L.length = 262145) (ks : List Int) (hk : ks.length ≤ 100) : loopM watershedlaw03_FrameEnds_l1 ((ks, L, 0, ()), ((), ())) = some (.inr ((L, ()), ((), ()))) := by
  refine loopM_run (step := watershedlaw03_FrameEnds_l1) (fun k : Nat => ((ks, L, (k : Int), ()), ((), ()))) (N := ks.length) (fun k hk2 => ?_) ?_
  · unfold watershedlaw03_FrameEnds_l1
    refine condT (dT (by dsimp only; omega)) (bindS (ends_l2 L hL ks k hk2) ?_)
    dsimp only
    rw [w64 (by omega)]
    rfl
  · unfold watershedlaw03_FrameEnds_l1
    exact condF (dF (by dsimp only; omega)) rfl
theorem ends_l4 (L b : List UInt8) (hb : b.length ≤ 1000) (i : Nat) (hi : i ≤ b.length) : loopM watershedlaw03_FrameEnds_l4 ((L, b, (i : Int), 0, ()), ((), ())) = some (.inr ((L, b, (i : Int), ()), ((), (), ()))) := by
  by_cases hlt : i < b.length
  · refine loopM_run (step := watershedlaw03_FrameEnds_l4) (fun k : Nat => ((L, b, (i : Int), (k : Int), ()), ((), ()))) (N := 256) (fun k hk => ?_) ?_
    · unfold watershedlaw03_FrameEnds_l4
      refine condT (dT (by dsimp only; omega)) (condT (dT (by dsimp only; omega)) (iteT (by dsimp only; simp only [List.length_nil]; omega) ?_))
      rw [if_neg (by dsimp only; omega)]
      refine iteT (by dsimp only; omega) ?_
      dsimp only
      rw [List.drop_zero, List.take_zero, List.nil_append, Int.toNat_natCast, Nat.zero_add]
      refine bindS (v := b[i]) (List.getElem?_eq_getElem hlt) (bindS (b8_lo k) ?_)
      refine bindS (ftz_p _ _ (by rw [List.length_set]; omega) (by rw [List.length_set]; omega)) (condF rfl ?_)
      rw [w64 (by omega)]
      rfl
    · unfold watershedlaw03_FrameEnds_l4
      exact condF (dF (by dsimp only; omega)) rfl
  · refine loopM_run (step := watershedlaw03_FrameEnds_l4) (fun k : Nat => ((L, b, (i : Int), (k : Int), ()), ((), ()))) (N := 0) (fun k hk => absurd hk (Nat.not_lt_zero _)) ?_
    unfold watershedlaw03_FrameEnds_l4
    exact condT (dT (by dsimp only; omega)) (condF (dF (by dsimp only; omega)) rfl)
theorem ends_l3 (L b : List UInt8) (hb : b.length ≤ 1000) : loopM watershedlaw03_FrameEnds_l3 ((L, b, 0, ()), ((), ())) = some (.inr ((L, ()), ((), ()))) := by
  refine loopM_run (step := watershedlaw03_FrameEnds_l3) (fun k : Nat => ((L, b, (k : Int), ()), ((), ()))) (N := b.length + 1) (fun i hi => ?_) ?_
  · unfold watershedlaw03_FrameEnds_l3
    refine condT (dT (by dsimp only; omega)) (iteT (by dsimp only; omega) ?_)
    dsimp only
    refine bindS (ft_p _ (by rw [List.length_take, List.length_drop]; omega)) (condF rfl (iteT (by omega) ?_))
    refine iteT (by simp only [List.length_nil, List.length_take, List.length_drop]; omega) (iteT (by simp only [List.nil_append, List.length_take, List.length_drop]; omega) ?_)
    refine bindS (ft_p _ (by simp only [List.nil_append, List.length_append, List.length_take, List.length_drop]; omega)) (condF rfl (bindS (ends_l4 L b hb i (by omega)) ?_))
    dsimp only
    rw [w64 (by omega)]
    rfl
  · unfold watershedlaw03_FrameEnds_l3
    exact condF (dF (by dsimp only; omega)) rfl
theorem getAll_nil : getAll [] = ([], 0) := rfl
theorem ends_c (L : List UInt8) (hL : L.length = 262145) : ((watershedref03_Put ([(⟨0, L.take 262144⟩ : DFrame2)] : List (DFrame2))).bind fun r14 =>
  (refOne (⟨0, L⟩ : DFrame2)).bind fun r15 =>
  (frame_Get r14.1.1).bind fun r16 =>
  (frame_Get r15.1).bind fun r17 =>
  (bif (decide (((r16.1.1.length : Int) : Int) = 1)) then
  (bif (decide ((r16.1.2.1 : Int) = 262153)) then
  (bif (decide (((r17.1.1.length : Int) : Int) = 0)) then
  (bif (decide ((r17.1.2.1 : Int) = 0)) then
  (watershedlaw03_awake).bind fun r18 =>
  some (r18.1, ())
  else
  some (false, ()))
  else
  some (false, ()))
  else
  some (false, ()))
  else
  some (false, ()))) = some (true, ()) := by
  have hyl : (L.take 262144).length = 262144 := by rw [List.length_take]; omega
  generalize L.take 262144 = y at hyl
  have hok : okFr (0, y) := ⟨by dsimp only; omega, by dsimp only; omega, by dsimp only; omega⟩
  have hcl := code_length (0, y)
  have hco := code_length (0, L)
  dsimp only at hcl hco
  have hcs : codes [((0, y) : Fr)] = code (0, y) := by simp [codes]
  have hrp := rPut_p [⟨0, y⟩] (by simp) (by show (codes [((0, y) : Fr)]).length ≤ _; rw [hcs]; omega)
  have he2 : putErr (([⟨0, y⟩] : List DFrame2).map fr2) = none := putErr_ok.2 (fun f hf => by
    have : f = (0, y) := by simpa using hf
    subst this
    exact hok)
  rw [he2] at hrp
  refine bindS hrp (bindS (v := (code (0, L), ((), ()))) (by unfold refOne; exact iteT (by dsimp only; omega) rfl) ?_)
  have hw1 : getAll (codes [((0, y) : Fr)]) = ([(0, y)], 262153) := by
    have := getAll_codes [((0, y) : Fr)] (fun f hf => by rw [List.mem_singleton.1 hf]; exact hok) []
    rw [List.append_nil, getAll_nil, hcs] at this
    rw [hcs, this, hcl, hyl]
    rfl
  have hw2 : getAll (code (0, L)) = ([], 0) := by
    refine getAll_none ?_
    have hn : num (code (0, L)) 0 = L.length := by
      unfold num
      rw [List.drop_zero]
      unfold code hd
      rw [List.append_assoc, num_le4 (by dsimp only; omega)]
    unfold nextFr
    rw [if_neg (by omega), if_pos (.inl (by omega))]
  have hg1 := Get_p (b := codes [((0, y) : Fr)]) (by rw [hcs]; omega)
  have hg2 := Get_p (b := code (0, L)) (by omega)
  rw [hw1] at hg1
  rw [hw2] at hg2
  refine bindS hg1 (bindS hg2 ?_)
  exact condT (dT (by simp)) (condT (dT rfl) (condT (dT (by simp)) (condT (dT rfl) (bindS awake_p rfl))))
theorem FrameEnds_p : watershedlaw03_FrameEnds = some (true, ()) := by
  unfold watershedlaw03_FrameEnds
  generalize hLL : List.replicate (262145 : Int).toNat (0 : UInt8) = L
  have hL : L.length = 262145 := by rw [← hLL, List.length_replicate]; rfl
  clear hLL
  refine bindS awake_p (condF rfl (iteT (by omega) (bindS (ends_l1 L hL _ (by simp)) ?_)))
  refine bindS (v := 5) (b8_p (by omega)) (bindS (v := 0) (b8_p (by omega)) (bindS (v := 7) (b8_p (by omega)) (bindS (v := 0) (b8_p (by omega)) ?_)))
  have hput := Put_p [⟨1, [5, 0, 7]⟩, ⟨255, []⟩, ⟨0, [0]⟩] (by simp) (by rw [codes_dsum]; simp [dsum])
  have he : putErr (([⟨1, [5, 0, 7]⟩, ⟨255, []⟩, ⟨0, [0]⟩] : List DFrame).map fr) = none := by decide
  rw [he] at hput
  have hbl : (codes (([⟨1, [5, 0, 7]⟩, ⟨255, []⟩, ⟨0, [0]⟩] : List DFrame).map fr)).length ≤ 1000 := by rw [codes_dsum]; simp [dsum]
  refine bindS hput (bindS (ends_l3 L _ hbl) ?_)
  dsimp only
  refine iteT (by omega) ?_
  rw [show (L.drop ((0 : Int) : Int).toNat).take ((262144 : Int).toNat - ((0 : Int) : Int).toNat) = L.take 262144 from by rw [Int.toNat_zero, List.drop_zero, Nat.sub_zero]; rfl]
  exact ends_c L hL
end Go.Proofs.Ytklmbkkeiihgdaa
