/- Frames: reading them, plainly; what the laws begin with. -/
import Derived.Test.YtklmbkkeiihgdaaFra
namespace Go.Proofs.Ytklmbkkeiihgdaa
open Go.RowKit
set_option maxRecDepth 100000
set_option linter.unusedVariables false
set_option linter.unusedSimpArgs false
abbrev toD (f : Fr) : DFrame := ⟨f.1, f.2⟩
theorem number_p {b : List UInt8} {at_ : Int} {k : Nat} (h : k + 4 ≤ b.length) : numberT (k : Int) ⟨⟨b⟩, at_⟩ = some ((num b k : Int), (⟨⟨b⟩, at_⟩, ())) := by
  unfold numberT
  exact iteT ⟨by omega, by dsimp only; omega⟩ rfl
theorem next_p {b : List UInt8} {at_ : Nat} (hb : b.length ≤ 1000000000) (ha : at_ ≤ 1000000000) : frame_next ⟨⟨b⟩, at_⟩ = some (match nextFr b with
    | none => ((⟨0, []⟩, false, ()), (⟨⟨b⟩, at_⟩, ()))
    | some f => ((toD f, true, ()), (⟨⟨b.drop (9 + f.2.length)⟩, ((at_ + 9 + f.2.length : Nat) : Int)⟩, ()))) := by
  unfold frame_next
  by_cases h9 : b.length < 9
  · have : nextFr b = none := by unfold nextFr; rw [if_pos h9]
    rw [this]
    exact condT (dT (by dsimp only; omega)) rfl
  have hn := num_lt b 0
  have hw : IntKind.i64.wrap (num b 0 : Int) = (num b 0 : Int) := w64 (by omega)
  refine condF (dF (by dsimp only; omega)) (bindS (number_p (k := 0) (by omega)) ?_)
  dsimp only
  rw [hw]
  by_cases h1 : 262144 < num b 0
  · have : nextFr b = none := by unfold nextFr; rw [if_neg h9, if_pos (.inl h1)]
    rw [this]
    exact condT (dT (by omega)) rfl
  refine condF (dF (by omega)) ?_
  rw [w64 (n := (b.length : Int) - 9) (by omega)]
  by_cases h2 : b.length - 9 < num b 0
  · have : nextFr b = none := by unfold nextFr; rw [if_neg h9, if_pos (.inr h2)]
    rw [this]
    exact condT (dT (by omega)) rfl
  refine condF (dF (by omega)) (bindS (getI_lt (i := 4) (by omega)) ?_)
  rw [w64 (n := 9 + (num b 0 : Int)) (by omega)]
  have hy : (b.drop ((9 : Int)).toNat).take ((9 + (num b 0 : Int)).toNat - ((9 : Int)).toNat) = (b.drop 9).take (num b 0) := by
    rw [show ((9 + (num b 0 : Int))).toNat - ((9 : Int)).toNat = num b 0 from by omega]
    rfl
  have hyl : ((b.drop 9).take (num b 0)).length = num b 0 := by rw [List.length_take, List.length_drop]; omega
  have hz : (b.drop (((0 : Int) : Int)).toNat).take ((5 : Int).toNat - (((0 : Int) : Int)).toNat) = b.take 5 := rfl
  refine iteT (by omega) ?_
  rw [hy]
  refine bindS (v := ((b.drop 9).take (num b 0), ((), ()))) (by unfold clone37; exact iteT (by omega) rfl) (iteT (by omega) ?_)
  rw [hz]
  refine bindS (number_p (k := 5) (by omega)) ?_
  have hs : sumT_a (0, 2, 2) [b.take 5, (b.drop 9).take (num b 0)] = some (((Crc.more 0#32 (b.take 5 ++ (b.drop 9).take (num b 0))).toNat : Int), ([b.take 5, (b.drop 9).take (num b 0)], ())) := by
    unfold sumT_a sumT
    refine iteT (by simp) ?_
    rw [if_pos trivial]
    have : ((([b.take 5, (b.drop 9).take (num b 0)] : List (List UInt8)).drop 0).take 2).flatten = b.take 5 ++ (b.drop 9).take (num b 0) := by simp
    dsimp only
    rw [this]
    rfl
  refine bindS hs ?_
  dsimp only
  by_cases h3 : num b 5 = (Crc.more 0#32 (b.take 5 ++ (b.drop 9).take (num b 0))).toNat
  · have hf : nextFr b = some (((b.getD 4 0).toNat : Int), (b.drop 9).take (num b 0)) := by
      unfold nextFr
      rw [if_neg h9, if_neg (by omega), if_pos h3]
    rw [hf]
    refine condF (dF (by omega)) (iteT (by omega) ?_)
    have hd : (b.drop ((9 + (num b 0 : Int))).toNat).take ((b.length : Int).toNat - ((9 + (num b 0 : Int))).toNat) = b.drop (9 + num b 0) := by
      rw [show ((9 + (num b 0 : Int))).toNat = 9 + num b 0 from by omega, Int.toNat_natCast]
      exact List.take_of_length_le (by rw [List.length_drop]; exact Nat.le_refl _)
    rw [hd]
    have hk : IntKind.i64.wrap ((b[4]'(by omega)).toNat : Int) = ((b.getD 4 0).toNat : Int) := by
      have := (b[4]'(by omega)).toNat_lt
      rw [w64 (by omega)]
      simp [List.getD_eq_getElem?_getD, List.getElem?_eq_getElem (show 4 < b.length by omega)]
    rw [hk, w64 (n := (at_ : Int) + 9) (by omega), w64 (by omega)]
    dsimp only
    rw [hyl]
    rw [show ((at_ + 9 + num b 0 : Nat) : Int) = (at_ : Int) + 9 + (num b 0 : Int) from by omega]
  · have hf : nextFr b = none := by
      unfold nextFr
      rw [if_neg h9, if_neg (by omega), if_neg h3]
    rw [hf]
    exact condT (dT (by omega)) rfl
theorem Get_p {b : List UInt8} (hb : b.length ≤ 1000000000) : frame_Get b = some (((getAll b).1.map toD, ((getAll b).2 : Int), ()), ((), ())) := by
  have key : ∃ z, loopM frame_Get_l1 (([], (), ()), ((⟨(⟨b⟩ : DRest), 0⟩ : DReader), (), ())) = some z ∧ z.1.1 = (getAll b).1.map toD ∧ z.1.2.1 = ((getAll b).2 : Int) := by
    refine loopM_spec (fun n a => ∃ (out : List DFrame) (r : List UInt8) (at_ : Nat), a = ((out, (), ()), ((⟨(⟨r⟩ : DRest), (at_ : Int)⟩ : DReader), (), ())) ∧ out ++ (getAll r).1.map toD = (getAll b).1.map toD ∧ at_ + (getAll r).2 = (getAll b).2 ∧ at_ + r.length ≤ b.length ∧ out.length ≤ at_ ∧ n = r.length) _ ?_ (n := b.length) ⟨[], b, 0, rfl, by simp, by simp, by simp, Nat.le_refl _, rfl⟩
    rintro n a ⟨out, r, at_, rfl, h1, h2, h3, h4, rfl⟩
    unfold frame_Get_l1
    have hnx := next_p (b := r) (at_ := at_) (by omega) (by omega)
    cases hf : nextFr r with
    | none =>
      right
      rw [hf] at hnx
      rw [getAll_none hf] at h1 h2
      exact ⟨_, bindS hnx (condT rfl rfl), by simpa using h1, by dsimp only; simp only [Nat.add_zero] at h2; rw [h2]⟩
    | some f =>
      left
      rw [hf] at hnx
      have hl := nextFr_len hf
      rw [getAll_some hf] at h1 h2
      refine ⟨(r.drop (9 + f.2.length)).length, _, by rw [List.length_drop]; omega, bindS hnx (condF rfl (iteT (by simp only [List.length_singleton]; omega) rfl)), out ++ [toD f], r.drop (9 + f.2.length), at_ + 9 + f.2.length, rfl, ?_, ?_, ?_, ?_, rfl⟩
      · rw [← h1]; simp
      · dsimp only at h2; omega
      · rw [List.length_drop]; omega
      · rw [List.length_append, List.length_singleton]; omega
  obtain ⟨z, hz, z1, z2⟩ := key
  unfold frame_Get
  refine bindS hz ?_
  rw [z1, z2]
theorem SameBytes_p (a b : List UInt8) (ha : a.length ≤ 140737488355328) : watershedkit_SameBytes a b = some (decide (a = b), ()) := by
  unfold watershedkit_SameBytes
  by_cases hl : a.length = b.length
  · refine condF (dF (by omega)) ?_
    refine bindS (same_loop (step := watershedkit_SameBytes_l1) a b (fun i => ((a, b, i, ()), ())) (.inl ((false, ()), ())) (.inr ((), ())) hl ha (fun i hi hj => ⟨fun he => ?_, fun he => ?_⟩) ?_) ?_
    · unfold watershedkit_SameBytes_l1
      refine condT (dT (by dsimp only; omega)) (bindS (getI_lt hi) (bindS (getI_lt hj) (condF (dF (by rw [he]; simp)) ?_)))
      dsimp only
      rw [w64 (by omega)]
      rfl
    · unfold watershedkit_SameBytes_l1
      refine condT (dT (by dsimp only; omega)) (bindS (getI_lt hi) (bindS (getI_lt hj) (condT (dT ?_) rfl)))
      intro h
      exact he (UInt8.toNat_inj.1 (by omega))
    · unfold watershedkit_SameBytes_l1
      exact condF (dF (by dsimp only; omega)) rfl
    · by_cases he : a = b
      · rw [if_pos he, decide_eq_true he]
      · rw [if_neg he, decide_eq_false he]
  · refine condT (dT (by omega)) ?_
    rw [decide_eq_false (fun e => hl (by rw [e]))]
theorem equal_p (a b : List DFrame) (ha : a.length ≤ 140737488355328) (hd : ∀ f ∈ a, f.data.length ≤ 140737488355328) : watershedlaw03_equal a b = some (decide (a = b), ()) := by
  unfold watershedlaw03_equal
  by_cases hl : a.length = b.length
  · refine condF (dF (by omega)) ?_
    refine bindS (same_loop (step := watershedlaw03_equal_l1) a b (fun i => ((a, b, i, ()), ())) (.inl ((false, ()), ())) (.inr ((), ())) hl ha (fun i hi hj => ⟨fun he => ?_, fun he => ?_⟩) ?_) ?_
    · unfold watershedlaw03_equal_l1
      refine condT (dT (by dsimp only; omega)) (bindS (getI_lt hi) (bindS (getI_lt hj) (condF (dF (by rw [he]; simp)) (bindS (getI_lt hi) (bindS (getI_lt hj) (bindS (SameBytes_p _ _ (hd _ (List.getElem_mem hi))) (condF (by rw [he]; simp) ?_)))))))
      dsimp only
      rw [w64 (by omega)]
      rfl
    · unfold watershedlaw03_equal_l1
      refine condT (dT (by dsimp only; omega)) (bindS (getI_lt hi) (bindS (getI_lt hj) ?_))
      by_cases hk : a[i].kind = b[i].kind
      · refine condF (dF (fun c => c hk)) (bindS (getI_lt hi) (bindS (getI_lt hj) (bindS (SameBytes_p _ _ (hd _ (List.getElem_mem hi))) (condT ?_ rfl))))
        rw [Bool.not_eq_true', decide_eq_false_iff_not]
        intro h
        apply he
        cases h1 : a[i]
        cases h2 : b[i]
        rw [h1, h2] at hk h
        dsimp only at hk h
        rw [hk, h]
      · exact condT (dT hk) rfl
    · unfold watershedlaw03_equal_l1
      exact condF (dF (by dsimp only; omega)) rfl
    · by_cases he : a = b
      · rw [if_pos he, decide_eq_true he]
      · rw [if_neg he, decide_eq_false he]
  · refine condT (dT (by omega)) ?_
    rw [decide_eq_false (fun e => hl (by rw [e]))]
/-- How many bytes of data. -/
def dsum (l : List DFrame) : Nat := (l.map (·.data.length)).sum
theorem dsum_snoc (l : List DFrame) (f : DFrame) : dsum (l ++ [f]) = dsum l + f.data.length := by simp [dsum]
theorem codes_dsum : ∀ l : List DFrame, (codes (l.map fr)).length = 9 * l.length + dsum l
  | [] => rfl
  | f :: l => by
    rw [List.map_cons, codes_cons, List.length_append, code_length, codes_dsum l]
    simp only [dsum, List.map_cons, List.sum_cons, List.length_cons]
    omega
theorem dsum_mem {f : DFrame} : ∀ {l : List DFrame}, f ∈ l → f.data.length ≤ dsum l
  | g :: l, h => by
    have : dsum (g :: l) = g.data.length + dsum l := by simp [dsum]
    rcases List.mem_cons.1 h with rfl | h
    · omega
    · have := dsum_mem h; omega
theorem great_p {l : List DFrame} (h : l.length ≤ 140737488355328) (hd : ∀ f ∈ l, f.data.length ≤ 140737488355328) : ∃ r, watershedlaw03_great l = some (r, ()) ∧ (r = false → l.length + dsum l ≤ 8000) := by
  have key : ∃ z, loopM watershedlaw03_great_l1 ((l, (l.length : Int), 0, ()), ()) = some z ∧ ∃ n : Int, z = ((n, ()), ()) ∧ (n ≤ 8000 → l.length + dsum l ≤ 8000) := by
    refine loopM_spec (fun k a => ∃ i : Nat, a = ((l, ((l.length + dsum (l.take i) : Nat) : Int), (i : Int), ()), ()) ∧ i ≤ l.length ∧ l.length + dsum (l.take i) ≤ 1000000000000000 ∧ k = l.length - i) _ ?_ (n := l.length) ⟨0, by simp [dsum], Nat.zero_le _, by simp [dsum]; omega, rfl⟩
    rintro k a ⟨i, rfl, h1, h2, rfl⟩
    unfold watershedlaw03_great_l1
    by_cases hi : i < l.length
    · by_cases hn : l.length + dsum (l.take i) ≤ 8000
      · left
        have hds := hd _ (List.getElem_mem hi)
        have hsn : dsum (l.take (i + 1)) = dsum (l.take i) + l[i].data.length := by rw [List.take_succ_eq_append_getElem hi, dsum_snoc]
        refine ⟨l.length - (i + 1), _, by omega, condT (dT (by dsimp only; omega)) (condT (dT (by dsimp only; omega)) (bindS (getI_lt hi) rfl)), i + 1, ?_, by omega, by omega, rfl⟩
        dsimp only
        rw [w64 (by omega), w64 (by omega), hsn]
        rw [show ((l.length + dsum (l.take i) : Nat) : Int) + (l[i].data.length : Int) = ((l.length + (dsum (l.take i) + l[i].data.length) : Nat) : Int) from by omega]
        rfl
      · right
        refine ⟨_, condT (dT (by dsimp only; omega)) (condF (dF (by dsimp only; omega)) rfl), _, rfl, fun h => ?_⟩
        dsimp only at h
        omega
    · right
      obtain rfl : i = l.length := by omega
      refine ⟨_, condF (dF (by dsimp only; omega)) rfl, _, rfl, fun h => ?_⟩
      dsimp only at h
      rw [List.take_length] at h
      omega
  obtain ⟨z, hz, n, rfl, hn⟩ := key
  refine ⟨decide ((8000 : Int) < n), ?_, fun h => hn (by have := of_decide_eq_false h; omega)⟩
  unfold watershedlaw03_great
  exact bindS hz rfl
theorem awake_p : watershedlaw03_awake = some (true, ()) := by
  have hput := Put_p [⟨7, []⟩] (by simp) (by rw [codes_dsum]; simp [dsum])
  have he : putErr ([(⟨7, []⟩ : DFrame)].map fr) = none := by decide
  rw [he] at hput
  dsimp only at hput
  have hs : sumT [[0, 0, 0, 0, 7]] = some ((crcOf (7, []) : Int), ()) := by
    unfold sumT
    rw [if_pos trivial]
    rfl
  have hc0 : crcOf (7, []) ≠ 0 := by decide +kernel
  have hsame : codes ([(⟨7, []⟩ : DFrame)].map fr) = [0, 0, 0, 0, 7, UInt8.ofNat (crcOf (7, [])), UInt8.ofNat (crcOf (7, []) / 2 ^ 8), UInt8.ofNat (crcOf (7, []) / 2 ^ 16), UInt8.ofNat (crcOf (7, []) / 2 ^ 24)] := rfl
  unfold watershedlaw03_awake
  refine bindS hput (bindS (v := 0) (b8_p (by omega)) (bindS (v := 0) (b8_p (by omega)) (bindS (v := 0) (b8_p (by omega)) (bindS (v := 0) (b8_p (by omega)) (bindS (v := 7) (b8_p (by omega)) (bindS hs (condT rfl (condT (dT (by dsimp only; omega)) ?_))))))))
  refine bindS (v := 0) (b8_p (by omega)) (bindS (v := 0) (b8_p (by omega)) (bindS (v := 0) (b8_p (by omega)) (bindS (v := 0) (b8_p (by omega)) (bindS (v := 7) (b8_p (by omega)) (bindS (b8_lo _) (bindS (b8_sh _ 8) (bindS (b8_sh _ 16) (bindS (b8_sh _ 24) (bindS (SameBytes_p _ _ ?_) ?_)))))))))
  · rw [hsame]; simp
  · dsimp only
    rw [hsame, decide_eq_true rfl]
end Go.Proofs.Ytklmbkkeiihgdaa
