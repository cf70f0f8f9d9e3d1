/- XFta, XFtb in one. -/
import Derived.Test.YtklmbkkeiihgdaaFrp
import Derived.Test.YtklmbkkeiihgdaaPl
import Derived.Test.YtklmbkkeiihgdaaG1
/- Frames: the program's functions, plainly. -/
namespace Go.Proofs.Ytklmbkkeiihgdaa
open Go.RowKit
set_option maxRecDepth 100000
set_option linter.unusedVariables false
set_option linter.unusedSimpArgs false
abbrev fr (f : DFrame) : Fr := (f.kind, f.data)
theorem b8_p {n : Int} (h : 0 ≤ n ∧ n < 256) : b8 n = some (UInt8.ofNat n.toNat) := by
  unfold b8 g8
  dsimp only
  rw [if_pos h]
  rfl
theorem b8_w (n : Int) : b8 (IntKind.u8.wrap n) = some (UInt8.ofNat (n % 256).toNat) := by
  rw [IntKind.wrap_u8]
  exact b8_p (by omega)
theorem ofNat_mod (n : Nat) : UInt8.ofNat (n % 256) = UInt8.ofNat n := by
  apply UInt8.toNat_inj.1
  rw [UInt8.toNat_ofNat', UInt8.toNat_ofNat']
  omega
theorem b8_lo (n : Nat) : b8 (IntKind.u8.wrap (n : Int)) = some (UInt8.ofNat n) := by
  rw [b8_w, show ((n : Int) % 256).toNat = n % 256 from by omega, ofNat_mod]
theorem b8_sh (n k : Nat) : b8 (IntKind.u8.wrap ((n : Int).fdiv (2 ^ k))) = some (UInt8.ofNat (n / 2 ^ k)) := by
  have hk : (n : Int).fdiv (2 ^ k) = ((n / 2 ^ k : Nat) : Int) := by
    rw [Int.fdiv_eq_ediv_of_nonneg _ (Int.pow_nonneg (by omega))]
    rw [show ((2 : Int) ^ k) = ((2 ^ k : Nat) : Int) from by simp]
    exact (Int.natCast_ediv _ _).symm
  rw [hk, b8_lo]
theorem four_p {n : Nat} (hn : n < 4294967296) : frame_four (n : Int) = some (4, (le4 n, ())) := by
  unfold frame_four
  exact bindS (b8_lo n) (bindS (b8_sh n 8) (bindS (b8_sh n 16) (bindS (b8_sh n 24) rfl)))
theorem four_t {n : Nat} (hn : n < 4294967296) : frame_four_t (n : Int) = some (le4 n, ((), ())) := by
  unfold frame_four_t
  exact bindS (four_p hn) (iteT ⟨by simp, by show 4 ≤ (le4 n).length; rw [le4_length]; exact Nat.le_refl _⟩ rfl)
theorem head_t {f : DFrame} (h : okFr (fr f)) : frame_head_t f = some (hd (fr f), ((), ())) := by
  obtain ⟨h1, h2, h3⟩ := h
  dsimp only at h1 h2 h3
  have hw : IntKind.u32.wrap (f.data.length : Int) = (f.data.length : Int) := by
    exact IntWalk.u32_in _ (by omega)
  have hb : b8 (IntKind.u8.wrap f.kind) = some (UInt8.ofNat f.kind.toNat) := by
    rw [b8_w, show (f.kind % 256).toNat = f.kind.toNat % 256 from by omega, ofNat_mod]
  have hh : frame_head f = some (5, (hd (fr f), ())) := by
    unfold frame_head
    rw [hw]
    refine bindS (four_p (by omega)) (bindS hb (iteT (by simp) (iteT ?_ rfl)))
    simp [le4]
  unfold frame_head_t
  exact bindS hh (iteT ⟨by simp, by show 5 ≤ (hd (fr f)).length; rw [hd_length]; exact Nat.le_refl _⟩ rfl)
theorem flat_le {α : Type} (rows : List (List α)) (i : Nat) : (rows.take i).flatten.length ≤ rows.flatten.length := by
  conv => rhs; rw [← List.take_append_drop i rows, List.flatten_append, List.length_append]
  omega
theorem flat_snoc {α : Type} (rows : List (List α)) (i : Nat) (h : i < rows.length) : (rows.take (i + 1)).flatten = (rows.take i).flatten ++ rows[i] := by
  rw [List.take_succ_eq_append_getElem h, List.flatten_append, List.flatten_singleton]
theorem Concat_p (rows : List (List UInt8)) (hr : rows.length ≤ 1000) (hf : rows.flatten.length ≤ 100000000) (h0 : rows.flatten ≠ []) : slices_Concat_t rows = some (rows.flatten, ((), ())) := by
  have hle := fun i => flat_le rows i
  have hsn : ∀ i (h : i < rows.length), (rows.take i).flatten.length + rows[i].length ≤ 100000000 := fun i h => by
    have := hle (i + 1)
    rw [flat_snoc rows i h, List.length_append] at this
    omega
  have l1 : loopM slices_Concat_l1 ((rows, 0, rows, (rows.length : Int), 0, ()), ()) = some ((rows, (rows.flatten.length : Int), ()), ()) := by
    have := loopM_run (step := slices_Concat_l1) (fun i : Nat => ((rows, (((rows.take i).flatten.length : Nat) : Int), rows, (rows.length : Int), (i : Int), ()), ())) (N := rows.length) (b := ((rows, (rows.flatten.length : Int), ()), ())) (fun i hi => ?_) ?_
    · simpa using this
    · unfold slices_Concat_l1
      have h1 := hsn i hi
      refine condT (dT (by dsimp only; omega)) (bindS (getI_lt hi) (condF (dF ?_) ?_))
      · dsimp only; rw [w64 (by omega)]; omega
      · dsimp only
        rw [w64 (by omega), w64 (by omega), flat_snoc rows i hi, List.length_append]
        rfl
    · unfold slices_Concat_l1
      refine condF (dF (by dsimp only; omega)) ?_
      dsimp only
      rw [List.take_length]
  have l2 : loopM slices_Concat_l2 ((0, rows, (rows.length : Int), 0, ()), ([], ())) = some ((rows.flatten.length, ()), ((), rows.flatten, ())) := by
    have := loopM_run (step := slices_Concat_l2) (fun i : Nat => (((rows.take i).flatten.length, rows, (rows.length : Int), (i : Int), ()), ((rows.take i).flatten, ()))) (N := rows.length) (b := ((rows.flatten.length, ()), ((), rows.flatten, ()))) (fun i hi => ?_) ?_
    · simpa using this
    · unfold slices_Concat_l2
      have h1 := hsn i hi
      refine condT (dT (by dsimp only; omega)) (bindS (getI_lt hi) (iteT (by dsimp only; omega) ?_))
      dsimp only
      rw [w64 (by omega), flat_snoc rows i hi, List.length_append, List.take_length]
      rfl
    · unfold slices_Concat_l2
      refine condF (dF (by dsimp only; omega)) ?_
      dsimp only
      rw [List.take_length]
  have hc : slices_Concat rows = some (rows.flatten.length, (rows.flatten, ())) := by
    unfold slices_Concat
    refine bindS l1 (bindS (v := (0, ([], ()))) (by unfold growN35; exact iteT (by dsimp only; omega) rfl) (bindS l2 rfl))
  unfold slices_Concat_t
  refine bindS hc (iteT ⟨?_, by dsimp only; omega⟩ ?_)
  · dsimp only
    intro h
    exact h0 (List.eq_nil_of_length_eq_zero h)
  · dsimp only
    rw [List.take_length]
theorem frErr_no {f : DFrame} (h : okFr (fr f)) : frErr (fr f) = none := by
  obtain ⟨h1, h2, h3⟩ := h
  unfold frErr
  rw [if_neg (by omega), if_neg (by omega)]
/-- What is put. -/
theorem Put_p (l : List DFrame) (hl : l.length ≤ 10000000) (hc : (codes (l.map fr)).length ≤ 10000000) : frame_Put l = some ((match putErr (l.map fr) with | some e => ([], e, ()) | none => (codes (l.map fr), 0, ())), ((), ())) := by
  have key : ∃ z, loopM frame_Put_l1 (([], l, (l.length : Int), 0, ()), ((), ())) = some z ∧ ((∃ e, putErr (l.map fr) = some e ∧ z = .inl (((), e, ()), ((), ()))) ∨ (putErr (l.map fr) = none ∧ z = .inr ((codes (l.map fr), ()), ((), (), ())))) := by
    refine loopM_spec (fun n a => ∃ i : Nat, a = ((codes ((l.map fr).take i), l, (l.length : Int), (i : Int), ()), ((), ())) ∧ i ≤ l.length ∧ putErr ((l.map fr).take i) = none ∧ n = l.length - i) _ ?_ (n := l.length) ⟨0, by simp [codes], Nat.zero_le _, rfl, rfl⟩
    rintro n a ⟨i, rfl, h1, h2, rfl⟩
    unfold frame_Put_l1
    by_cases hi : i < l.length
    · have him : i < (l.map fr).length := by rw [List.length_map]; exact hi
      have hgi : (l.map fr)[i] = fr l[i] := by simp
      by_cases e1 : l[i].kind < 0
      · right
        have he : frErr (l.map fr)[i] = some 2 := by rw [hgi]; unfold frErr; rw [if_pos (.inl e1)]
        exact ⟨_, condT (dT (by dsimp only; omega)) (bindS (getI_lt hi) (condT (dT e1) rfl)), .inl ⟨2, putErr_first him h2 he, rfl⟩⟩
      by_cases e2 : 255 < l[i].kind
      · right
        have he : frErr (l.map fr)[i] = some 2 := by rw [hgi]; unfold frErr; rw [if_pos (.inr e2)]
        exact ⟨_, condT (dT (by dsimp only; omega)) (bindS (getI_lt hi) (condF (dF e1) (condT (dT e2) rfl))), .inl ⟨2, putErr_first him h2 he, rfl⟩⟩
      by_cases e3 : 262144 < l[i].data.length
      · right
        have he : frErr (l.map fr)[i] = some 3 := by rw [hgi]; unfold frErr; rw [if_neg (by dsimp only; omega), if_pos e3]
        exact ⟨_, condT (dT (by dsimp only; omega)) (bindS (getI_lt hi) (condF (dF e1) (condF (dF e2) (condT (dT (by omega)) rfl)))), .inl ⟨3, putErr_first him h2 he, rfl⟩⟩
      · left
        have ok : okFr (fr l[i]) := ⟨by dsimp only; omega, by dsimp only; omega, by dsimp only; omega⟩
        have hle := codes_get_le (l.map fr) i him
        rw [hgi] at hle
        have hcl := code_length (fr l[i])
        have hs : sumT [hd (fr l[i]), l[i].data] = some ((crcOf (fr l[i]) : Int), ()) := by
          unfold sumT
          rw [if_pos trivial]
          have : ([hd (fr l[i]), l[i].data] : List (List UInt8)).flatten = hd (fr l[i]) ++ (fr l[i]).2 := by simp
          rw [this]
          rfl
        have hcat : slices_Concat_t [codes ((l.map fr).take i), hd (fr l[i]), le4 (crcOf (fr l[i])), l[i].data] = some (codes ((l.map fr).take (i + 1)), ((), ())) := by
          have hfl : ([codes ((l.map fr).take i), hd (fr l[i]), le4 (crcOf (fr l[i])), l[i].data] : List (List UInt8)).flatten = codes ((l.map fr).take (i + 1)) := by
            rw [List.take_succ_eq_append_getElem him, codes_snoc, hgi]
            simp [code]
          have hfl2 := codes_take_le (l.map fr) (i + 1)
          rw [Concat_p _ (by simp) (by rw [hfl]; omega) (by
            rw [hfl]
            intro h
            have := congrArg List.length h
            rw [List.take_succ_eq_append_getElem him, codes_snoc, hgi, List.length_append, hcl] at this
            simp at this), hfl]
        refine ⟨l.length - (i + 1), _, by omega, condT (dT (by dsimp only; omega)) (bindS (getI_lt hi) (condF (dF e1) (condF (dF e2) (condF (dF (by omega)) (bindS (head_t ok) (bindS hs (bindS (four_t (crcOf_lt _)) (bindS hcat rfl)))))))), i + 1, ?_, by omega, ?_, rfl⟩
        · dsimp only
          rw [w64 (by omega)]
          rfl
        · rw [putErr_take him h2, hgi, frErr_no ok]
    · right
      obtain rfl : i = l.length := by omega
      have ht : (l.map fr).take l.length = l.map fr := by rw [List.take_of_length_le (by simp)]
      rw [ht] at h2
      refine ⟨_, condF (dF (by dsimp only; omega)) rfl, .inr ⟨h2, ?_⟩⟩
      dsimp only
      rw [ht]
  obtain ⟨z, hz, ⟨e, h1, rfl⟩ | ⟨h1, rfl⟩⟩ := key
  · rw [h1]; unfold frame_Put; exact bindS hz rfl
  · rw [h1]; unfold frame_Put; exact bindS hz rfl
abbrev toD (f : Fr) : DFrame := ⟨f.1, f.2⟩
theorem SameBytes_p (a b : List UInt8) (ha : a.length ≤ 140737488355328) : watershedkit_SameBytes a b = some (decide (a = b), ()) := by
  unfold watershedkit_SameBytes
  by_cases hl : a.length = b.length
  · refine condF (dF (by omega)) ?_
    refine bindS (same_loop (step := watershedkit_SameBytes_l1) a b (fun i => ((a, b, i, ()), ())) (.inl ((false, ()), ())) (.inr ((), ())) hl ha (fun i hi hj => ⟨fun he => ?_, fun he => ?_⟩) ?_) ?_
    · unfold watershedkit_SameBytes_l1
      refine condT (dT (by dsimp only; omega)) (bindS (getI_lt hi) (bindS (getI_lt hj) (condF (dF (by rw [he]; simp)) ?_)))
      dsimp only
      rw [w64 (by omega)]
      rfl
    · unfold watershedkit_SameBytes_l1
      refine condT (dT (by dsimp only; omega)) (bindS (getI_lt hi) (bindS (getI_lt hj) (condT (dT ?_) rfl)))
      intro h
      exact he (UInt8.toNat_inj.1 (by omega))
    · unfold watershedkit_SameBytes_l1
      exact condF (dF (by dsimp only; omega)) rfl
    · by_cases he : a = b
      · rw [if_pos he, decide_eq_true he]
      · rw [if_neg he, decide_eq_false he]
  · refine condT (dT (by omega)) ?_
    rw [decide_eq_false (fun e => hl (by rw [e]))]
/-- How many bytes of data. -/
def dsum (l : List DFrame) : Nat := (l.map (·.data.length)).sum
theorem dsum_snoc (l : List DFrame) (f : DFrame) : dsum (l ++ [f]) = dsum l + f.data.length := by simp [dsum]
theorem codes_dsum : ∀ l : List DFrame, (codes (l.map fr)).length = 9 * l.length + dsum l
  | [] => rfl
  | f :: l => by
    rw [List.map_cons, codes_cons, List.length_append, code_length, codes_dsum l]
    simp only [dsum, List.map_cons, List.sum_cons, List.length_cons]
    omega
theorem dsum_mem {f : DFrame} : ∀ {l : List DFrame}, f ∈ l → f.data.length ≤ dsum l
  | g :: l, h => by
    have : dsum (g :: l) = g.data.length + dsum l := by simp [dsum]
    rcases List.mem_cons.1 h with rfl | h
    · omega
    · have := dsum_mem h; omega
theorem great_p {l : List DFrame} (h : l.length ≤ 140737488355328) (hd : ∀ f ∈ l, f.data.length ≤ 140737488355328) : ∃ r, watershedlaw03_great l = some (r, ()) ∧ (r = false → l.length + dsum l ≤ 8000) := by
  have key : ∃ z, loopM watershedlaw03_great_l1 ((l, (l.length : Int), 0, ()), ()) = some z ∧ ∃ n : Int, z = ((n, ()), ()) ∧ (n ≤ 8000 → l.length + dsum l ≤ 8000) := by
    refine loopM_spec (fun k a => ∃ i : Nat, a = ((l, ((l.length + dsum (l.take i) : Nat) : Int), (i : Int), ()), ()) ∧ i ≤ l.length ∧ l.length + dsum (l.take i) ≤ 1000000000000000 ∧ k = l.length - i) _ ?_ (n := l.length) ⟨0, by simp [dsum], Nat.zero_le _, by simp [dsum]; omega, rfl⟩
    rintro k a ⟨i, rfl, h1, h2, rfl⟩
    unfold watershedlaw03_great_l1
    by_cases hi : i < l.length
    · by_cases hn : l.length + dsum (l.take i) ≤ 8000
      · left
        have hds := hd _ (List.getElem_mem hi)
        have hsn : dsum (l.take (i + 1)) = dsum (l.take i) + l[i].data.length := by rw [List.take_succ_eq_append_getElem hi, dsum_snoc]
        refine ⟨l.length - (i + 1), _, by omega, condT (dT (by dsimp only; omega)) (condT (dT (by dsimp only; omega)) (bindS (getI_lt hi) rfl)), i + 1, ?_, by omega, by omega, rfl⟩
        dsimp only
        rw [w64 (by omega), w64 (by omega), hsn]
        rw [show ((l.length + dsum (l.take i) : Nat) : Int) + (l[i].data.length : Int) = ((l.length + (dsum (l.take i) + l[i].data.length) : Nat) : Int) from by omega]
        rfl
      · right
        refine ⟨_, condT (dT (by dsimp only; omega)) (condF (dF (by dsimp only; omega)) rfl), _, rfl, fun h => ?_⟩
        dsimp only at h
        omega
    · right
      obtain rfl : i = l.length := by omega
      refine ⟨_, condF (dF (by dsimp only; omega)) rfl, _, rfl, fun h => ?_⟩
      dsimp only at h
      rw [List.take_length] at h
      omega
  obtain ⟨z, hz, n, rfl, hn⟩ := key
  refine ⟨decide ((8000 : Int) < n), ?_, fun h => hn (by have := of_decide_eq_false h; omega)⟩
  unfold watershedlaw03_great
  exact bindS hz rfl
theorem awake_p : watershedlaw03_awake = some (true, ()) := by
  have hput := Put_p [⟨7, []⟩] (by simp) (by rw [codes_dsum]; simp [dsum])
  have he : putErr ([(⟨7, []⟩ : DFrame)].map fr) = none := by decide
  rw [he] at hput
  dsimp only at hput
  have hs : sumT [[0, 0, 0, 0, 7]] = some ((crcOf (7, []) : Int), ()) := by
    unfold sumT
    rw [if_pos trivial]
    rfl
  have hc0 : crcOf (7, []) ≠ 0 := by decide +kernel
  have hsame : codes ([(⟨7, []⟩ : DFrame)].map fr) = [0, 0, 0, 0, 7, UInt8.ofNat (crcOf (7, [])), UInt8.ofNat (crcOf (7, []) / 2 ^ 8), UInt8.ofNat (crcOf (7, []) / 2 ^ 16), UInt8.ofNat (crcOf (7, []) / 2 ^ 24)] := rfl
  unfold watershedlaw03_awake
  refine bindS hput (bindS (v := 0) (b8_p (by omega)) (bindS (v := 0) (b8_p (by omega)) (bindS (v := 0) (b8_p (by omega)) (bindS (v := 0) (b8_p (by omega)) (bindS (v := 7) (b8_p (by omega)) (bindS hs (condT rfl (condT (dT (by dsimp only; omega)) ?_))))))))
  refine bindS (v := 0) (b8_p (by omega)) (bindS (v := 0) (b8_p (by omega)) (bindS (v := 0) (b8_p (by omega)) (bindS (v := 0) (b8_p (by omega)) (bindS (v := 7) (b8_p (by omega)) (bindS (b8_lo _) (bindS (b8_sh _ 8) (bindS (b8_sh _ 16) (bindS (b8_sh _ 24) (bindS (SameBytes_p _ _ ?_) ?_)))))))))
  · rw [hsame]; simp
  · dsimp only
    rw [hsame, decide_eq_true rfl]
end Go.Proofs.Ytklmbkkeiihgdaa
/- Frames: the document's answer, and lists that are lent, plainly. -/
namespace Go.Proofs.Ytklmbkkeiihgdaa
open Go.RowKit
set_option maxRecDepth 100000
set_option linter.unusedVariables false
set_option linter.unusedSimpArgs false
abbrev t2 (f : DFrame) : DFrame2 := ⟨f.kind, f.data⟩
abbrev fr2 (f : DFrame2) : Fr := (f.kind, f.data)
abbrev toD2 (f : Fr) : DFrame2 := ⟨f.1, f.2⟩
theorem map_fr2 (l : List DFrame) : (l.map t2).map fr2 = l.map fr := by rw [List.map_map]; rfl
theorem turned_p {l : List DFrame} (h : l.length ≤ 1000000) : watershedlaw03_turned l = some (l.map t2, ((), ())) := by
  unfold watershedlaw03_turned
  have key : loopM watershedlaw03_turned_l1 ((l, [], 0, ()), ((), ())) = some ((l.map t2, ()), ((), (), ())) := by
    have := loopM_run (step := watershedlaw03_turned_l1) (fun i : Nat => ((l, (l.take i).map t2, (i : Int), ()), ((), ()))) (N := l.length) (b := ((l.map t2, ()), ((), (), ()))) (fun i hi => ?_) ?_
    · simpa using this
    · unfold watershedlaw03_turned_l1
      refine condT (dT (by dsimp only; omega)) (bindS (getI_lt hi) (bindS (getI_lt hi) (iteT (by simp only [List.length_map, List.length_take, List.length_singleton]; omega) ?_)))
      dsimp only
      rw [w64 (by omega), List.take_succ_eq_append_getElem hi, List.map_append]
      rfl
    · unfold watershedlaw03_turned_l1
      refine condF (dF (by dsimp only; omega)) ?_
      dsimp only
      rw [List.take_length]
  exact bindS key rfl
theorem refOne_p {f : DFrame2} (h : okFr (fr2 f)) : refOne f = some (code (fr2 f), ((), ())) := by
  obtain ⟨h1, h2, h3⟩ := h
  dsimp only at h1 h2 h3
  unfold refOne
  exact iteT (by omega) rfl
theorem rPut_p (l : List DFrame2) (hl : l.length ≤ 10000000) (hc : (codes (l.map fr2)).length ≤ 10000000) : watershedref03_Put l = some ((match putErr (l.map fr2) with | some e => ([], e, ()) | none => (codes (l.map fr2), 0, ())), ((), ())) := by
  have key : ∃ z, loopM watershedref03_Put_l1 ((l, [], 0, ()), ((), ())) = some z ∧ ((∃ e, putErr (l.map fr2) = some e ∧ z = .inl (((), e, ()), ((), ()))) ∨ (putErr (l.map fr2) = none ∧ z = .inr ((codes (l.map fr2), ()), ((), (), ())))) := by
    refine loopM_spec (fun n a => ∃ i : Nat, a = ((l, codes ((l.map fr2).take i), (i : Int), ()), ((), ())) ∧ i ≤ l.length ∧ putErr ((l.map fr2).take i) = none ∧ n = l.length - i) _ ?_ (n := l.length) ⟨0, by simp [codes], Nat.zero_le _, rfl, rfl⟩
    rintro n a ⟨i, rfl, h1, h2, rfl⟩
    unfold watershedref03_Put_l1
    by_cases hi : i < l.length
    · have him : i < (l.map fr2).length := by rw [List.length_map]; exact hi
      have hgi : (l.map fr2)[i] = fr2 l[i] := by simp
      by_cases e1 : l[i].kind < 0
      · right
        have he : frErr (l.map fr2)[i] = some 2 := by rw [hgi]; unfold frErr; rw [if_pos (.inl e1)]
        exact ⟨_, condT (dT (by dsimp only; omega)) (bindS (getI_lt hi) (condT (dT e1) rfl)), .inl ⟨2, putErr_first him h2 he, rfl⟩⟩
      by_cases e2 : 255 < l[i].kind
      · right
        have he : frErr (l.map fr2)[i] = some 2 := by rw [hgi]; unfold frErr; rw [if_pos (.inr e2)]
        exact ⟨_, condT (dT (by dsimp only; omega)) (bindS (getI_lt hi) (condF (dF e1) (bindS (getI_lt hi) (condT (dT e2) rfl)))), .inl ⟨2, putErr_first him h2 he, rfl⟩⟩
      by_cases e3 : 262144 < l[i].data.length
      · right
        have he : frErr (l.map fr2)[i] = some 3 := by rw [hgi]; unfold frErr; rw [if_neg (by dsimp only; omega), if_pos e3]
        exact ⟨_, condT (dT (by dsimp only; omega)) (bindS (getI_lt hi) (condF (dF e1) (bindS (getI_lt hi) (condF (dF e2) (bindS (getI_lt hi) (condT (dT (by omega)) rfl)))))), .inl ⟨3, putErr_first him h2 he, rfl⟩⟩
      · left
        have ok : okFr (fr2 l[i]) := ⟨by dsimp only; omega, by dsimp only; omega, by dsimp only; omega⟩
        have hle := codes_get_le (l.map fr2) i him
        rw [hgi] at hle
        have hfe : frErr (fr2 l[i]) = none := by unfold frErr; rw [if_neg (by dsimp only; omega), if_neg (by dsimp only; omega)]
        refine ⟨l.length - (i + 1), _, by omega, condT (dT (by dsimp only; omega)) (bindS (getI_lt hi) (condF (dF e1) (bindS (getI_lt hi) (condF (dF e2) (bindS (getI_lt hi) (condF (dF (by omega)) (bindS (getI_lt hi) (bindS (refOne_p ok) (iteT (by dsimp only; omega) rfl))))))))), i + 1, ?_, by omega, ?_, rfl⟩
        · dsimp only
          rw [w64 (by omega), List.take_succ_eq_append_getElem him, codes_snoc, hgi]
          rfl
        · rw [putErr_take him h2, hgi, hfe]
    · right
      obtain rfl : i = l.length := by omega
      have ht : (l.map fr2).take l.length = l.map fr2 := by rw [List.take_of_length_le (by simp)]
      rw [ht] at h2
      refine ⟨_, condF (dF (by dsimp only; omega)) rfl, .inr ⟨h2, ?_⟩⟩
      dsimp only
      rw [ht]
  obtain ⟨z, hz, ⟨e, h1, rfl⟩ | ⟨h1, rfl⟩⟩ := key
  · rw [h1]; unfold watershedref03_Put; exact bindS hz rfl
  · rw [h1]; unfold watershedref03_Put; exact bindS hz rfl
theorem getD_get {b : List UInt8} {i : Nat} (h : i < b.length) : b.getD i 0 = b[i] := by simp [List.getD_eq_getElem?_getD, List.getElem?_eq_getElem h]
theorem wrap4 {a b c d n : Int} (ha : 0 ≤ a ∧ a < 256) (hb : 0 ≤ b ∧ b < 256) (hc : 0 ≤ c ∧ c < 256) (hd : 0 ≤ d ∧ d < 256) (hn : a + b * 256 + c * 65536 + d * 16777216 = n) : IntKind.i64.wrap (IntKind.i64.wrap (IntKind.i64.wrap (IntKind.i64.wrap a + IntKind.i64.wrap (IntKind.i64.wrap b * 256)) + IntKind.i64.wrap (IntKind.i64.wrap c * 65536)) + IntKind.i64.wrap (IntKind.i64.wrap d * 16777216)) = n := by
  subst hn
  rw [w64 (n := a) (by omega), w64 (n := b) (by omega), w64 (n := c) (by omega), w64 (n := d) (by omega), w64 (n := b * 256) (by omega), w64 (n := c * 65536) (by omega), w64 (n := d * 16777216) (by omega), w64 (n := a + b * 256) (by omega), w64 (n := a + b * 256 + c * 65536) (by omega), w64 (by omega)]
theorem begins_p {b : List UInt8} (hb : b.length ≤ 1000000000) : watershedref03_begins b = some (match nextFr b with
    | none => ((⟨0, []⟩, false, ()), ())
    | some f => ((toD2 f, true, ()), ())) := by
  unfold watershedref03_begins
  by_cases h9 : b.length < 9
  · have : nextFr b = none := by unfold nextFr; rw [if_pos h9]
    rw [this]
    exact condT (dT (by omega)) rfl
  refine condF (dF (by omega)) (bindS (getI_lt (i := 0) (by omega)) (bindS (getI_lt (i := 1) (by omega)) (bindS (getI_lt (i := 2) (by omega)) (bindS (getI_lt (i := 3) (by omega)) ?_))))
  have hn := num_lt b 0
  have hnum : num b 0 = b[0].toNat + b[1].toNat * 256 + b[2].toNat * 65536 + b[3].toNat * 16777216 := by
    unfold num
    rw [List.drop_zero, numN4, getD_get (by omega), getD_get (by omega), getD_get (by omega), getD_get (by omega)]
  have q0 := b[0].toNat_lt
  have q1 := b[1].toNat_lt
  have q2 := b[2].toNat_lt
  have q3 := b[3].toNat_lt
  have p8 : (2 : Int) ^ min (8 : Int).toNat (IntKind.i64.bits) = 256 := rfl
  have p16 : (2 : Int) ^ min (16 : Int).toNat (IntKind.i64.bits) = 65536 := rfl
  have p24 : (2 : Int) ^ min (24 : Int).toNat (IntKind.i64.bits) = 16777216 := rfl
  rw [p8, p16, p24, wrap4 (n := (num b 0 : Int)) (by omega) (by omega) (by omega) (by omega) (by omega)]
  clear hnum q0 q1 q2 q3
  dsimp only
  by_cases h1 : 262144 < num b 0
  · have : nextFr b = none := by unfold nextFr; rw [if_neg h9, if_pos (.inl h1)]
    rw [this]
    exact condT (dT (by omega)) rfl
  refine condF (dF (by omega)) ?_
  rw [w64 (n := (b.length : Int) - 9) (by omega)]
  by_cases h2 : b.length - 9 < num b 0
  · have : nextFr b = none := by unfold nextFr; rw [if_neg h9, if_pos (.inr h2)]
    rw [this]
    exact condT (dT (by omega)) rfl
  refine condF (dF (by omega)) (bindS (getI_lt (i := 4) (by omega)) ?_)
  rw [w64 (n := 9 + (num b 0 : Int)) (by omega)]
  have hy : (b.drop ((9 : Int)).toNat).take ((9 + (num b 0 : Int)).toNat - ((9 : Int)).toNat) = (b.drop 9).take (num b 0) := by
    rw [show ((9 + (num b 0 : Int))).toNat - ((9 : Int)).toNat = num b 0 from by omega]
    rfl
  have hyl : ((b.drop 9).take (num b 0)).length = num b 0 := by rw [List.length_take, List.length_drop]; omega
  refine iteT (by omega) ?_
  rw [hy]
  have hg4 : b.getD 4 0 = b[4]'(by omega) := getD_get (by omega)
  generalize hb4 : b[4]'(by omega) = k4 at hg4 ⊢
  have q4 := k4.toNat_lt
  rw [w64 (n := (k4.toNat : Int)) (by omega), List.nil_append]
  generalize hdd : (b.drop 9).take (num b 0) = d at hyl ⊢
  have ok : okFr (fr2 ⟨(k4.toNat : Int), d⟩) := ⟨by dsimp only; omega, by dsimp only; omega, by dsimp only; omega⟩
  refine iteT (by simp only [List.length_nil]; omega) (bindS (refOne_p ok) ?_)
  have hcl := code_length (fr2 ⟨(k4.toNat : Int), d⟩)
  dsimp only at hcl ⊢
  generalize hcc : code ((k4.toNat : Int), d) = cc at hcl
  have hloop : ∃ z, loopM watershedref03_begins_l1 ((b, (), (), cc, 0, ()), ((0, [], ()), ((k4.toNat : Int), d, ()), (), (), (), ())) = some z ∧ ((b.take cc.length ≠ cc ∧ z = .inl (((), false, ()), ((0, [], ()), ((k4.toNat : Int), d, ()), (), (), (), (), (), ()))) ∨ (b.take cc.length = cc ∧ z = .inr (((), (), ()), ((0, [], ()), ((k4.toNat : Int), d, ()), (), (), (), (), (), ())))) := by
    refine loopM_spec (fun n a => ∃ i : Nat, a = ((b, (), (), cc, (i : Int), ()), ((0, [], ()), ((k4.toNat : Int), d, ()), (), (), (), ())) ∧ i ≤ cc.length ∧ b.take i = cc.take i ∧ n = cc.length - i) _ ?_ (n := cc.length) ⟨0, by rfl, Nat.zero_le _, by simp, rfl⟩
    rintro n a ⟨i, rfl, h3, h4, rfl⟩
    unfold watershedref03_begins_l1
    by_cases hi : i < cc.length
    · have hib : i < b.length := by omega
      by_cases he : cc[i] = b[i]
      · left
        refine ⟨cc.length - (i + 1), _, by omega, condT (dT (by dsimp only; omega)) (bindS (getI_lt hi) (bindS (getI_lt hib) (condF (dF (by rw [he]; simp)) rfl))), i + 1, ?_, hi, ?_, rfl⟩
        · dsimp only
          rw [w64 (by omega)]
          rfl
        · rw [List.take_succ_eq_append_getElem hi, List.take_succ_eq_append_getElem hib, h4, he]
      · right
        refine ⟨_, condT (dT (by dsimp only; omega)) (bindS (getI_lt hi) (bindS (getI_lt hib) (condT (dT (fun h => he (UInt8.toNat_inj.1 (by omega)))) rfl))), .inl ⟨fun h => he ?_, rfl⟩⟩
        have := congrArg (fun l : List UInt8 => l[i]?) h
        simp only [List.getElem?_take, if_pos hi, List.getElem?_eq_getElem hi, List.getElem?_eq_getElem hib] at this
        injection this with this
        exact this.symm
    · right
      obtain rfl : i = cc.length := by omega
      refine ⟨_, condF (dF (by dsimp only; omega)) rfl, .inr ⟨by rw [h4, List.take_length], rfl⟩⟩
  obtain ⟨z, hz, ⟨h3, rfl⟩ | ⟨h3, rfl⟩⟩ := hloop
  · have hf : nextFr b = none := by
      cases hq : nextFr b with
      | none => rfl
      | some f =>
        exfalso
        have hq2 := hq
        unfold nextFr at hq2
        rw [if_neg h9, if_neg (by omega)] at hq2
        split at hq2
        · injection hq2 with hq2
          rw [hdd, hg4] at hq2
          obtain ⟨_, g2, g3⟩ := nextFr_is hq
          rw [← hq2, hcc] at g2
          apply h3
          rw [hcl]
          exact g2
        · cases hq2
    rw [hf]
    exact bindS hz rfl
  · have hf : nextFr b = some ((k4.toNat : Int), d) := by
      have hb2 : b = cc ++ b.drop cc.length := by
        conv => lhs; rw [← List.take_append_drop cc.length b, h3]
      have hnx := nextFr_code ok (b.drop cc.length)
      rw [show code (fr2 ⟨(k4.toNat : Int), d⟩) = cc from hcc, ← hb2] at hnx
      exact hnx
    rw [hf]
    exact bindS hz rfl
theorem rGet_p {b : List UInt8} (hb : b.length ≤ 1000000) : watershedref03_Get b = some (((getAll b).1.map toD2, ((getAll b).2 : Int), ()), ((), ())) := by
  have key : ∀ f0 : DFrame2 × Bool × Unit, watershedref03_begins b = some (f0, ()) → ∃ z, loopM watershedref03_Get_l1 ((b, [], 0, (), f0.2.1, ()), (f0.1, (), ())) = some z ∧ z.1.1 = (getAll b).1.map toD2 ∧ z.1.2.1 = ((getAll b).2 : Int) := by
    intro f0 hf0
    refine loopM_spec (fun n a => ∃ (out : List DFrame2) (at_ : Nat) (f : DFrame2 × Bool × Unit), a = ((b, out, (at_ : Int), (), f.2.1, ()), (f.1, (), ())) ∧ watershedref03_begins (b.drop at_) = some (f, ()) ∧ out ++ (getAll (b.drop at_)).1.map toD2 = (getAll b).1.map toD2 ∧ at_ + (getAll (b.drop at_)).2 = (getAll b).2 ∧ at_ ≤ b.length ∧ out.length ≤ at_ ∧ n = b.length - at_) _ ?_ (n := b.length) ⟨[], 0, f0, rfl, by rw [List.drop_zero]; exact hf0, by simp, by simp, Nat.zero_le _, Nat.le_refl _, rfl⟩
    rintro n a ⟨out, at_, f, rfl, h1, h2, h3, h4, h5, rfl⟩
    have hbg := begins_p (b := b.drop at_) (by rw [List.length_drop]; omega)
    rw [h1] at hbg
    unfold watershedref03_Get_l1
    cases hf : nextFr (b.drop at_) with
    | none =>
      right
      rw [hf] at hbg
      injection hbg with hbg
      injection hbg with hbg _
      subst hbg
      rw [getAll_none hf] at h2 h3
      exact ⟨_, condF rfl rfl, by simpa using h2, by dsimp only; simp only [Nat.add_zero] at h3; rw [h3]⟩
    | some g =>
      left
      rw [hf] at hbg
      injection hbg with hbg
      injection hbg with hbg _
      subst hbg
      have hl := nextFr_len hf
      rw [List.length_drop] at hl
      rw [getAll_some hf, List.drop_drop] at h2 h3
      have hd : at_ + (9 + g.2.length) = at_ + 9 + g.2.length := by omega
      rw [hd] at h2 h3
      have hw : IntKind.i64.wrap (IntKind.i64.wrap ((at_ : Int) + 9) + (g.2.length : Int)) = ((at_ + 9 + g.2.length : Nat) : Int) := by
        rw [w64 (n := (at_ : Int) + 9) (by omega), w64 (by omega)]
        omega
      have hbg2 := begins_p (b := b.drop (at_ + 9 + g.2.length)) (by rw [List.length_drop]; omega)
      have hx : ∃ f2 : DFrame2 × Bool × Unit, watershedref03_begins (b.drop (at_ + 9 + g.2.length)) = some (f2, ()) := by
        rw [hbg2]
        cases nextFr (b.drop (at_ + 9 + g.2.length)) <;> exact ⟨_, rfl⟩
      obtain ⟨f2, hf2⟩ := hx
      have hdr : (b.drop ((at_ + 9 + g.2.length : Nat) : Int).toNat).take (((b.length : Int) : Int).toNat - ((at_ + 9 + g.2.length : Nat) : Int).toNat) = b.drop (at_ + 9 + g.2.length) := by
        rw [Int.toNat_natCast, Int.toNat_natCast]
        exact List.take_of_length_le (by rw [List.length_drop]; exact Nat.le_refl _)
      refine ⟨b.length - (at_ + 9 + g.2.length), ((b, out ++ [toD2 g], ((at_ + 9 + g.2.length : Nat) : Int), (), f2.2.1, ()), (f2.1, (), ())), by omega, condT rfl (iteT (by simp only [List.length_singleton]; omega) ?_), out ++ [toD2 g], at_ + 9 + g.2.length, f2, rfl, hf2, ?_, ?_, by omega, ?_, rfl⟩
      · dsimp only
        rw [hw]
        refine iteT (by omega) ?_
        rw [hdr]
        exact bindS hf2 rfl
      · rw [← h2]; simp
      · dsimp only at h3; omega
      · rw [List.length_append, List.length_singleton]; omega
  unfold watershedref03_Get
  have hbg := begins_p (b := b) (by omega)
  have hx : ∃ f2 : DFrame2 × Bool × Unit, watershedref03_begins b = some (f2, ()) := by
    rw [hbg]
    cases nextFr b <;> exact ⟨_, rfl⟩
  obtain ⟨f2, hf2⟩ := hx
  obtain ⟨z, hz, z1, z2⟩ := key f2 hf2
  refine bindS hf2 (bindS hz ?_)
  rw [z1, z2]
theorem same_p {l : List DFrame} (h : l.length ≤ 1000000) (hd : ∀ f ∈ l, f.data.length ≤ 140737488355328) : watershedlaw03_same l (l.map t2) = some (true, ()) := by
  unfold watershedlaw03_same
  refine condF (dF (by simp)) ?_
  have key : loopM watershedlaw03_same_l1 ((l, l.map t2, 0, ()), ()) = some (.inr ((), ())) := by
    refine loopM_run (step := watershedlaw03_same_l1) (fun i : Nat => ((l, l.map t2, (i : Int), ()), ())) (N := l.length) (fun i hi => ?_) ?_
    · have him : i < (l.map t2).length := by rw [List.length_map]; exact hi
      have hgi : (l.map t2)[i] = t2 l[i] := by simp
      unfold watershedlaw03_same_l1
      refine condT (dT (by dsimp only; omega)) (bindS (getI_lt hi) (bindS (getI_lt him) (condF (dF (by rw [hgi]; simp)) (bindS (getI_lt hi) (bindS (getI_lt him) (bindS (SameBytes_p _ _ (hd _ (List.getElem_mem hi))) (condF (by rw [hgi]; simp) ?_)))))))
      dsimp only
      rw [w64 (by omega)]
      rfl
    · unfold watershedlaw03_same_l1
      exact condF (dF (by dsimp only; omega)) rfl
  exact bindS key rfl
theorem markB_ex (k x : Int) : ∃ t : Int, watershedkit_markByte k x = some (t, ()) ∧ 0 ≤ t ∧ t < 256 := by
  unfold watershedkit_markByte watershedkit_mark
  refine ⟨_, rfl, ?_⟩
  rw [IntKind.wrap_u8]
  omega
noncomputable def markV (k x : Int) : Int := (markB_ex k x).choose
theorem markV_p (k x : Int) : watershedkit_markByte k x = some (markV k x, ()) := (markB_ex k x).choose_spec.1
theorem markV_r (k x : Int) : 0 ≤ markV k x ∧ markV k x < 256 := (markB_ex k x).choose_spec.2
noncomputable def mkT (j : Nat) : UInt8 := UInt8.ofNat (markV 1 (j : Int)).toNat
theorem mkT_n (j : Nat) : ((mkT j).toNat : Int) = markV 1 (j : Int) := by
  have := markV_r 1 (j : Int)
  unfold mkT
  rw [UInt8.toNat_ofNat']
  omega
theorem mark_p (j : Nat) : watershedkit_markByte 1 (j : Int) = some (((mkT j).toNat : Int), ()) := by rw [mkT_n]; exact markV_p 1 _
theorem mark_b (j : Nat) : b8 ((mkT j).toNat : Int) = some (mkT j) := by
  have := (mkT j).toNat_lt
  rw [b8_p (by omega)]
  congr 1
  apply UInt8.toNat_inj.1
  rw [UInt8.toNat_ofNat', Int.toNat_natCast]
  omega
noncomputable def markZ (j : Nat) : List UInt8 := (List.range j).map mkT
theorem markZ_len (j : Nat) : (markZ j).length = j := by simp [markZ]
theorem markZ_succ (j : Nat) : markZ (j + 1) = markZ j ++ [mkT j] := by simp [markZ, List.range_succ]
theorem markZ_get {j n : Nat} (h : j < n) : (markZ n)[j]? = some (mkT j) := by simp [markZ, h]
theorem Lent_p {l : List UInt8} (hn : l.length ≤ 1000000) : watershedkit_LentBytes_x l = some ((l, markZ 12), ()) := by
  have hw : IntKind.i64.wrap ((l.length : Int) + 12) = ((l.length + 12 : Nat) : Int) := by rw [w64 (by omega)]; rfl
  have hloop : loopM watershedkit_LentBytes_l1 ((l, (0, l.length, l.length + 12), 0, ()), (l ++ List.replicate 12 0, ())) = some ((l, (0, l.length + 12, l.length + 12), ()), (l ++ markZ 12, ())) := by
    refine loopM_run (step := watershedkit_LentBytes_l1) (fun j : Nat => ((l, (0, l.length + j, l.length + 12), (j : Int), ()), (l ++ (markZ j ++ List.replicate (12 - j) 0), ()))) (N := 12) (fun j hj => ?_) ?_
    · have hml := markZ_len j
      unfold watershedkit_LentBytes_l1
      refine condT (dT (by dsimp only; omega)) (bindS (mark_p j) (bindS (mark_b j) ?_))
      dsimp only
      simp only [List.length_singleton, Nat.zero_add]
      refine iteT (by simp only [List.length_append, List.length_replicate, hml]; omega) ?_
      refine iteT (by omega) ?_
      rw [w64 (by omega)]
      have e1 : (l ++ (markZ j ++ List.replicate (12 - j) 0)).take (l.length + j) = l ++ markZ j := by
        rw [← List.append_assoc]
        exact List.take_left' (by rw [List.length_append, hml])
      have e2 : (l ++ (markZ j ++ List.replicate (12 - j) 0)).drop (l.length + j + 1) = List.replicate (12 - (j + 1)) 0 := by
        rw [← List.append_assoc, List.drop_append, List.drop_of_length_le (by rw [List.length_append, hml]; omega), List.nil_append, List.drop_replicate, List.length_append, hml]
        congr 1
        omega
      rw [e1, e2, markZ_succ]
      simp only [List.append_assoc, Nat.add_assoc]
      rfl
    · unfold watershedkit_LentBytes_l1
      exact condF (dF (by dsimp only; omega)) rfl
  have hL : watershedkit_LentBytes l = some ((0, l.length, l.length + 12), (l ++ markZ 12, ())) := by
    unfold watershedkit_LentBytes
    simp only [hw, Int.toNat_natCast, Int.toNat_zero, Nat.zero_add, List.take_zero, List.nil_append, Nat.add_zero, Nat.sub_zero, List.length_replicate, List.drop_replicate, Nat.add_sub_cancel_left]
    refine iteT (by omega) ?_
    refine iteT (by omega) ?_
    refine iteT (by omega) ?_
    refine bindS hloop ?_
    dsimp only
    refine iteT (by omega) ?_
    simp
  unfold watershedkit_LentBytes_x
  refine bindS hL ?_
  dsimp only
  refine iteT ⟨rfl, by rw [List.length_append]; omega, by rw [List.length_append, markZ_len]; omega⟩ ?_
  rw [List.take_left, List.drop_left]
theorem Kept_p {l : List UInt8} (hn : l.length ≤ 1000000) : watershedkit_KeptBytes (l, markZ 12) l = some (true, ()) := by
  have hw : IntKind.i64.wrap ((l.length : Int) + 12) = ((l.length + 12 : Nat) : Int) := by rw [w64 (by omega)]; rfl
  have hml := markZ_len 12
  have hloop : loopM watershedkit_KeptBytes_l1 ((l, l ++ markZ 12, 0, ()), ()) = some (.inr ((), ())) := by
    refine loopM_run (step := watershedkit_KeptBytes_l1) (fun j : Nat => ((l, l ++ markZ 12, (j : Int), ()), ())) (N := l.length + 12) (fun j hj => ?_) ?_
    · unfold watershedkit_KeptBytes_l1
      refine condT (dT (by dsimp only; rw [List.length_append]; omega)) ?_
      by_cases hjl : j < l.length
      · refine condT (dT (by dsimp only; omega)) ?_
        refine bindS (v := l[j]) (by dsimp only; rw [getI_nat, List.getElem?_append_left hjl, List.getElem?_eq_getElem hjl]) ?_
        refine bindS (getI_lt hjl) ?_
        refine condF (by simp) ?_
        refine condF (dF (by dsimp only; omega)) ?_
        dsimp only
        rw [w64 (by omega)]
        rfl
      · refine condF (dF (by dsimp only; omega)) ?_
        refine condT (dT (by dsimp only; omega)) ?_
        refine bindS (v := mkT (j - l.length)) (by dsimp only; rw [getI_nat, List.getElem?_append_right (by omega)]; exact markZ_get (by omega)) ?_
        refine bindS (v := (((mkT (j - l.length)).toNat : Int), ())) (by
          dsimp only
          rw [w64 (by omega), show (j : Int) - (l.length : Int) = ((j - l.length : Nat) : Int) from by omega]
          exact mark_p _) ?_
        refine condF (by simp) ?_
        dsimp only
        rw [w64 (by omega)]
        rfl
    · unfold watershedkit_KeptBytes_l1
      exact condF (dF (by dsimp only; rw [List.length_append]; omega)) rfl
  unfold watershedkit_KeptBytes
  refine condF (dF (by simp)) ?_
  simp only [hw, Int.toNat_natCast, Int.toNat_zero, List.drop_zero, Nat.sub_zero]
  refine iteT (by rw [List.length_append, hml]; omega) ?_
  rw [List.take_of_length_le (by rw [List.length_append, hml]; omega)]
  exact bindS hloop rfl
end Go.Proofs.Ytklmbkkeiihgdaa
