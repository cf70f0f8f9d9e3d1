/- Frames: the program's functions, plainly. -/
import Derived.Test.YtklmbkkeiihgdaaFrp
import Derived.Test.YtklmbkkeiihgdaaPl
import Derived.Test.YtklmbkkeiihgdaaG1
namespace Go.Proofs.Ytklmbkkeiihgdaa
open Go.RowKit
set_option maxRecDepth 100000
set_option linter.unusedVariables false
set_option linter.unusedSimpArgs false
abbrev fr (f : DFrame) : Fr := (f.kind, f.data)
theorem b8_p {n : Int} (h : 0 ≤ n ∧ n < 256) : b8 n = some (UInt8.ofNat n.toNat) := by
  unfold b8 g8
  dsimp only
  rw [if_pos h]
  rfl
theorem b8_w (n : Int) : b8 (IntKind.u8.wrap n) = some (UInt8.ofNat (n % 256).toNat) := by
  rw [IntKind.wrap_u8]
  exact b8_p (by omega)
theorem ofNat_mod (n : Nat) : UInt8.ofNat (n % 256) = UInt8.ofNat n := by
  apply UInt8.toNat_inj.1
  rw [UInt8.toNat_ofNat', UInt8.toNat_ofNat']
  omega
theorem b8_lo (n : Nat) : b8 (IntKind.u8.wrap (n : Int)) = some (UInt8.ofNat n) := by
  rw [b8_w, show ((n : Int) % 256).toNat = n % 256 from by omega, ofNat_mod]
theorem b8_sh (n k : Nat) : b8 (IntKind.u8.wrap ((n : Int).fdiv (2 ^ k))) = some (UInt8.ofNat (n / 2 ^ k)) := by
  have hk : (n : Int).fdiv (2 ^ k) = ((n / 2 ^ k : Nat) : Int) := by
    rw [Int.fdiv_eq_ediv_of_nonneg _ (Int.pow_nonneg (by omega))]
    rw [show ((2 : Int) ^ k) = ((2 ^ k : Nat) : Int) from by simp]
    exact (Int.natCast_ediv _ _).symm
  rw [hk, b8_lo]
theorem four_p {n : Nat} (hn : n < 4294967296) : frame_four (n : Int) = some (4, (le4 n, ())) := by
  unfold frame_four
  exact bindS (b8_lo n) (bindS (b8_sh n 8) (bindS (b8_sh n 16) (bindS (b8_sh n 24) rfl)))
theorem four_t {n : Nat} (hn : n < 4294967296) : frame_four_t (n : Int) = some (le4 n, ((), ())) := by
  unfold frame_four_t
  exact bindS (four_p hn) (iteT ⟨by simp, by show 4 ≤ (le4 n).length; rw [le4_length]; exact Nat.le_refl _⟩ rfl)
theorem head_t {f : DFrame} (h : okFr (fr f)) : frame_head_t f = some (hd (fr f), ((), ())) := by
  obtain ⟨h1, h2, h3⟩ := h
  dsimp only at h1 h2 h3
  have hw : IntKind.u32.wrap (f.data.length : Int) = (f.data.length : Int) := by
    exact IntWalk.u32_in _ (by omega)
  have hb : b8 (IntKind.u8.wrap f.kind) = some (UInt8.ofNat f.kind.toNat) := by
    rw [b8_w, show (f.kind % 256).toNat = f.kind.toNat % 256 from by omega, ofNat_mod]
  have hh : frame_head f = some (5, (hd (fr f), ())) := by
    unfold frame_head
    rw [hw]
    refine bindS (four_p (by omega)) (bindS hb (iteT (by simp) (iteT ?_ rfl)))
    simp [le4]
  unfold frame_head_t
  exact bindS hh (iteT ⟨by simp, by show 5 ≤ (hd (fr f)).length; rw [hd_length]; exact Nat.le_refl _⟩ rfl)
theorem flat_le {α : Type} (rows : List (List α)) (i : Nat) : (rows.take i).flatten.length ≤ rows.flatten.length := by
  conv => rhs; rw [← List.take_append_drop i rows, List.flatten_append, List.length_append]
  omega
theorem flat_snoc {α : Type} (rows : List (List α)) (i : Nat) (h : i < rows.length) : (rows.take (i + 1)).flatten = (rows.take i).flatten ++ rows[i] := by
  rw [List.take_succ_eq_append_getElem h, List.flatten_append, List.flatten_singleton]
theorem Concat_p (rows : List (List UInt8)) (hr : rows.length ≤ 1000) (hf : rows.flatten.length ≤ 100000000) (h0 : rows.flatten ≠ []) : slices_Concat_t rows = some (rows.flatten, ((), ())) := by
  have hle := fun i => flat_le rows i
  have hsn : ∀ i (h : i < rows.length), (rows.take i).flatten.length + rows[i].length ≤ 100000000 := fun i h => by
    have := hle (i + 1)
    rw [flat_snoc rows i h, List.length_append] at this
    omega
  have l1 : loopM slices_Concat_l1 ((rows, 0, rows, (rows.length : Int), 0, ()), ()) = some ((rows, (rows.flatten.length : Int), ()), ()) := by
    have := loopM_run (step := slices_Concat_l1) (fun i : Nat => ((rows, (((rows.take i).flatten.length : Nat) : Int), rows, (rows.length : Int), (i : Int), ()), ())) (N := rows.length) (b := ((rows, (rows.flatten.length : Int), ()), ())) (fun i hi => ?_) ?_
    · simpa using this
    · unfold slices_Concat_l1
      have h1 := hsn i hi
      refine condT (dT (by dsimp only; omega)) (bindS (getI_lt hi) (condF (dF ?_) ?_))
      · dsimp only; rw [w64 (by omega)]; omega
      · dsimp only
        rw [w64 (by omega), w64 (by omega), flat_snoc rows i hi, List.length_append]
        rfl
    · unfold slices_Concat_l1
      refine condF (dF (by dsimp only; omega)) ?_
      dsimp only
      rw [List.take_length]
  have l2 : loopM slices_Concat_l2 ((0, rows, (rows.length : Int), 0, ()), ([], ())) = some ((rows.flatten.length, ()), ((), rows.flatten, ())) := by
    have := loopM_run (step := slices_Concat_l2) (fun i : Nat => (((rows.take i).flatten.length, rows, (rows.length : Int), (i : Int), ()), ((rows.take i).flatten, ()))) (N := rows.length) (b := ((rows.flatten.length, ()), ((), rows.flatten, ()))) (fun i hi => ?_) ?_
    · simpa using this
    · unfold slices_Concat_l2
      have h1 := hsn i hi
      refine condT (dT (by dsimp only; omega)) (bindS (getI_lt hi) (iteT (by dsimp only; omega) ?_))
      dsimp only
      rw [w64 (by omega), flat_snoc rows i hi, List.length_append, List.take_length]
      rfl
    · unfold slices_Concat_l2
      refine condF (dF (by dsimp only; omega)) ?_
      dsimp only
      rw [List.take_length]
  have hc : slices_Concat rows = some (rows.flatten.length, (rows.flatten, ())) := by
    unfold slices_Concat
    refine bindS l1 (bindS (v := (0, ([], ()))) (by unfold growN35; exact iteT (by dsimp only; omega) rfl) (bindS l2 rfl))
  unfold slices_Concat_t
  refine bindS hc (iteT ⟨?_, by dsimp only; omega⟩ ?_)
  · dsimp only
    intro h
    exact h0 (List.eq_nil_of_length_eq_zero h)
  · dsimp only
    rw [List.take_length]
theorem frErr_no {f : DFrame} (h : okFr (fr f)) : frErr (fr f) = none := by
  obtain ⟨h1, h2, h3⟩ := h
  unfold frErr
  rw [if_neg (by omega), if_neg (by omega)]
/-- What is put. -/
theorem Put_p (l : List DFrame) (hl : l.length ≤ 10000000) (hc : (codes (l.map fr)).length ≤ 10000000) : frame_Put l = some ((match putErr (l.map fr) with | some e => ([], e, ()) | none => (codes (l.map fr), 0, ())), ((), ())) := by
  have key : ∃ z, loopM frame_Put_l1 (([], l, (l.length : Int), 0, ()), ((), ())) = some z ∧ ((∃ e, putErr (l.map fr) = some e ∧ z = .inl (((), e, ()), ((), ()))) ∨ (putErr (l.map fr) = none ∧ z = .inr ((codes (l.map fr), ()), ((), (), ())))) := by
    refine loopM_spec (fun n a => ∃ i : Nat, a = ((codes ((l.map fr).take i), l, (l.length : Int), (i : Int), ()), ((), ())) ∧ i ≤ l.length ∧ putErr ((l.map fr).take i) = none ∧ n = l.length - i) _ ?_ (n := l.length) ⟨0, by simp [codes], Nat.zero_le _, rfl, rfl⟩
    rintro n a ⟨i, rfl, h1, h2, rfl⟩
    unfold frame_Put_l1
    by_cases hi : i < l.length
    · have him : i < (l.map fr).length := by rw [List.length_map]; exact hi
      have hgi : (l.map fr)[i] = fr l[i] := by simp
      by_cases e1 : l[i].kind < 0
      · right
        have he : frErr (l.map fr)[i] = some 2 := by rw [hgi]; unfold frErr; rw [if_pos (.inl e1)]
        exact ⟨_, condT (dT (by dsimp only; omega)) (bindS (getI_lt hi) (condT (dT e1) rfl)), .inl ⟨2, putErr_first him h2 he, rfl⟩⟩
      by_cases e2 : 255 < l[i].kind
      · right
        have he : frErr (l.map fr)[i] = some 2 := by rw [hgi]; unfold frErr; rw [if_pos (.inr e2)]
        exact ⟨_, condT (dT (by dsimp only; omega)) (bindS (getI_lt hi) (condF (dF e1) (condT (dT e2) rfl))), .inl ⟨2, putErr_first him h2 he, rfl⟩⟩
      by_cases e3 : 262144 < l[i].data.length
      · right
        have he : frErr (l.map fr)[i] = some 3 := by rw [hgi]; unfold frErr; rw [if_neg (by dsimp only; omega), if_pos e3]
        exact ⟨_, condT (dT (by dsimp only; omega)) (bindS (getI_lt hi) (condF (dF e1) (condF (dF e2) (condT (dT (by omega)) rfl)))), .inl ⟨3, putErr_first him h2 he, rfl⟩⟩
      · left
        have ok : okFr (fr l[i]) := ⟨by dsimp only; omega, by dsimp only; omega, by dsimp only; omega⟩
        have hle := codes_get_le (l.map fr) i him
        rw [hgi] at hle
        have hcl := code_length (fr l[i])
        have hs : sumT [hd (fr l[i]), l[i].data] = some ((crcOf (fr l[i]) : Int), ()) := by
          unfold sumT
          rw [if_pos trivial]
          have : ([hd (fr l[i]), l[i].data] : List (List UInt8)).flatten = hd (fr l[i]) ++ (fr l[i]).2 := by simp
          rw [this]
          rfl
        have hcat : slices_Concat_t [codes ((l.map fr).take i), hd (fr l[i]), le4 (crcOf (fr l[i])), l[i].data] = some (codes ((l.map fr).take (i + 1)), ((), ())) := by
          have hfl : ([codes ((l.map fr).take i), hd (fr l[i]), le4 (crcOf (fr l[i])), l[i].data] : List (List UInt8)).flatten = codes ((l.map fr).take (i + 1)) := by
            rw [List.take_succ_eq_append_getElem him, codes_snoc, hgi]
            simp [code]
          have hfl2 := codes_take_le (l.map fr) (i + 1)
          rw [Concat_p _ (by simp) (by rw [hfl]; omega) (by
            rw [hfl]
            intro h
            have := congrArg List.length h
            rw [List.take_succ_eq_append_getElem him, codes_snoc, hgi, List.length_append, hcl] at this
            simp at this), hfl]
        refine ⟨l.length - (i + 1), _, by omega, condT (dT (by dsimp only; omega)) (bindS (getI_lt hi) (condF (dF e1) (condF (dF e2) (condF (dF (by omega)) (bindS (head_t ok) (bindS hs (bindS (four_t (crcOf_lt _)) (bindS hcat rfl)))))))), i + 1, ?_, by omega, ?_, rfl⟩
        · dsimp only
          rw [w64 (by omega)]
          rfl
        · rw [putErr_take him h2, hgi, frErr_no ok]
    · right
      obtain rfl : i = l.length := by omega
      have ht : (l.map fr).take l.length = l.map fr := by rw [List.take_of_length_le (by simp)]
      rw [ht] at h2
      refine ⟨_, condF (dF (by dsimp only; omega)) rfl, .inr ⟨h2, ?_⟩⟩
      dsimp only
      rw [ht]
  obtain ⟨z, hz, ⟨e, h1, rfl⟩ | ⟨h1, rfl⟩⟩ := key
  · rw [h1]; unfold frame_Put; exact bindS hz rfl
  · rw [h1]; unfold frame_Put; exact bindS hz rfl
end Go.Proofs.Ytklmbkkeiihgdaa
