/- FrameBack, plainly. -/
import Derived.Test.YtklmbkkeiihgdaaFrh
import Derived.Test.YtklmbkkeiihgdaaFrq
namespace Go.Proofs.Ytklmbkkeiihgdaa
open Go.RowKit
set_option maxRecDepth 100000
set_option linter.unusedVariables false
set_option linter.unusedSimpArgs false
theorem Pick_p (x : Int) {n : Int} (h1 : 1 ≤ n) (h2 : n ≤ 1000000000) : ∃ k : Nat, (k : Int) < n ∧ watershedkit_Pick x n = some ((k : Int), ()) := by
  unfold watershedkit_Pick
  have ha : x.tmod n < n := Int.tmod_lt_of_pos x (by omega)
  have hb : -n < x.tmod n := by
    have := Int.lt_tmod_of_pos x (show 0 < n by omega)
    omega
  by_cases hn : x.tmod n < 0
  · refine ⟨(x.tmod n + n).toNat, by omega, condF (dF (by omega)) (iteF (by omega) (condT (dT hn) ?_))⟩
    rw [w64 (by omega), show (((x.tmod n + n).toNat : Nat) : Int) = x.tmod n + n from by omega]
  · refine ⟨(x.tmod n).toNat, by omega, condF (dF (by omega)) (iteF (by omega) (condF (dF hn) ?_))⟩
    rw [show (((x.tmod n).toNat : Nat) : Int) = x.tmod n from by omega]
theorem cut_loop {x0 : List DFrame} (h : x0.length + dsum x0 ≤ 8000) (x2 : Int) (b : List UInt8) (k : Nat) (hk : k ≤ 1000000) :
    ∃ i : Nat, i ≤ x0.length ∧ (codes ((x0.map fr).take i)).length ≤ k ∧ ((x0.map fr).length ≤ i ∨ ∃ hi : i < (x0.map fr).length, k < (codes ((x0.map fr).take i)).length + (code (x0.map fr)[i]).length) ∧
      loopM watershedlaw03_FrameBack_l1 ((x0, x2, b, (k : Int), 0, 0, ()), ((), ())) = some ((x0, x2, b, (k : Int), (i : Int), ((codes ((x0.map fr).take i)).length : Int), ()), ((), (), ())) := by
  have key : ∃ z, loopM watershedlaw03_FrameBack_l1 ((x0, x2, b, (k : Int), 0, 0, ()), ((), ())) = some z ∧ ∃ i : Nat, i ≤ x0.length ∧ (codes ((x0.map fr).take i)).length ≤ k ∧ ((x0.map fr).length ≤ i ∨ ∃ hi : i < (x0.map fr).length, k < (codes ((x0.map fr).take i)).length + (code (x0.map fr)[i]).length) ∧ z = ((x0, x2, b, (k : Int), (i : Int), ((codes ((x0.map fr).take i)).length : Int), ()), ((), (), ())) := by
    refine loopM_spec (fun n a => ∃ i : Nat, a = ((x0, x2, b, (k : Int), (i : Int), ((codes ((x0.map fr).take i)).length : Int), ()), ((), ())) ∧ i ≤ x0.length ∧ (codes ((x0.map fr).take i)).length ≤ k ∧ n = x0.length - i) _ ?_ (n := x0.length) ⟨0, rfl, Nat.zero_le _, by simp [codes], rfl⟩
    rintro n a ⟨i, rfl, h1, h2, rfl⟩
    unfold watershedlaw03_FrameBack_l1
    by_cases hi : i < x0.length
    · have him : i < (x0.map fr).length := by rw [List.length_map]; exact hi
      have hgi : (x0.map fr)[i] = fr x0[i] := by simp
      have hcl : (code (x0.map fr)[i]).length = 9 + x0[i].data.length := by rw [hgi, code_length]
      have hdm := dsum_mem (List.getElem_mem hi)
      have hsn : (codes ((x0.map fr).take (i + 1))).length = (codes ((x0.map fr).take i)).length + (9 + x0[i].data.length) := by
        rw [List.take_succ_eq_append_getElem him, codes_snoc, List.length_append, hcl]
      have hw : IntKind.i64.wrap (IntKind.i64.wrap (((codes ((x0.map fr).take i)).length : Int) + 9) + (x0[i].data.length : Int)) = (((codes ((x0.map fr).take (i + 1))).length : Nat) : Int) := by
        rw [w64 (n := ((codes ((x0.map fr).take i)).length : Int) + 9) (by omega), w64 (by omega), hsn]
        omega
      by_cases hc : (codes ((x0.map fr).take (i + 1))).length ≤ k
      · left
        refine ⟨x0.length - (i + 1), _, by omega, condT (dT (by dsimp only; omega)) (bindS (getI_lt hi) (condT (dT (by dsimp only; rw [hw]; omega)) (bindS (getI_lt hi) rfl))), i + 1, ?_, by omega, hc, rfl⟩
        dsimp only
        rw [hw, w64 (by omega)]
        rfl
      · right
        exact ⟨_, condT (dT (by dsimp only; omega)) (bindS (getI_lt hi) (condF (dF (by dsimp only; rw [hw]; omega)) rfl)), i, h1, h2, .inr ⟨him, by rw [hcl]; omega⟩, rfl⟩
    · right
      exact ⟨_, condF (dF (by dsimp only; omega)) rfl, i, h1, h2, .inl (by rw [List.length_map]; omega), rfl⟩
  obtain ⟨z, hz, i, h1, h2, h3, rfl⟩ := key
  exact ⟨i, h1, h2, h3, hz⟩
theorem bit_loop {x0 : List DFrame} (h : x0.length + dsum x0 ≤ 8000) (b : List UInt8) (p : Nat) (hp : p / 8 < (codes (x0.map fr)).length) :
    ∃ (i : Nat) (hi : i < (x0.map fr).length), (codes ((x0.map fr).take i)).length ≤ p / 8 ∧ p / 8 < (codes ((x0.map fr).take i)).length + (code (x0.map fr)[i]).length ∧
      loopM watershedlaw03_FrameBack_l2 ((x0, b, 0, 0, (p : Int), ()), ((), ())) = some ((x0, b, (i : Int), ((codes ((x0.map fr).take i)).length : Int), (p : Int), ()), ((), (), ())) := by
  have hcs := codes_dsum x0
  have hdiv : IntKind.i64.wrap ((p : Int).tdiv 8) = ((p / 8 : Nat) : Int) := by
    rw [Int.tdiv_eq_ediv_of_nonneg (by omega), w64 (by omega)]; rfl
  have key : ∃ z, loopM watershedlaw03_FrameBack_l2 ((x0, b, 0, 0, (p : Int), ()), ((), ())) = some z ∧ ∃ (i : Nat) (hi : i < (x0.map fr).length), (codes ((x0.map fr).take i)).length ≤ p / 8 ∧ p / 8 < (codes ((x0.map fr).take i)).length + (code (x0.map fr)[i]).length ∧ z = ((x0, b, (i : Int), ((codes ((x0.map fr).take i)).length : Int), (p : Int), ()), ((), (), ())) := by
    refine loopM_spec (fun n a => ∃ i : Nat, a = ((x0, b, (i : Int), ((codes ((x0.map fr).take i)).length : Int), (p : Int), ()), ((), ())) ∧ i ≤ x0.length ∧ (codes ((x0.map fr).take i)).length ≤ p / 8 ∧ n = x0.length - i) _ ?_ (n := x0.length) ⟨0, rfl, Nat.zero_le _, by simp [codes], rfl⟩
    rintro n a ⟨i, rfl, h1, h2, rfl⟩
    have hi : i < x0.length := by
      refine Nat.lt_of_not_le fun hge => ?_
      rw [List.take_of_length_le (by rw [List.length_map]; exact hge)] at h2
      omega
    unfold watershedlaw03_FrameBack_l2
    have him : i < (x0.map fr).length := by rw [List.length_map]; exact hi
    have hgi : (x0.map fr)[i] = fr x0[i] := by simp
    have hcl : (code (x0.map fr)[i]).length = 9 + x0[i].data.length := by rw [hgi, code_length]
    have hdm := dsum_mem (List.getElem_mem hi)
    have hsn : (codes ((x0.map fr).take (i + 1))).length = (codes ((x0.map fr).take i)).length + (9 + x0[i].data.length) := by
      rw [List.take_succ_eq_append_getElem him, codes_snoc, List.length_append, hcl]
    have hw : IntKind.i64.wrap (IntKind.i64.wrap (((codes ((x0.map fr).take i)).length : Int) + 9) + (x0[i].data.length : Int)) = (((codes ((x0.map fr).take (i + 1))).length : Nat) : Int) := by
      rw [w64 (n := ((codes ((x0.map fr).take i)).length : Int) + 9) (by omega), w64 (by omega), hsn]
      omega
    by_cases hc : (codes ((x0.map fr).take (i + 1))).length ≤ p / 8
    · left
      refine ⟨x0.length - (i + 1), _, by omega, bindS (getI_lt hi) (condT (dT (by dsimp only; rw [hw, hdiv]; omega)) (bindS (getI_lt hi) rfl)), i + 1, ?_, by omega, hc, rfl⟩
      dsimp only
      rw [hw, w64 (by omega)]
      rfl
    · right
      exact ⟨_, bindS (getI_lt hi) (condF (dF (by dsimp only; rw [hw, hdiv]; omega)) rfl), i, him, h2, by rw [hcl]; omega, rfl⟩
  obtain ⟨z, hz, i, h1, h2, h3, rfl⟩ := key
  exact ⟨i, h1, h2, h3, hz⟩
/-- A bit of a byte, turned. -/
theorem turn_byte (e : UInt8) (p : Nat) : b8 (IntKind.u8.wrap ((BitVec.ofInt (IntKind.u8.bits) (e.toNat : Int) ^^^ BitVec.ofInt (IntKind.u8.bits) (IntKind.u8.wrap (1 * 2 ^ min ((IntKind.u64.wrap ((p : Int).tmod 8)) : Int).toNat (IntKind.u8.bits)))).toNat)) = some (UInt8.ofNat (e.toNat ^^^ 2 ^ (p % 8))) := by
  have hm : IntKind.u64.wrap ((p : Int).tmod 8) = ((p % 8 : Nat) : Int) := by
    rw [Int.tmod_eq_emod_of_nonneg (by omega), IntWalk.u64_in _ (by omega)]; rfl
  have hb : IntKind.u8.bits = 8 := rfl
  have hp : (2 : Nat) ^ (p % 8) < 256 := by
    have : (2 : Nat) ^ (p % 8) ≤ 2 ^ 7 := Nat.pow_le_pow_right (by omega) (by omega)
    omega
  have hx : IntKind.u8.wrap (1 * 2 ^ (p % 8)) = ((2 ^ (p % 8) : Nat) : Int) := by
    rw [Int.one_mul, show ((2 : Int) ^ (p % 8)) = ((2 ^ (p % 8) : Nat) : Int) from by simp]
    generalize 2 ^ (p % 8) = q at hp
    exact IntWalk.u8_in _ (by omega)
  rw [hm, hb, show min (((p % 8 : Nat) : Int)).toNat 8 = p % 8 from by omega, hx]
  have ho : ∀ n : Nat, BitVec.ofInt 8 (n : Int) = BitVec.ofNat 8 n := fun n => by
    apply BitVec.eq_of_toNat_eq
    simp
  rw [ho, ho, BitVec.toNat_xor, BitVec.toNat_ofNat, BitVec.toNat_ofNat, Nat.mod_eq_of_lt (show e.toNat < 2 ^ 8 from e.toNat_lt), Nat.mod_eq_of_lt (show (2 : Nat) ^ (p % 8) < 2 ^ 8 from hp)]
  rw [b8_lo]
theorem FrameBack_p (x0 : List DFrame) (x1 : Int) (x2 : Int) (k0 : ok_LDFrame x0) (k1 : ok_Ii64 x1) (k2 : ok_Ii64 x2) : watershedlaw03_FrameBack x0 x1 x2 = some (true, ()) := by
  unfold watershedlaw03_FrameBack
  have hdata : ∀ f ∈ x0, f.data.length ≤ 140737488355328 := fun f hf => (k0.all f hf).2.1.len
  obtain ⟨r, r1, r2⟩ := great_p k0.len hdata
  refine bindS awake_p (condF rfl (bindS r1 ?_))
  cases r with
  | true => exact condT rfl rfl
  | false =>
  have hg := r2 rfl
  have hc0 := codes_dsum x0
  have hput0 := Put_p x0 (by omega) (by omega)
  refine condF rfl ?_
  cases he : putErr (x0.map fr) with
  | some e =>
    rw [he] at hput0
    dsimp only at hput0
    refine bindS hput0 (condT (dT ?_) rfl)
    dsimp only
    obtain ⟨f, hf, h1⟩ := List.exists_of_findSome?_eq_some he
    unfold frErr at h1
    split at h1
    · injection h1 with h1; omega
    · split at h1
      · injection h1 with h1; omega
      · cases h1
  | none =>
  have ok := putErr_ok.1 he
  rw [he] at hput0
  dsimp only at hput0
  refine bindS hput0 (condF rfl ?_)
  generalize hb : codes (x0.map fr) = b at hc0
  have hga : getAll b = (x0.map fr, b.length) := by
    have := getAll_codes (x0.map fr) ok []
    rw [List.append_nil, hb, getAll_none (b := []) (by unfold nextFr; rw [if_pos (by simp)])] at this
    simpa using this
  have hget := Get_p (b := b) (by omega)
  rw [hga] at hget
  dsimp only at hget
  rw [map_D] at hget
  have hEq : ∀ i, watershedlaw03_equal (x0.take i) (x0.take i) = some (true, ()) := fun i => by
    rw [equal_p _ _ (by rw [List.length_take]; omega) (fun f hf => hdata f (List.mem_of_mem_take hf)), decide_eq_true rfl]
  refine bindS hget (bindS (by have := hEq x0.length; rw [List.take_length] at this; exact this) (condF rfl (condF (by simp) ?_)))
  obtain ⟨k, p1, p2⟩ := Pick_p x1 (n := (b.length : Int) + 1) (by omega) (by omega)
  dsimp only
  rw [w64 (n := (b.length : Int) + 1) (by omega)]
  refine bindS p2 ?_
  obtain ⟨i, i1, i2, i3, i4⟩ := cut_loop hg x2 b k (by omega)
  refine bindS i4 (iteT (by dsimp only; omega) ?_)
  have hcut := getAll_cut ok i2 i3
  rw [hb] at hcut
  have hget2 := Get_p (b := b.take k) (by rw [List.length_take]; omega)
  rw [hcut] at hget2
  dsimp only at hget2
  rw [← List.map_take, List.map_map, show (x0.take i).map (toD ∘ fr) = x0.take i from List.map_id'' (fun _ => rfl) _] at hget2
  have hy : (b.drop (((0 : Int) : Int)).toNat).take (((k : Int)).toNat - (((0 : Int) : Int)).toNat) = b.take k := by simp
  have hz : (x0.drop (((0 : Int) : Int)).toNat).take (((i : Int)).toNat - (((0 : Int) : Int)).toNat) = x0.take i := by simp
  dsimp only
  rw [hy]
  refine bindS hget2 (iteT (by omega) ?_)
  rw [hz]
  rw [List.map_take] at hget2
  refine bindS (hEq i) (condF rfl (condF (by rw [List.map_take]; simp) ?_))
  by_cases hL : b.length = 0
  · exact condT (dT (by omega)) rfl
  refine condF (dF (by omega)) ?_
  rw [w64 (n := 8 * (b.length : Int)) (by omega)]
  obtain ⟨p, q1, q2⟩ := Pick_p x2 (n := 8 * (b.length : Int)) (by omega) (by omega)
  refine bindS q2 ?_
  obtain ⟨j, j1, j2, j3, j4⟩ := bit_loop hg b p (by rw [hb]; omega)
  have hjl : j < x0.length := by rw [List.length_map] at j1; exact j1
  refine bindS j4 (iteT (by simp; omega) (iteF (by dsimp only; omega) ?_))
  have hdiv : IntKind.i64.wrap ((p : Int).tdiv 8) = ((p / 8 : Nat) : Int) := by
    rw [Int.tdiv_eq_ediv_of_nonneg (by omega), w64 (by omega)]; rfl
  have hm : IntKind.u64.wrap ((p : Int).tmod 8) = ((p % 8 : Nat) : Int) := by
    rw [Int.tmod_eq_emod_of_nonneg (by omega), IntWalk.u64_in _ (by omega)]; rfl
  dsimp only
  rw [hdiv]
  have hpl : p / 8 < b.length := by omega
  have hgb : (([] : List UInt8).drop 0 |>.take 0) ++ b = b := rfl
  have hge : b[(0 + (((p / 8 : Nat) : Int)).toNat)]? = some b[p / 8] := by rw [Nat.zero_add, Int.toNat_natCast, List.getElem?_eq_getElem hpl]
  rw [hgb]
  refine iteT (by omega) (bindS hge (iteF (by rw [hm]; omega) (iteT (by omega) (bindS hge (bindS (turn_byte _ p) ?_)))))
  have hflip : b.set (0 + (((p / 8 : Nat) : Int)).toNat) (UInt8.ofNat (b[p / 8].toNat ^^^ 2 ^ (p % 8))) = Crc.flip b p := by
    unfold Crc.flip
    rw [Nat.zero_add, Int.toNat_natCast]
    congr 3
    simp [List.getD_eq_getElem?_getD, List.getElem?_eq_getElem hpl]
  rw [hflip]
  obtain ⟨x, n, g1, g2⟩ := getAll_flip ok j1 j2 j3
  rw [hb] at g1
  have hfl : (Crc.flip b p).length = b.length := Crc.flip_length _ _
  have hget3 := Get_p (b := Crc.flip b p) (by omega)
  rw [g1] at hget3
  dsimp only at hget3
  rw [List.map_append, ← List.map_take, List.map_map, show (x0.take j).map (toD ∘ fr) = x0.take j from List.map_id'' (fun _ => rfl) _] at hget3
  have hf : frame_Get_f (0 + b.length) (Crc.flip b p) = some ((x0.take j ++ x.map toD, (((codes ((x0.map fr).take j)).length + n : Nat) : Int), ()), ((), ((), ()))) := by
    unfold frame_Get_f
    rw [if_pos ⟨by omega, by omega⟩, Nat.zero_add, List.take_of_length_le (by omega), hget3, List.map_take]
    rfl
  refine bindS hf ?_
  have hjt : (x0.take j).length = j := by rw [List.length_take]; omega
  have hzl : (x0.take j ++ x.map toD).length = j + x.length := by rw [List.length_append, hjt, List.length_map]
  dsimp only
  refine condF (dF (by rw [hzl]; omega)) (iteT (by rw [hzl]; omega) (iteT (by omega) ?_))
  have hy2 : ((x0.take j ++ x.map toD).drop (((0 : Int) : Int)).toNat).take (((j : Int)).toNat - (((0 : Int) : Int)).toNat) = x0.take j := by
    rw [show (((j : Int)).toNat - (((0 : Int) : Int)).toNat) = (x0.take j).length from by rw [hjt]; omega]
    exact List.take_left
  have hz2 : (x0.drop (((0 : Int) : Int)).toNat).take (((j : Int)).toNat - (((0 : Int) : Int)).toNat) = x0.take j := by simp
  rw [hy2, hz2]
  refine bindS (hEq j) (condF rfl ?_)
  rw [w64 (n := ((p / 8 : Nat) : Int) - ((codes ((x0.map fr).take j)).length : Int)) (by omega)]
  by_cases h4 : p / 8 - (codes ((x0.map fr).take j)).length < 4
  · exact condT (dT (by omega)) rfl
  · obtain ⟨rfl, rfl⟩ := g2 (by omega)
    refine condF (dF (by omega)) (condT (dT (by rw [hzl]; simp)) ?_)
    simp
end Go.Proofs.Ytklmbkkeiihgdaa
