/- Frames, plainly: cut anywhere; one bit turned. -/
import Derived.Test.YtklmbkkeiihgdaaFrp
import Derived.Test.YtklmbkkeiihgdaaTurn
namespace Go.Proofs.Ytklmbkkeiihgdaa
open Crc (one_turned flip_length)
set_option linter.unusedSimpArgs false
set_option linter.unusedVariables false
theorem code_form (f : Fr) : code f = le4 f.2.length ++ (UInt8.ofNat f.1.toNat :: (le4 (crcOf f) ++ f.2)) := by simp [code, hd]
theorem nextFr_short {f : Fr} (h : okFr f) {m : Nat} (hm : m < (code f).length) : nextFr ((code f).take m) = none := by
  rw [code_length] at hm
  have hl : ((code f).take m).length = m := by rw [List.length_take, code_length]; omega
  unfold nextFr
  by_cases h9 : m < 9
  · rw [if_pos (by omega)]
  · rw [if_neg (by omega)]
    have hn : num ((code f).take m) 0 = f.2.length := by
      unfold num
      rw [List.drop_zero, code_form, List.take_append, List.take_of_length_le (by rw [le4_length]; omega)]
      exact num_le4 (by have := h.2.2; omega) _
    rw [hn, if_pos (.inr (by omega))]
theorem codes_split (l : List Fr) (i : Nat) : codes l = codes (l.take i) ++ codes (l.drop i) := by rw [← codes_append, List.take_append_drop]
theorem ok_take {l : List Fr} (h : ∀ f ∈ l, okFr f) (i : Nat) : ∀ f ∈ l.take i, okFr f := fun f hf => h f (List.mem_of_mem_take hf)
theorem getAll_cut {l : List Fr} (h : ∀ f ∈ l, okFr f) {i k : Nat} (h1 : (codes (l.take i)).length ≤ k) (h2 : l.length ≤ i ∨ ∃ hi : i < l.length, k < (codes (l.take i)).length + (code l[i]).length) : getAll ((codes l).take k) = (l.take i, (codes (l.take i)).length) := by
  have hp : nextFr ((codes (l.drop i)).take (k - (codes (l.take i)).length)) = none := by
    rcases h2 with h2 | ⟨hi, h2⟩
    · rw [List.drop_of_length_le h2, show codes [] = [] from rfl, List.take_nil]
      unfold nextFr
      rw [if_pos (by simp)]
    · rw [List.drop_eq_getElem_cons hi, codes_cons, List.take_append_of_le_length (by omega)]
      exact nextFr_short (h _ (List.getElem_mem hi)) (by omega)
  rw [codes_split l i, List.take_append, List.take_of_length_le h1, getAll_codes _ (ok_take h i), getAll_none hp]
  simp
theorem flip_left {a b : List UInt8} {p : Nat} (h : p / 8 < a.length) : Crc.flip (a ++ b) p = Crc.flip a p ++ b := by
  unfold Crc.flip
  rw [List.set_append_left _ _ h]
  congr 3
  simp [List.getD_eq_getElem?_getD, List.getElem?_append_left h]
theorem flip_right {a b : List UInt8} {p : Nat} (h : a.length ≤ p / 8) : Crc.flip (a ++ b) p = a ++ Crc.flip b (p - 8 * a.length) := by
  have e1 : (p - 8 * a.length) / 8 = p / 8 - a.length := by omega
  have e2 : (p - 8 * a.length) % 8 = p % 8 := by omega
  unfold Crc.flip
  rw [List.set_append_right _ _ h, e1, e2]
  congr 3
  simp [List.getD_eq_getElem?_getD, List.getElem?_append_right h]
theorem flip_ne {l : List UInt8} {p : Nat} (h : p < 8 * l.length) : Crc.flip l p ≠ l := fun e => one_turned l p h (by rw [e])
/-- A frame in which a bit behind its first four bytes is turned is none. -/
theorem nextFr_flip {f : Fr} (h : okFr f) {p : Nat} (h1 : 4 ≤ p / 8) (h2 : p / 8 < (code f).length) (r : List UInt8) : nextFr (Crc.flip (code f) p ++ r) = none := by
  have hlen := h.2.2
  have hcl := code_length f
  have hql : (Crc.flip (code f) p ++ r).length = 9 + f.2.length + r.length := by rw [List.length_append, flip_length, hcl]
  have hn : num (Crc.flip (code f) p ++ r) 0 = f.2.length := by
    unfold num
    rw [List.drop_zero, code_form, flip_right (by rw [le4_length]; exact h1), List.append_assoc]
    exact num_le4 (by omega) _
  unfold nextFr
  rw [if_neg (by omega), hn, if_neg (by omega), if_neg]
  by_cases h9 : p / 8 < 5 ∨ 9 ≤ p / 8
  · -- what the sum is of
    have key : ∃ q, q < 8 * (hd f ++ f.2).length ∧ (Crc.flip (code f) p ++ r).take 5 ++ ((Crc.flip (code f) p ++ r).drop 9).take f.2.length = Crc.flip (hd f ++ f.2) q ∧ num (Crc.flip (code f) p ++ r) 5 = crcOf f := by
      rcases h9 with h9 | h9
      · have e : Crc.flip (code f) p = Crc.flip (hd f) p ++ (le4 (crcOf f) ++ f.2) := by
          unfold code
          rw [flip_left (by rw [hd_length]; exact h9)]
        have hfl : (Crc.flip (hd f) p).length = 5 := by rw [flip_length, hd_length]
        refine ⟨p, by rw [List.length_append, hd_length]; omega, ?_, ?_⟩
        · rw [flip_left (by rw [hd_length]; exact h9), e, List.append_assoc, List.take_append_of_le_length (by omega), List.take_of_length_le (by omega)]
          congr 1
          rw [show 9 = (Crc.flip (hd f) p).length + 4 from by omega, ← List.drop_drop, List.drop_left, List.append_assoc]
          rw [show (4 : Nat) = (le4 (crcOf f)).length from rfl, List.drop_left, List.take_left]
        · unfold num
          rw [e, List.append_assoc, show 5 = (Crc.flip (hd f) p).length from hfl.symm, List.drop_left, List.append_assoc]
          exact num_le4 (crcOf_lt f) _
      · have e : Crc.flip (code f) p = hd f ++ (le4 (crcOf f) ++ Crc.flip f.2 (p - 72)) := by
          unfold code
          rw [flip_right (by rw [hd_length]; omega), flip_right (by rw [le4_length, hd_length]; omega)]
          rw [hd_length, le4_length]
          congr 3
        have hfl : (Crc.flip f.2 (p - 72)).length = f.2.length := flip_length _ _
        refine ⟨p - 32, by rw [List.length_append, hd_length]; omega, ?_, ?_⟩
        · rw [flip_right (by rw [hd_length]; omega), e, List.append_assoc, List.take_append_of_le_length (by rw [hd_length]; omega), List.take_of_length_le (by rw [hd_length]; omega), hd_length]
          congr 1
          rw [show (9 : Nat) = (hd f).length + 4 from rfl, ← List.drop_drop, List.drop_left, List.append_assoc]
          rw [show (4 : Nat) = (le4 (crcOf f)).length from rfl, List.drop_left, List.take_append_of_le_length (by omega), List.take_of_length_le (by omega)]
          congr 1
        · unfold num
          rw [e, List.append_assoc, show (5 : Nat) = (hd f).length from rfl, List.drop_left, List.append_assoc]
          exact num_le4 (crcOf_lt f) _
    obtain ⟨q, k1, k2, k3⟩ := key
    rw [k2, k3]
    intro hc
    exact one_turned _ q k1 (BitVec.eq_of_toNat_eq hc.symm)
  · -- the sum itself
    have hp : (p - 40) / 8 < 4 := by omega
    have e : Crc.flip (code f) p = hd f ++ (Crc.flip (le4 (crcOf f)) (p - 40) ++ f.2) := by
      unfold code
      rw [flip_right (by rw [hd_length]; omega), hd_length, flip_left (by rw [le4_length]; omega)]
    have hfl : (Crc.flip (le4 (crcOf f)) (p - 40)).length = 4 := by rw [flip_length, le4_length]
    have k2 : (Crc.flip (code f) p ++ r).take 5 ++ ((Crc.flip (code f) p ++ r).drop 9).take f.2.length = hd f ++ f.2 := by
      rw [e, List.append_assoc, List.take_append_of_le_length (by rw [hd_length]; omega), List.take_of_length_le (by rw [hd_length]; omega)]
      congr 1
      rw [show (9 : Nat) = (hd f).length + 4 from rfl, ← List.drop_drop, List.drop_left, List.append_assoc]
      rw [show 4 = (Crc.flip (le4 (crcOf f)) (p - 40)).length from hfl.symm, List.drop_left, List.take_left]
    rw [k2]
    intro hc
    have h5 : num (Crc.flip (code f) p ++ r) 5 = numN (Crc.flip (le4 (crcOf f)) (p - 40) ++ (f.2 ++ r)) 4 := by
      unfold num
      rw [e, List.append_assoc, show (5 : Nat) = (hd f).length from rfl, List.drop_left, List.append_assoc]
    rw [h5] at hc
    have h6 := le4_num (l := Crc.flip (le4 (crcOf f)) (p - 40) ++ (f.2 ++ r)) (by rw [List.length_append]; omega)
    rw [hc, List.take_append_of_le_length (by omega), List.take_of_length_le (by omega)] at h6
    exact flip_ne (l := le4 (crcOf f)) (p := p - 40) (by rw [le4_length]; omega) h6.symm
/-- A bit turned: the frames ahead of it are got, and, unless it is one of the four bytes that tell how many there are, no more. -/
theorem getAll_flip {l : List Fr} (h : ∀ f ∈ l, okFr f) {i p : Nat} (hi : i < l.length) (h1 : (codes (l.take i)).length ≤ p / 8) (h2 : p / 8 < (codes (l.take i)).length + (code l[i]).length) :
    ∃ x n, getAll (Crc.flip (codes l) p) = (l.take i ++ x, (codes (l.take i)).length + n) ∧ (4 ≤ p / 8 - (codes (l.take i)).length → x = [] ∧ n = 0) := by
  have e : Crc.flip (codes l) p = codes (l.take i) ++ (Crc.flip (code l[i]) (p - 8 * (codes (l.take i)).length) ++ codes (l.drop (i + 1))) := by
    rw [codes_split l i, flip_right h1, List.drop_eq_getElem_cons hi, codes_cons, flip_left (by omega)]
  rw [e, getAll_codes _ (ok_take h i)]
  refine ⟨_, _, rfl, fun h4 => ?_⟩
  rw [getAll_none (nextFr_flip (h _ (List.getElem_mem hi)) (by omega) (by omega) _)]
  exact ⟨rfl, rfl⟩
end Go.Proofs.Ytklmbkkeiihgdaa
