/- Plain mathematics: which turned bits a CRC-32 tells: one, two at most 32767 bits apart, any within 32. -/
import Derived.Test.YtklmbkkeiihgdaaCrc
import Derived.KernelRfl
namespace Go.Proofs.Ytklmbkkeiihgdaa
namespace Crc
def bitV (x : Bool) : BitVec 32 := if x then 1#32 else 0#32
/-- Bits fed, one behind the other. -/
def R (β : Nat → Bool) (r : BitVec 32) : Nat → BitVec 32
  | 0 => r
  | n + 1 => step (R β r n ^^^ bitV (β n))
theorem bitV_xor (x y : Bool) : bitV x ^^^ bitV y = bitV (x ^^ y) := by cases x <;> cases y <;> decide
theorem R_xor (β γ : Nat → Bool) (r s : BitVec 32) (n : Nat) : R β r n ^^^ R γ s n = R (fun i => β i ^^ γ i) (r ^^^ s) n := by
  induction n with
  | zero => rfl
  | succ n ih =>
    simp only [R]
    rw [← step_xor, ← ih, ← bitV_xor]
    congr 1
    simp only [BitVec.xor_assoc]
    congr 1
    rw [← BitVec.xor_assoc, BitVec.xor_comm (bitV (β n)), BitVec.xor_assoc]
theorem R_congr {β γ : Nat → Bool} (r : BitVec 32) (n : Nat) (h : ∀ i, i < n → β i = γ i) : R β r n = R γ r n := by
  induction n with
  | zero => rfl
  | succ n ih => simp only [R]; rw [ih fun i hi => h i (by omega), h n (by omega)]
/-- The bits of bytes. -/
def βof (l : List UInt8) (p : Nat) : Bool := (l.getD (p / 8) 0).toNat.testBit (p % 8)
theorem R_byte (l : List UInt8) (r : BitVec 32) (m : Nat) (hm : m < l.length) (i : Nat) (hi : i ≤ 8) : R (βof l) r (8 * m + i) = bits (R (βof l) r (8 * m)) l[m] i := by
  induction i with
  | zero => rfl
  | succ i ih =>
    rw [← Nat.add_assoc]
    simp only [R, bits]
    rw [ih (by omega)]
    have hb : bitV (βof l (8 * m + i)) = bitAt l[m] i := by
      unfold βof bitV bitAt
      rw [show (8 * m + i) / 8 = m from by omega, show (8 * m + i) % 8 = i from by omega]
      simp [hm]
    rw [hb, bit_eq]
    unfold bitAt
    split <;> simp
theorem R_take (l : List UInt8) (r : BitVec 32) (m : Nat) (hm : m ≤ l.length) : R (βof l) r (8 * m) = feeds r (l.take m) := by
  induction m with
  | zero => simp [R, feeds]
  | succ m ih =>
    rw [show 8 * (m + 1) = 8 * m + 8 from by omega, R_byte l r m (by omega) 8 (by omega), ih (by omega), bits_feed, List.take_succ_eq_append_getElem (by omega), feeds_snoc]
theorem R_feeds (l : List UInt8) (r : BitVec 32) : R (βof l) r (8 * l.length) = feeds r l := by
  rw [R_take l r l.length (Nat.le_refl _), List.take_length]
/-- Two lists of one length with one sum: the bits in which they part, fed into nothing, leave nothing. -/
theorem same_sum {l l' : List UInt8} (hl : l'.length = l.length) (h : more 0#32 l' = more 0#32 l) : R (fun i => βof l' i ^^ βof l i) 0#32 (8 * l.length) = 0#32 := by
  have h1 : feeds (~~~ 0#32) l' = feeds (~~~ 0#32) l := by
    have := congrArg (fun x => ~~~ x) h
    simpa [more] using this
  have := R_xor (βof l') (βof l) (~~~ 0#32) (~~~ 0#32) (8 * l.length)
  rw [BitVec.xor_self, R_feeds, ← hl, R_feeds, h1, BitVec.xor_self, hl] at this
  exact this.symm

theorem step_eq_zero (x : BitVec 32) (h : step x = 0#32) : x = 0#32 := by
  apply BitVec.eq_of_getLsbD_eq
  intro i hi
  have h0 : x.getLsbD 0 = false := by
    cases hx : x.getLsbD 0
    · rfl
    · have h31 := congrArg (fun y => y.getLsbD 31) h
      simp [step, hx, poly] at h31
  rw [step_even x h0] at h
  cases i with
  | zero => simpa using h0
  | succ i =>
    have := congrArg (fun y => y.getLsbD i) h
    simp only [BitVec.getLsbD_ushiftRight] at this
    rw [Nat.add_comm] at this
    simpa using this
theorem steps_eq_zero (n : Nat) (x : BitVec 32) (h : steps n x = 0#32) : x = 0#32 := by
  induction n generalizing x with
  | zero => exact h
  | succ n ih => exact step_eq_zero x (ih _ h)
theorem step_inj (x y : BitVec 32) (h : step x = step y) : x = y := by
  have : step (x ^^^ y) = 0#32 := by rw [step_xor, h, BitVec.xor_self]
  have := step_eq_zero _ this
  have h2 := congrArg (fun z => z ^^^ y) this
  simpa [BitVec.xor_assoc] using h2
theorem R_zeros (e : Nat → Bool) (r : BitVec 32) (a j : Nat) (h : ∀ i, a ≤ i → i < a + j → e i = false) : R e r (a + j) = steps j (R e r a) := by
  induction j with
  | zero => rfl
  | succ j ih =>
    rw [← Nat.add_assoc]
    simp only [R]
    rw [ih fun i h1 h2 => h i h1 (by omega), h (a + j) (by omega) (by omega), steps_succ']
    simp [bitV]
theorem R_none (e : Nat → Bool) (k : Nat) (h : ∀ i, i < k → e i = false) : R e 0#32 k = 0#32 := by
  have := R_zeros e 0#32 0 k (fun i _ hi => h i (by omega))
  rw [Nat.zero_add] at this
  rw [this]
  exact steps_zero k

/-- The bits from k on, as a number. -/
def W (e : Nat → Bool) (k : Nat) : Nat → BitVec 32
  | 0 => 0#32
  | i + 1 => W e k i ^^^ (bitV (e (k + i)) <<< i)
theorem W_bit (e : Nat → Bool) (k i : Nat) (hi : i ≤ 32) (j : Nat) (hj : j < 32) : (W e k i).getLsbD j = (decide (j < i) && e (k + j)) := by
  induction i with
  | zero => simp [W]
  | succ i ih =>
    rw [W, BitVec.getLsbD_xor, ih (by omega), BitVec.getLsbD_shiftLeft]
    by_cases h1 : j < i
    · simp [h1, show j < i + 1 from by omega]
    · by_cases h2 : j = i
      · subst h2
        cases h : e (k + j) <;> simp [bitV, hj]
      · have h3 : ¬ j < i + 1 := by omega
        cases h : e (k + i)
        · simp [bitV, h1, h3]
        · simp only [bitV, h1, h3, decide_false, Bool.false_and, if_true, Bool.false_xor]
          rw [show j - i = (j - i - 1) + 1 from by omega]
          simp
theorem R_window (e : Nat → Bool) (k i : Nat) (hi : i ≤ 32) (h0 : R e 0#32 k = 0#32) : R e 0#32 (k + i) = steps i (W e k i) := by
  induction i with
  | zero => simpa [steps, W] using h0
  | succ i ih =>
    rw [← Nat.add_assoc]
    simp only [R]
    rw [ih (by omega), W, steps_succ', steps_xor i (W e k i)]
    congr 2
    rw [steps_shift i]
    · cases e (k + i)
      · simp [bitV]
      · apply BitVec.eq_of_getLsbD_eq
        intro j hj
        simp only [bitV, if_true, BitVec.getLsbD_ushiftRight, BitVec.getLsbD_shiftLeft]
        by_cases h8 : i + j < 32
        · simp [h8]
        · have hj0 : j ≠ 0 := by omega
          rw [show j = (j - 1) + 1 from by omega]
          simp
    · intro j hj
      simp [BitVec.getLsbD_shiftLeft, hj]
/-- Any bits within 32, at least one. -/
theorem R_burst (e : Nat → Bool) (k n q : Nat) (hq : k ≤ q) (hq2 : q < k + 32) (hqn : q < n) (he : e q = true) (hout : ∀ i, i < n → (i < k ∨ k + 32 ≤ i) → e i = false) : R e 0#32 n ≠ 0#32 := by
  intro h
  have h0 : R e 0#32 k = 0#32 := R_none e k fun i hi => hout i (by omega) (.inl hi)
  have hw : ∀ m, m ≤ 32 → q < k + m → W e k m ≠ 0#32 := by
    intro m hm hqm hz
    have := W_bit e k m hm (q - k) (by omega)
    rw [hz, show k + (q - k) = q from by omega, he] at this
    simp at this
    omega
  by_cases hn : n ≤ k + 32
  · have := R_window e k (n - k) (by omega) h0
    rw [show k + (n - k) = n from by omega, h] at this
    exact hw (n - k) (by omega) (by omega) (steps_eq_zero _ _ this.symm)
  · have h1 := R_window e k 32 (by omega) h0
    have h2 := R_zeros e 0#32 (k + 32) (n - (k + 32)) (fun i hi hi2 => hout i (by omega) (.inr hi))
    rw [show k + 32 + (n - (k + 32)) = n from by omega, h] at h2
    have h3 := steps_eq_zero _ _ h2.symm
    rw [h1] at h3
    exact hw 32 (by omega) (by omega) (steps_eq_zero _ _ h3)

/-! ### the order of one bit -/
def stepN (x : Nat) : Nat := if x % 2 = 1 then x / 2 ^^^ 3988292384 else x / 2
theorem step_nat (x : BitVec 32) : (step x).toNat = stepN x.toNat := by
  unfold step stepN
  rw [BitVec.toNat_xor, BitVec.toNat_ushiftRight, Nat.shiftRight_eq_div_pow]
  have h : x.getLsbD 0 = decide (x.toNat % 2 = 1) := by
    rw [← BitVec.testBit_toNat, Nat.testBit_zero]
  rw [h]
  by_cases h2 : x.toNat % 2 = 1 <;> simp [h2, poly]
def run : Nat → Nat → Nat
  | 0, x => x
  | k + 1, x => match stepN x with
    | 0 => 0
    | 1 => 0
    | y + 2 => run k (y + 2)
theorem run_some : ∀ (k : Nat) (x : BitVec 32), run k x.toNat ≠ 0 → ∀ d, 1 ≤ d → d ≤ k → steps d x ≠ 1#32
  | 0, x, _, d, h1, h2 => by omega
  | k + 1, x, h, d, h1, h2 => by
    unfold run at h
    rw [← step_nat] at h
    split at h
    · exact absurd rfl h
    · exact absurd rfl h
    · next y hy =>
      have h' : run k (step x).toNat ≠ 0 := by rw [hy]; exact h
      cases d with
      | zero => omega
      | succ d =>
        rw [steps]
        rcases Nat.eq_zero_or_pos d with rfl | hd
        · intro he
          rw [steps] at he
          rw [he] at hy
          have : (1#32).toNat = 1 := rfl
          omega
        · exact run_some k (step x) h' d hd (by omega)
def runB (n x : Nat) : Bool := (run n x).beq 0
theorem runB_ : runB 32767 1 = false := by kernel_rfl
theorem order (d : Nat) (h1 : 1 ≤ d) (h2 : d ≤ 32767) : steps d 1#32 ≠ 1#32 := by
  refine run_some 32767 1#32 ?_ d h1 h2
  intro h
  have := runB_
  unfold runB at this
  have h3 : (1#32).toNat = 1 := rfl
  rw [h3] at h
  rw [h] at this
  cases this
/-- Two bits at most 32767 apart. -/
theorem R_two (e : Nat → Bool) (k m n : Nat) (hkm : k < m) (hd : m - k ≤ 32767) (hmn : m < n) (hk : e k = true) (hm : e m = true) (hout : ∀ i, i < n → i ≠ k → i ≠ m → e i = false) : R e 0#32 n ≠ 0#32 := by
  intro h
  have h0 : R e 0#32 k = 0#32 := R_none e k fun i hi => hout i (by omega) (by omega) (by omega)
  have h1 : R e 0#32 (k + 1) = steps 1 1#32 := by simp only [R]; rw [h0, hk]; rfl
  have h2 := R_zeros e 0#32 (k + 1) (m - (k + 1)) (fun i hi hi2 => hout i (by omega) (by omega) (by omega))
  rw [show k + 1 + (m - (k + 1)) = m from by omega, h1, ← steps_add, show 1 + (m - (k + 1)) = m - k from by omega] at h2
  have h3 : R e 0#32 (m + 1) = step (steps (m - k) 1#32 ^^^ 1#32) := by simp only [R]; rw [h2, hm]; rfl
  have h4 := R_zeros e 0#32 (m + 1) (n - (m + 1)) (fun i hi hi2 => hout i (by omega) (by omega) (by omega))
  rw [show m + 1 + (n - (m + 1)) = n from by omega, h, h3] at h4
  have h5 := step_eq_zero _ (steps_eq_zero _ _ h4.symm)
  have h6 := congrArg (fun z => z ^^^ 1#32) h5
  rw [BitVec.xor_assoc, BitVec.xor_self] at h6
  exact order (m - k) (by omega) hd (by simpa using h6)

/-! ### a bit of bytes is turned -/
def flip (l : List UInt8) (p : Nat) : List UInt8 := l.set (p / 8) (UInt8.ofNat ((l.getD (p / 8) 0).toNat ^^^ 2 ^ (p % 8)))
theorem flip_length (l : List UInt8) (p : Nat) : (flip l p).length = l.length := by simp [flip]
theorem flip_byte (b : UInt8) (j : Nat) (hj : j < 8) : (UInt8.ofNat (b.toNat ^^^ 2 ^ j)).toNat = b.toNat ^^^ 2 ^ j := by
  have h1 : 2 ^ j < 2 ^ 8 := Nat.pow_lt_pow_right (by omega) hj
  have := Nat.xor_lt_two_pow (n := 8) b.toNat_lt h1
  rw [UInt8.toNat_ofNat']
  exact Nat.mod_eq_of_lt this
theorem flip_bit (l : List UInt8) (p : Nat) (hp : p < 8 * l.length) (i : Nat) : βof (flip l p) i = (βof l i ^^ decide (i = p)) := by
  unfold βof flip
  by_cases h8 : i / 8 = p / 8
  · rw [h8]
    have hlt : p / 8 < l.length := by omega
    rw [List.getD_eq_getElem?_getD, List.getElem?_set_self hlt, Option.getD_some, flip_byte _ _ (by omega), Nat.testBit_xor, Nat.testBit_two_pow]
    congr 1
    by_cases hi : i = p
    · subst hi; simp
    · have : p % 8 ≠ i % 8 := by omega
      simp [hi, this]
  · have hi : i ≠ p := by intro h; exact h8 (by rw [h])
    rw [List.getD_eq_getElem?_getD, List.getElem?_set_ne (by omega), ← List.getD_eq_getElem?_getD]
    simp [hi]
/-- ONE BIT, TWO BITS, A BURST: another sum. -/
theorem one_turned (l : List UInt8) (k : Nat) (hk : k < 8 * l.length) : more 0#32 (flip l k) ≠ more 0#32 l := by
  intro h
  refine R_burst _ k (8 * l.length) k (by omega) (by omega) hk ?_ ?_ (same_sum (flip_length l k) h)
  · simp [flip_bit l k hk]
  · intro i _ hi
    have : i ≠ k := by omega
    simp [flip_bit l k hk, this]
theorem two_turned (l : List UInt8) (k m : Nat) (hkm : k < m) (hd : m - k ≤ 32767) (hm : m < 8 * l.length) : more 0#32 (flip (flip l k) m) ≠ more 0#32 l := by
  intro h
  have hb : ∀ i, (βof (flip (flip l k) m) i ^^ βof l i) = (decide (i = k) ^^ decide (i = m)) := by
    intro i
    rw [flip_bit _ m (by rw [flip_length]; exact hm), flip_bit l k (by omega)]
    cases βof l i <;> simp
  refine R_two _ k m (8 * l.length) hkm hd hm ?_ ?_ ?_ (same_sum (by rw [flip_length, flip_length]) h)
  · simp only [hb]; simp; omega
  · simp only [hb]; simp; omega
  · intro i _ h1 h2
    simp only [hb]
    simp [h1, h2]
/-- What a burst has made of bytes: just the bits k + i with i below m, of which the word says so. -/
def burstOf (w : Nat) (l : List UInt8) (k : Nat) : Nat → List UInt8
  | 0 => l
  | i + 1 => if w.testBit i then flip (burstOf w l k i) (k + i) else burstOf w l k i
theorem burst_yes (w : Nat) (l : List UInt8) (k i : Nat) (h : w.testBit i = true) : burstOf w l k (i + 1) = flip (burstOf w l k i) (k + i) := by
  conv => lhs; unfold burstOf
  rw [if_pos h]
theorem burst_no (w : Nat) (l : List UInt8) (k i : Nat) (h : w.testBit i = false) : burstOf w l k (i + 1) = burstOf w l k i := by
  conv => lhs; unfold burstOf
  rw [if_neg (by rw [h]; simp)]
theorem burst_length (w : Nat) (l : List UInt8) (k i : Nat) : (burstOf w l k i).length = l.length := by
  induction i with
  | zero => rfl
  | succ i ih => unfold burstOf; split <;> simp [flip_length, ih]
theorem burst_bit (w : Nat) (l : List UInt8) (k m : Nat) (hm : k + m ≤ 8 * l.length) (i : Nat) : βof (burstOf w l k m) i = (βof l i ^^ (decide (k ≤ i ∧ i < k + m) && w.testBit (i - k))) := by
  induction m with
  | zero =>
    have : ¬ (k ≤ i ∧ i < k + 0) := by omega
    rw [decide_eq_false this]
    simp [burstOf]
  | succ m ih =>
    unfold burstOf
    split
    · next hw =>
      rw [flip_bit _ _ (by rw [burst_length]; omega), ih (by omega)]
      by_cases hi : i = k + m
      · subst hi
        have h1 : ¬ (k ≤ k + m ∧ k + m < k + m) := by omega
        have h2 : k ≤ k + m ∧ k + m < k + (m + 1) := by omega
        simp [h2, hw]
      · have h1 : (k ≤ i ∧ i < k + (m + 1)) ↔ (k ≤ i ∧ i < k + m) := by omega
        simp [hi, h1]
    · next hw =>
      rw [ih (by omega)]
      by_cases hi : i = k + m
      · subst hi
        simp [hw]
      · have h1 : (k ≤ i ∧ i < k + (m + 1)) ↔ (k ≤ i ∧ i < k + m) := by omega
        simp [h1]
theorem burst_turned (w : Nat) (l : List UInt8) (k m j : Nat) (hm : m ≤ 32) (hl : k + m ≤ 8 * l.length) (hj : j < m) (hw : w.testBit j = true) : more 0#32 (burstOf w l k m) ≠ more 0#32 l := by
  intro h
  have hb : ∀ i, (βof (burstOf w l k m) i ^^ βof l i) = (decide (k ≤ i ∧ i < k + m) && w.testBit (i - k)) := by
    intro i
    rw [burst_bit w l k m hl]
    cases βof l i <;> simp
  refine R_burst _ k (8 * l.length) (k + j) (by omega) (by omega) (by omega) ?_ ?_ (same_sum (burst_length w l k m) h)
  · simp only [hb]
    have : k ≤ k + j ∧ k + j < k + m := by omega
    simp [hw, hj]
  · intro i _ hi
    simp only [hb]
    have : ¬ (k ≤ i ∧ i < k + m) := by omega
    simp [this]
end Crc
end Go.Proofs.Ytklmbkkeiihgdaa
