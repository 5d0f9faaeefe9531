/- Plain laws on the bits of 32-bit words (chapter 1): no program in sight. -/
namespace Go.Proofs.Ytkegljcndhckead.Wd

/-- n ones from at on, in 32 bits. -/
def maskN (at_ n : Nat) : Nat := (2 ^ n - 1) % 4294967296 * 2 ^ at_ % 4294967296
def fieldN (w at_ n : Nat) : Nat := (w &&& maskN at_ n) / 2 ^ at_
def withN (w at_ n v : Nat) : Nat := (w &&& (4294967295 - maskN at_ n)) ||| (v * 2 ^ at_ % 4294967296 &&& maskN at_ n)
/-- The n lowest bits the other way round. -/
def revN (w : Nat) : Nat → Nat
  | 0 => 0
  | n + 1 => 2 * revN w n + w / 2 ^ n % 2
def fitsB (at_ n : Int) : Bool := decide (0 ≤ at_ ∧ 1 ≤ n ∧ n ≤ 32 ∧ at_ ≤ 32 - n)
theorem fits_nat {at_ n : Int} (h : fitsB at_ n = true) : 0 ≤ at_ ∧ 1 ≤ n ∧ n ≤ 32 ∧ at_ + n ≤ 32 := by
  simp [fitsB] at h; omega

theorem p32 : (4294967296 : Nat) = 2 ^ 32 := rfl
theorem testBit_maskN (at_ n i : Nat) (h : at_ + n ≤ 32) : (maskN at_ n).testBit i = (decide (at_ ≤ i) && decide (i < at_ + n)) := by
  unfold maskN
  rw [p32, Nat.testBit_mod_two_pow, Nat.testBit_mul_two_pow, Nat.testBit_mod_two_pow, Nat.testBit_two_pow_sub_one]
  rw [Bool.eq_iff_iff]; simp; omega
theorem maskN_lt (at_ n : Nat) : maskN at_ n < 4294967296 := Nat.mod_lt _ (by decide)
theorem testBit_not32 (x i : Nat) (h : x < 4294967296) : (4294967295 - x).testBit i = (decide (i < 32) && !x.testBit i) := by
  have := Nat.testBit_two_pow_sub_succ (x := x) (n := 32) h i
  have e : 2 ^ 32 - (x + 1) = 4294967295 - x := by omega
  rwa [e] at this
theorem testBit_ge32 {w i : Nat} (hw : w < 4294967296) (hi : 32 ≤ i) : w.testBit i = false :=
  Nat.testBit_lt_two_pow (Nat.lt_of_lt_of_le hw (Nat.pow_le_pow_right (by decide) hi : 2 ^ 32 ≤ 2 ^ i))
theorem testBit_fieldN (w at_ n i : Nat) (h : at_ + n ≤ 32) : (fieldN w at_ n).testBit i = (decide (i < n) && w.testBit (at_ + i)) := by
  unfold fieldN
  rw [Nat.testBit_div_two_pow, Nat.testBit_and, testBit_maskN _ _ _ h, Nat.add_comm i at_, Bool.and_comm]
  congr 1
  rw [Bool.eq_iff_iff]; simp
theorem testBit_withN (w at_ n v i : Nat) (h : at_ + n ≤ 32) (hw : w < 4294967296) :
    (withN w at_ n v).testBit i = if at_ ≤ i ∧ i < at_ + n then v.testBit (i - at_) else w.testBit i := by
  unfold withN
  rw [Nat.testBit_or, Nat.testBit_and, Nat.testBit_and, testBit_not32 _ _ (maskN_lt _ _), testBit_maskN _ _ _ h, p32, Nat.testBit_mod_two_pow, Nat.testBit_mul_two_pow]
  by_cases hi : i < 32
  · by_cases hc : at_ ≤ i ∧ i < at_ + n
    · simp [hc, hi]
    · rw [if_neg hc]
      have hm : (decide (at_ ≤ i) && decide (i < at_ + n)) = false := by simpa using hc
      rw [hm]; simp [hi]
  · have hc : ¬ (at_ ≤ i ∧ i < at_ + n) := by omega
    rw [if_neg hc]
    have hm : (decide (at_ ≤ i) && decide (i < at_ + n)) = false := by simpa using hc
    rw [hm, testBit_ge32 hw (by omega)]; simp
theorem fieldN_eq (w at_ n : Nat) (h : at_ + n ≤ 32) : fieldN w at_ n = w / 2 ^ at_ % 2 ^ n := by
  apply Nat.eq_of_testBit_eq; intro i
  rw [testBit_fieldN _ _ _ _ h, Nat.testBit_mod_two_pow, Nat.testBit_div_two_pow, Nat.add_comm]
theorem fieldN_lt (w at_ n : Nat) (h : at_ + n ≤ 32) : fieldN w at_ n < 2 ^ n := by
  rw [fieldN_eq _ _ _ h]; exact Nat.mod_lt _ (Nat.two_pow_pos _)
theorem fieldN_lt32 (w at_ n : Nat) (h : at_ + n ≤ 32) : fieldN w at_ n < 4294967296 :=
  Nat.lt_of_lt_of_le (fieldN_lt w at_ n h) (Nat.pow_le_pow_right (by decide) (by omega) : 2 ^ n ≤ 2 ^ 32)
theorem withN_lt (w at_ n v : Nat) (h : at_ + n ≤ 32) (hw : w < 4294967296) : withN w at_ n v < 4294967296 := by
  rw [p32]; apply Nat.lt_pow_two_of_testBit; intro i hi
  rw [testBit_withN _ _ _ _ _ h hw, if_neg (by omega), testBit_ge32 hw hi]
theorem revN_lt (w : Nat) : ∀ n, revN w n < 2 ^ n
  | 0 => by simp [revN]
  | n + 1 => by
    have := revN_lt w n
    have h2 : w / 2 ^ n % 2 < 2 := Nat.mod_lt _ (by decide)
    simp only [revN, Nat.pow_succ]; omega
theorem testBit_revN (w : Nat) : ∀ n i, (revN w n).testBit i = (decide (i < n) && w.testBit (n - 1 - i))
  | 0, i => by simp [revN]
  | n + 1, i => by
    simp only [revN]
    cases i with
    | zero =>
      rw [Nat.testBit_zero]
      have h2 : (2 * revN w n + w / 2 ^ n % 2) % 2 = w / 2 ^ n % 2 := by omega
      rw [h2]; simp [Nat.testBit_eq_decide_div_mod_eq]
    | succ i =>
      have h2 : (2 * revN w n + w / 2 ^ n % 2) / 2 = revN w n := by
        have : w / 2 ^ n % 2 < 2 := Nat.mod_lt _ (by decide)
        omega
      rw [Nat.testBit_succ, h2, testBit_revN w n i]
      have e : n + 1 - 1 - (i + 1) = n - 1 - i := by omega
      rw [e]
      congr 1
      rw [Bool.eq_iff_iff]; simp

/-- A bit. -/
def bitN (w i : Nat) : Nat := w / 2 ^ i % 2
theorem bitN_lt (w i : Nat) : bitN w i < 2 := Nat.mod_lt _ (by decide)
theorem bitN_ge {w i : Nat} (hw : w < 4294967296) (hi : 32 ≤ i) : bitN w i = 0 := by
  have h : w < 2 ^ i := Nat.lt_of_lt_of_le hw (Nat.pow_le_pow_right (by decide) hi : 2 ^ 32 ≤ 2 ^ i)
  simp [bitN, Nat.div_eq_of_lt h]
theorem mod_succ (x i : Nat) : x % 2 ^ (i + 1) = x % 2 ^ i + bitN x i * 2 ^ i := by
  unfold bitN
  rw [Nat.pow_succ, Nat.mod_mul, Nat.mul_comm]
/-- The reference's sums, part by part. -/
theorem field_step (w at_ i : Nat) : w / 2 ^ at_ % 2 ^ (i + 1) = w / 2 ^ at_ % 2 ^ i + bitN w (at_ + i) * 2 ^ i := by
  rw [mod_succ]
  congr 2
  unfold bitN
  rw [Nat.div_div_eq_div_mul, ← Nat.pow_add]
/-- The reference's With, its first i bits. -/
theorem with_step (w at_ n v i : Nat) (h : at_ + n ≤ 32) (hw : w < 4294967296) :
    withN w at_ n v % 2 ^ (i + 1) = withN w at_ n v % 2 ^ i + (if at_ ≤ i ∧ i < at_ + n then bitN v (i - at_) else bitN w i) * 2 ^ i := by
  rw [mod_succ]
  congr 2
  have e : ∀ x j, bitN x j = (x.testBit j).toNat := fun x j => by rw [Nat.testBit_eq_decide_div_mod_eq]; unfold bitN; have := Nat.mod_lt (x / 2 ^ j) (show 0 < 2 by decide); by_cases h : x / 2 ^ j % 2 = 1 <;> simp [h]; omega
  rw [e, testBit_withN _ _ _ _ _ h hw]
  split <;> rw [e]
theorem rev_step (w n i : Nat) (hi : i < n) : revN w (i + 1) * 2 ^ (n - (i + 1)) = revN w i * 2 ^ (n - i) + bitN w i * 2 ^ (n - 1 - i) := by
  have e1 : n - i = (n - (i + 1)) + 1 := by omega
  have e2 : n - 1 - i = n - (i + 1) := by omega
  rw [e1, e2, Nat.pow_succ]
  show (2 * revN w i + bitN w i) * _ = _
  rw [Nat.add_mul, ← Nat.mul_assoc, Nat.mul_comm 2, Nat.mul_assoc, Nat.mul_comm 2, ← Nat.mul_assoc]

/-! ### The laws -/
theorem put_read (w at_ n v : Nat) (h : at_ + n ≤ 32) (hw : w < 4294967296) : fieldN (withN w at_ n v) at_ n = fieldN v 0 n := by
  apply Nat.eq_of_testBit_eq; intro i
  rw [testBit_fieldN _ _ _ _ h, testBit_fieldN _ _ _ _ (by omega), testBit_withN _ _ _ _ _ h hw]
  by_cases hi : i < n
  · rw [if_pos (by omega), Nat.add_sub_cancel_left, Nat.zero_add]
  · simp [hi]
theorem put_apart (w at_ n v to m : Nat) (h : at_ + n ≤ 32) (h2 : to + m ≤ 32) (hw : w < 4294967296) (ha : to + m ≤ at_ ∨ at_ + n ≤ to) :
    fieldN (withN w at_ n v) to m = fieldN w to m := by
  apply Nat.eq_of_testBit_eq; intro i
  rw [testBit_fieldN _ _ _ _ h2, testBit_fieldN _ _ _ _ h2, testBit_withN _ _ _ _ _ h hw]
  by_cases hi : i < m
  · rw [if_neg (by omega)]
  · simp [hi]
theorem turn_turn (w k : Nat) (h : k ≤ 32) : revN (revN w k) k = fieldN w 0 k := by
  apply Nat.eq_of_testBit_eq; intro i
  rw [testBit_revN, testBit_revN, testBit_fieldN _ _ _ _ (by omega), Nat.zero_add]
  by_cases hi : i < k
  · have e : k - 1 - (k - 1 - i) = i := by omega
    have e2 : k - 1 - i < k := by omega
    simp [hi, e, e2]
  · simp [hi]
theorem turn_ends (w k : Nat) (h0 : 1 ≤ k) (h : k ≤ 32) : fieldN w 0 1 = fieldN (revN w k) (k - 1) 1 := by
  apply Nat.eq_of_testBit_eq; intro i
  rw [testBit_fieldN _ _ _ _ (by omega), testBit_fieldN _ _ _ _ (by omega), testBit_revN]
  by_cases hi : i < 1
  · obtain rfl : i = 0 := by omega
    have e : k - 1 < k := by omega
    simp [e]
  · simp [hi]
theorem share (w v k : Nat) (h0 : 1 ≤ k) (h : k ≤ 31) (hw : w < 4294967296) (hv : v < 4294967296) :
    withN (withN v 0 k (fieldN w 0 k)) k (32 - k) (fieldN w k (32 - k)) = w := by
  apply Nat.eq_of_testBit_eq; intro i
  rw [testBit_withN _ _ _ _ _ (by omega) (withN_lt _ _ _ _ (by omega) hv), testBit_withN _ _ _ _ _ (by omega) hv, testBit_fieldN _ _ _ _ (by omega), testBit_fieldN _ _ _ _ (by omega)]
  by_cases h1 : i < k
  · rw [if_neg (by omega), if_pos (by omega)]; simp [h1]
  · by_cases h2 : i < 32
    · rw [if_pos (by omega)]
      have e : k + (i - k) = i := by omega
      have e2 : i - k < 32 - k := by omega
      simp [e, e2]
    · rw [if_neg (by omega), if_neg (by omega), testBit_ge32 hw (by omega), testBit_ge32 hv (by omega)]
theorem field_all (w : Nat) (hw : w < 4294967296) : fieldN w 0 32 = w := by
  rw [fieldN_eq _ _ _ (by omega)]; simp; omega
theorem bits_with (w i : Nat) (hi : i < 32) : withN 0 i 1 (fieldN w i 1) = bitN w i * 2 ^ i := by
  apply Nat.eq_of_testBit_eq; intro j
  rw [testBit_withN _ _ _ _ _ (by omega) (by decide), Nat.testBit_mul_two_pow, testBit_fieldN _ _ _ _ (by omega)]
  by_cases h : j = i
  · subst h
    rw [if_pos (by omega)]
    simp [Nat.testBit_eq_decide_div_mod_eq, bitN]
  · rw [if_neg (by omega)]
    by_cases h2 : i ≤ j
    · have : (bitN w i).testBit (j - i) = false := Nat.testBit_lt_two_pow (Nat.lt_of_lt_of_le (bitN_lt w i) (Nat.pow_le_pow_right (by decide) (by omega) : 2 ^ 1 ≤ 2 ^ (j - i)))
      simp [this]
    · simp [h2]
theorem field_bit (w i : Nat) (hi : i < 32) : fieldN w i 1 = bitN w i := fieldN_eq w i 1 (by omega)
theorem sum_step (w i : Nat) (hi : i < 32) (hw : w < 4294967296) : (w % 2 ^ i + withN 0 i 1 (fieldN w i 1)) % 4294967296 = w % 2 ^ (i + 1) := by
  rw [bits_with _ _ hi, ← mod_succ]
  have : w % 2 ^ (i + 1) ≤ w := Nat.mod_le _ _
  omega
end Go.Proofs.Ytkegljcndhckead.Wd
