/- A descriptor (chapter 16), as data: no program in sight. -/
namespace Go.Proofs.Ytkegljcndhckead.Ds
structure D where
  own : Bool
  wrap : Bool
  first : Bool
  last : Bool
  bad : Bool
  len : Int
  at_ : Int
  size : Int
  stamp : Int
deriving DecidableEq
def D.flag (d : D) : Nat → Bool
  | 0 => d.own
  | 1 => d.wrap
  | 2 => d.first
  | 3 => d.last
  | _ => d.bad
/-- The first k flags, as a number: the first one is the highest bit. -/
def D.high (d : D) : Nat → Nat
  | 0 => 0
  | k + 1 => 2 * d.high k + (d.flag k).toNat
def D.acc (d : D) (k : Nat) : Nat := 2 ^ (32 - k) * d.high k + d.len.toNat
def D.word (d : D) : Nat := d.acc 5
def D.may (d : D) : Bool := decide (0 ≤ d.len ∧ d.len ≤ 65535 ∧ 0 ≤ d.size ∧ d.size ≤ 65535)
def D.words (d : D) : List Int := [(d.word : Int), d.at_, d.size, d.stamp]
theorem high_lt (d : D) (k : Nat) : d.high k < 2 ^ k := by
  induction k with
  | zero => simp [D.high]
  | succ k ih => simp only [D.high, Nat.pow_succ]; have : (d.flag k).toNat ≤ 1 := Bool.toNat_le _; omega
theorem acc_zero (d : D) : d.acc 0 = d.len.toNat := by simp [D.acc, D.high]
theorem acc_off (d : D) (k : Nat) (hk : k < 5) (h : d.flag k = false) : d.acc (k + 1) = d.acc k := by
  simp only [D.acc, D.high, h, Bool.toNat_false, Nat.add_zero]
  rw [show 32 - k = (32 - (k + 1)) + 1 by omega, Nat.pow_succ, Nat.mul_assoc]
theorem acc_on (d : D) (k : Nat) (hk : k < 5) (h : d.flag k = true) : d.acc (k + 1) = d.acc k + 2 ^ (31 - k) := by
  simp only [D.acc, D.high, h, Bool.toNat_true]
  rw [show 32 - k = (32 - (k + 1)) + 1 by omega, Nat.pow_succ, show 31 - k = 32 - (k + 1) by omega, Nat.mul_add, Nat.mul_assoc]
  omega
theorem or_bit (a b i : Nat) (hb : b < 2 ^ i) : (2 ^ (i + 1) * a + b) ||| 2 ^ i = 2 ^ (i + 1) * a + b + 2 ^ i := by
  have h1 : b < 2 ^ (i + 1) := Nat.lt_trans hb (Nat.pow_lt_pow_right (by decide) (by omega))
  have h2 : 2 ^ i * 1 + b < 2 ^ (i + 1) := by rw [Nat.pow_succ]; omega
  calc (2 ^ (i + 1) * a + b) ||| 2 ^ i = (2 ^ (i + 1) * a ||| b) ||| 2 ^ i := by rw [Nat.two_pow_add_eq_or_of_lt h1]
    _ = 2 ^ (i + 1) * a ||| (2 ^ i * 1 ||| b) := by rw [Nat.or_assoc, Nat.or_comm b, Nat.mul_one]
    _ = 2 ^ (i + 1) * a ||| (2 ^ i * 1 + b) := by rw [Nat.two_pow_add_eq_or_of_lt hb]
    _ = 2 ^ (i + 1) * a + (2 ^ i * 1 + b) := by rw [Nat.two_pow_add_eq_or_of_lt h2]
    _ = 2 ^ (i + 1) * a + b + 2 ^ i := by omega
theorem acc_or (d : D) (k : Nat) (hk : k < 5) (hl : d.len.toNat < 65536) (h : d.flag k = true) : d.acc k ||| 2 ^ (31 - k) = d.acc (k + 1) := by
  have hp : 2 ^ 16 ≤ 2 ^ (31 - k) := Nat.pow_le_pow_right (by decide) (by omega)
  rw [acc_on d k hk h]
  unfold D.acc
  rw [show 32 - k = (31 - k) + 1 by omega]
  exact or_bit _ _ _ (by omega)
theorem acc_lt (d : D) (k : Nat) (hk : k ≤ 5) (hl : d.len.toNat < 65536) : d.acc k < 4294967296 := by
  have h := high_lt d k
  unfold D.acc
  have hp : 2 ^ 16 ≤ 2 ^ (32 - k) := Nat.pow_le_pow_right (by decide) (by omega)
  have e : 2 ^ (32 - k) * 2 ^ k = 4294967296 := by rw [← Nat.pow_add, show 32 - k + k = 32 by omega]
  have : 2 ^ (32 - k) * (d.high k + 1) ≤ 2 ^ (32 - k) * 2 ^ k := Nat.mul_le_mul_left _ h
  rw [Nat.mul_add, e] at this
  omega
end Go.Proofs.Ytkegljcndhckead.Ds
namespace Go.Proofs.Ytkegljcndhckead.Ds
theorem xor_high (h k l : Nat) (hl : l < 2 ^ 27) : (2 ^ 27 * h + l) ^^^ (2 ^ 27 * k + l) = 2 ^ 27 * (h ^^^ k) := by
  have e1 : ((2 ^ 27 * h + l) ^^^ (2 ^ 27 * k + l)) / 2 ^ 27 = h ^^^ k := by
    rw [Nat.xor_div_two_pow]
    congr 1 <;> omega
  have e2 : ((2 ^ 27 * h + l) ^^^ (2 ^ 27 * k + l)) % 2 ^ 27 = 0 := by
    rw [Nat.xor_mod_two_pow, show (2 ^ 27 * h + l) % 2 ^ 27 = l by omega, show (2 ^ 27 * k + l) % 2 ^ 27 = l by omega, Nat.xor_self]
  omega
theorem word_xor (d e : D) (hl : d.len.toNat < 65536) (h : e.len = d.len) : d.word ^^^ e.word = 2 ^ 27 * (d.high 5 ^^^ e.high 5) := by
  unfold D.word D.acc
  rw [h]
  exact xor_high _ _ _ (by omega)
def D.flip (d : D) : Nat → D
  | 0 => { d with own := !d.own }
  | 1 => { d with wrap := !d.wrap }
  | 2 => { d with first := !d.first }
  | 3 => { d with last := !d.last }
  | _ => { d with bad := !d.bad }
theorem flip_xor (d : D) (j : Nat) (hj : j < 5) (hl : d.len.toNat < 65536) : d.word ^^^ (d.flip j).word = 2147483648 / 2 ^ j := by
  rw [word_xor d _ hl (by unfold D.flip; split <;> rfl)]
  obtain ⟨own, wrap, first, last, bad, len, at_, size, stamp⟩ := d
  rcases (show j = 0 ∨ j = 1 ∨ j = 2 ∨ j = 3 ∨ j = 4 by omega) with rfl | rfl | rfl | rfl | rfl <;> cases own <;> cases wrap <;> cases first <;> cases last <;> cases bad <;> simp [D.high, D.flag, D.flip]
end Go.Proofs.Ytkegljcndhckead.Ds
namespace Go.Proofs.Ytkegljcndhckead.Ds
/-- Words as a descriptor. -/
def flagOf (w k : Nat) : Bool := w / 2 ^ (31 - k) % 2 == 1
def blank : D := ⟨false, false, false, false, false, 0, 0, 0, 0⟩
/-- The first k flags set. -/
def ofK (a b c d : Int) (k : Nat) : D :=
  ⟨decide (0 < k) && flagOf a.toNat 0, decide (1 < k) && flagOf a.toNat 1, decide (2 < k) && flagOf a.toNat 2, decide (3 < k) && flagOf a.toNat 3, decide (4 < k) && flagOf a.toNat 4, a % 65536, b, c, d⟩
def ofD (a b c d : Int) : D := ofK a b c d 5
/-- May words be one? -/
def ofOk : List Int → Bool
  | [a, _, c, _] => decide (c ≤ 65535 ∧ a.toNat / 65536 % 2048 = 0)
  | _ => false
def setF (d : D) (k : Nat) (v : Bool) : D :=
  match k with
  | 0 => { d with own := v }
  | 1 => { d with wrap := v }
  | 2 => { d with first := v }
  | 3 => { d with last := v }
  | _ => { d with bad := v }
theorem ofK_succ (a b c d : Int) (k : Nat) (hk : k < 5) : setF (ofK a b c d k) k (flagOf a.toNat k) = ofK a b c d (k + 1) := by
  rcases (show k = 0 ∨ k = 1 ∨ k = 2 ∨ k = 3 ∨ k = 4 by omega) with rfl | rfl | rfl | rfl | rfl <;> simp [setF, ofK]
end Go.Proofs.Ytkegljcndhckead.Ds
