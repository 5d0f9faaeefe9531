import Derived.Test.YtkegljcndhckeacMPure
/- What a frame does to a slave: plain laws. -/
namespace Go.Proofs.Ytkegljcndhckeac.Md
theorem ones_idle (s : S) (h : s.ph = 0) (h0 : 0 ≤ s.ones ∧ s.ones ≤ 32) (k : Nat) : ones s k = { s with ones := min (s.ones + k) 32 } := by
  induction k with
  | zero =>
    obtain ⟨ph, regs, addr, on, bits, got, out, reg, to, v, took⟩ := s
    simp only [ones, S.mk.injEq, true_and, and_true] at *
    omega
  | succ k ih =>
    show clock (ones s k) 1 = _
    rw [ih]
    obtain ⟨ph, regs, addr, on, bits, got, out, reg, to, v, took⟩ := s
    simp only [clock, idle, if_true] at *
    rw [if_pos h]
    simp only [S.mk.injEq, true_and, and_true]
    omega
structure IsFrame (w op phy reg v : Nat) : Prop where
  eq : w = frameN op phy reg v
  op : op = 1 ∨ op = 2
  phy : phy < 32
  reg : reg < 32
  v : v < 65536
theorem IsFrame.lt {w op phy reg v : Nat} (h : IsFrame w op phy reg v) : w < 2147483648 := by
  obtain ⟨e, h1, h2, h3, h4⟩ := h
  subst e; unfold frameN; omega
theorem IsFrame.parts {w op phy reg v : Nat} (h : IsFrame w op phy reg v) : w / 1073741824 = 1 ∧ w / 268435456 % 4 = op ∧ w / 8388608 % 32 = phy ∧ w / 262144 % 32 = reg ∧ w % 65536 = v := by
  obtain ⟨e, h1, h2, h3, h4⟩ := h
  subst e; unfold frameN; omega
theorem half (w k : Nat) (h : k < 32) : w / 2 ^ (31 - k) = w / 2 ^ (32 - k) * 2 + w / 2 ^ (31 - k) % 2 := by
  rw [show 32 - k = (31 - k) + 1 by omega, Nat.pow_succ, ← Nat.div_div_eq_div_mul]
  omega
theorem low (w k j : Nat) (h : j ≤ k) (hk : k ≤ 32) : w / 2 ^ (32 - k) / 2 ^ (k - j) = w / 2 ^ (32 - j) := by
  rw [Nat.div_div_eq_div_mul, ← Nat.pow_add]
  congr 2; omega
theorem pushed (s : S) (w k : Nat) (hw : w < 4294967296) (hk : k < 32) (hg : s.got = w / 2 ^ (32 - k)) (hb : s.bits = k) :
    push s (w / 2 ^ (31 - k) % 2) = { s with got := w / 2 ^ (32 - (k + 1)), bits := ((k + 1 : Nat) : Int) } := by
  unfold push
  have h1 := half w k hk
  have h2 : w / 2 ^ (31 - k) ≤ w := Nat.div_le_self _ _
  rw [hg, hb, show 32 - (k + 1) = 31 - k by omega]
  congr 1
  · omega
/-- Up to the thirteenth bit. -/
theorem sends_head (s : S) (w op phy reg v : Nat) (hw : IsFrame w op phy reg v) (h0 : s.ph = 0) (h1 : s.ones = 32) (k : Nat) (hk : k < 13) :
    sends s w (k + 1) = ({ s with ph := 1, bits := ((k + 1 : Nat) : Int), got := w / 2 ^ (32 - (k + 1)) }, 2 ^ (k + 1) - 1) := by
  have hp := hw.parts
  have hlt := hw.lt
  induction k with
  | zero =>
    have e : w / 2 ^ 31 = 0 := Nat.div_eq_of_lt hlt
    simp only [sends, clock, told, Nat.sub_zero, e]
    rw [if_pos h0, if_neg (by omega)]
    unfold idle
    rw [if_neg (by decide), if_pos h1]
    simp [e]
  | succ k ih =>
    have ih := ih (by omega)
    rw [sends, ih]
    simp only [clock, told]
    rw [if_neg (by decide), if_pos trivial, if_neg (by decide)]
    have hpu := pushed { s with ph := 1, bits := ((k + 1 : Nat) : Int), got := w / 2 ^ (32 - (k + 1)) } w (k + 1) (by omega) (by omega) rfl rfl
    unfold head
    rw [hpu]
    have hend : endB { s with ph := 1, bits := ((k + 1 + 1 : Nat) : Int), got := w / 2 ^ (32 - (k + 1 + 1)) } (w / 2 ^ (31 - (k + 1)) % 2) = false := by
      unfold endB
      rw [decide_eq_false_iff_not]
      rintro (⟨a, b⟩ | ⟨a, b, c⟩)
      · have a : ((k + 1 + 1 : Nat) : Int) = 2 := a
        obtain rfl : k = 0 := by omega
        omega
      · have a : ((k + 1 + 1 : Nat) : Int) = 4 := a
        have b : w / 2 ^ (32 - (k + 1 + 1)) % 4 ≠ 1 := b
        have c : w / 2 ^ (32 - (k + 1 + 1)) % 4 ≠ 2 := c
        obtain rfl : k = 2 := by omega
        rcases hw.op with h | h <;> omega
    unfold head1
    simp only [hend]
    rw [if_neg (by decide), if_neg (by show ¬ ((k + 1 + 1 : Nat) : Int) = 14; omega)]
    have h13 : 2 ^ (k + 1) ≤ 2 ^ 12 := Nat.pow_le_pow_right (by decide) (by omega)
    have hpos : 0 < 2 ^ (k + 1) := Nat.pow_pos (by decide)
    congr 1
    show ((2 ^ (k + 1) - 1) * 2 + 1) % 65536 = 2 ^ (k + 1 + 1) - 1
    rw [Nat.pow_succ 2 (k + 1)]
    omega
/-- What is told at the bits behind. -/
def says (rd : Bool) (out : Int) (k : Nat) : Nat := if rd then out.toNat / 2 ^ (32 - k) else 2 ^ (k - 16) - 1
theorem sends_14 (s : S) (w op phy reg v : Nat) (hw : IsFrame w op phy reg v) (h0 : s.ph = 0) (h1 : s.ones = 32) :
    (sends s w 14).1 = { s with ph := 2, bits := 14, got := w / 2 ^ 18, reg := (reg : Int), out := s.regs.getD reg 0 } := by
  have hp := hw.parts
  have hlt := hw.lt
  rw [show (14 : Nat) = 13 + 1 by rfl, sends, show (13 : Nat) = 12 + 1 by rfl, sends_head s w op phy reg v hw h0 h1 12 (by omega)]
  simp only [clock]
  rw [if_neg (by decide), if_pos trivial]
  have hpu := pushed { s with ph := 1, bits := ((12 + 1 : Nat) : Int), got := w / 2 ^ (32 - (12 + 1)) } w (12 + 1) (by omega) (by omega) rfl rfl
  unfold head
  rw [hpu]
  have hend : endB { s with ph := 1, bits := ((12 + 1 + 1 : Nat) : Int), got := w / 2 ^ (32 - (12 + 1 + 1)) } (w / 2 ^ (31 - (12 + 1)) % 2) = false := by
    simp [endB]
  unfold head1
  simp only [hend]
  rw [if_neg (by decide), if_pos (by rfl)]
  have : w / 2 ^ (32 - (12 + 1 + 1)) % 32 = reg := by simp; omega
  rw [this]
  rfl
/-- From the fourteenth bit on: the state. -/
theorem sends_tail (s : S) (w op phy reg v : Nat) (hw : IsFrame w op phy reg v) (h0 : s.ph = 0) (h1 : s.ones = 32) (k : Nat) (h14 : 14 ≤ k) (hk : k < 32) :
    (sends s w k).1 = { s with ph := 2, bits := (k : Int), got := w / 2 ^ (32 - k), reg := (reg : Int), out := s.regs.getD reg 0 } := by
  obtain ⟨j, rfl⟩ : ∃ j, k = 14 + j := ⟨k - 14, by omega⟩
  clear h14
  induction j with
  | zero => exact sends_14 s w op phy reg v hw h0 h1
  | succ j ih =>
    have ih := ih (by omega)
    have hlt := hw.lt
    rw [← Nat.add_assoc, sends, ih]
    simp only [clock]
    rw [if_neg (by decide), if_neg (by decide)]
    have hpu := pushed { s with ph := 2, bits := ((14 + j : Nat) : Int), got := w / 2 ^ (32 - (14 + j)), reg := (reg : Int), out := s.regs.getD reg 0 } w (14 + j) (by omega) (by omega) rfl rfl
    unfold tail
    rw [hpu]
    unfold tail1
    rw [if_neg (by simp only; omega)]
/-- Whose the frame is, and whether it writes. -/
theorem own_at (s : S) (w op phy reg v k : Nat) (hw : IsFrame w op phy reg v) (hk : 14 ≤ k) (hk2 : k ≤ 32) (hg : s.got = w / 2 ^ (32 - k)) (hb : s.bits = k) :
    own s = decide ((phy : Int) = s.addr) ∧ writes s = decide (op = 1) := by
  have hp := hw.parts
  unfold own writes
  rw [hg, hb, show ((k : Int) - 9).toNat = k - 9 by omega, show ((k : Int) - 4).toNat = k - 4 by omega, low w k 9 (by omega) hk2, low w k 4 (by omega) hk2]
  simp only [Nat.reduceSub, Nat.reducePow]
  rw [hp.2.2.1, hp.2.1]
  exact ⟨rfl, rfl⟩
theorem told_at (s : S) (w op phy reg v : Nat) (hw : IsFrame w op phy reg v) (h0 : s.ph = 0) (h1 : s.ones = 32) (k : Nat) (h14 : 14 ≤ k) (hk : k < 32) :
    told (sends s w k).1 (w / 2 ^ (31 - k) % 2) = if (decide ((phy : Int) = s.addr) && !decide (op = 1) && decide (16 ≤ k + 1)) = true then (((s.regs.getD reg 0).toNat / 2 ^ (31 - k) % 2 : Nat) : Int) else 1 := by
  have hlt := hw.lt
  rw [sends_tail s w op phy reg v hw h0 h1 k h14 hk]
  unfold told
  rw [if_pos (by rfl), pushed { s with ph := 2, bits := (k : Int), got := w / 2 ^ (32 - k), reg := (reg : Int), out := s.regs.getD reg 0 } w k (by omega) hk rfl rfl]
  unfold outB
  obtain ⟨e1, e2⟩ := own_at { s with ph := 2, bits := ((k + 1 : Nat) : Int), got := w / 2 ^ (32 - (k + 1)), reg := (reg : Int), out := s.regs.getD reg 0 } w op phy reg v (k + 1) hw (by omega) (by omega) rfl rfl
  rw [e1, e2]
  have e3 : decide ((16 : Int) ≤ ((k + 1 : Nat) : Int)) = decide (16 ≤ k + 1) := by
    congr 1; exact propext ⟨fun h => by omega, fun h => by omega⟩
  simp only [e3, show (32 - ((k + 1 : Nat) : Int)).toNat = 31 - k by omega]
theorem sends_said (s : S) (w op phy reg v : Nat) (hw : IsFrame w op phy reg v) (h0 : s.ph = 0) (h1 : s.ones = 32) (k : Nat) (h16 : 16 ≤ k) (hk : k ≤ 32) (hout : 0 ≤ s.regs.getD reg 0 ∧ s.regs.getD reg 0 < 65536) :
    ∃ A, (sends s w k).2 = (A * 2 ^ (k - 16) + says (decide ((phy : Int) = s.addr) && !decide (op = 1)) (s.regs.getD reg 0) k) % 65536 := by
  obtain ⟨j, rfl⟩ : ∃ j, k = 16 + j := ⟨k - 16, by omega⟩
  clear h16
  obtain ⟨ho1, ho2⟩ := hout
  obtain ⟨o, ho⟩ := Int.eq_ofNat_of_zero_le ho1
  have hoN : (s.regs.getD reg 0).toNat = o := by rw [ho]; rfl
  induction j with
  | zero =>
    refine ⟨(sends s w 16).2, ?_⟩
    have := sends_lt s w 16
    have h0 : says (decide ((phy : Int) = s.addr) && !decide (op = 1)) (s.regs.getD reg 0) 16 = 0 := by
      unfold says
      rw [hoN]
      split
      · simp; omega
      · rfl
    rw [show 16 + 0 = 16 by rfl, h0]
    simp
    omega
  | succ j ih =>
    obtain ⟨A, ih⟩ := ih (by omega)
    have ht := told_at s w op phy reg v hw h0 h1 (16 + j) (by omega) (by omega)
    refine ⟨A, ?_⟩
    rw [← Nat.add_assoc, sends, ht, ih, hoN]
    show ((A * 2 ^ (16 + j - 16) + says _ _ (16 + j)) % 65536 * 2 + _) % 65536 = (A * 2 ^ (16 + j + 1 - 16) + says _ _ (16 + j + 1)) % 65536
    rw [show 16 + j - 16 = j by omega, show 16 + j + 1 - 16 = j + 1 by omega, Nat.pow_succ, ← Nat.mul_assoc]
    have e16 : decide (16 ≤ 16 + j + 1) = true := by simp; omega
    rw [e16, Bool.and_true]
    generalize A * 2 ^ j = q
    unfold says
    rw [hoN]
    by_cases hr : (decide ((phy : Int) = s.addr) && !decide (op = 1)) = true
    · rw [if_pos hr, if_pos hr, if_pos hr]
      have := half o (16 + j) (by omega)
      rw [show 32 - (16 + j + 1) = 31 - (16 + j) by omega]
      rw [Int.toNat_natCast]
      omega
    · rw [if_neg hr, if_neg hr, if_neg hr]
      rw [show 16 + j - 16 = j by omega, show 16 + j + 1 - 16 = j + 1 by omega, Nat.pow_succ]
      have hpos : 0 < 2 ^ j := Nat.pow_pos (by decide)
      have e1 : (1 : Int).toNat = 1 := rfl
      rw [e1]
      omega
/-- A whole frame, behind 32 ones. -/
theorem sends_all (s : S) (w op phy reg v : Nat) (hw : IsFrame w op phy reg v) (h0 : s.ph = 0) (h1 : s.ones = 32) (hout : 0 ≤ s.regs.getD reg 0 ∧ s.regs.getD reg 0 < 65536) :
    sends s w 32 = (if (phy : Int) = s.addr ∧ op = 1 then { s with ph := 0, ones := 0, bits := 32, got := w, reg := (reg : Int), out := s.regs.getD reg 0, regs := s.regs.set reg v, to := (reg : Int), v := (v : Int), took := true }
      else { s with ph := 0, ones := 0, bits := 32, got := w, reg := (reg : Int), out := s.regs.getD reg 0 }, if (phy : Int) = s.addr ∧ op ≠ 1 then (s.regs.getD reg 0).toNat else 65535) := by
  have hlt := hw.lt
  have hp := hw.parts
  refine Prod.ext ?_ ?_
  · show (sends s w (31 + 1)).1 = _
    rw [sends, sends_tail s w op phy reg v hw h0 h1 31 (by omega) (by omega)]
    simp only [clock]
    rw [if_neg (by decide), if_neg (by decide)]
    unfold tail
    rw [pushed { s with ph := 2, bits := ((31 : Nat) : Int), got := w / 2 ^ (32 - 31), reg := (reg : Int), out := s.regs.getD reg 0 } w 31 (by omega) (by omega) rfl rfl]
    unfold tail1
    rw [if_pos (by rfl)]
    obtain ⟨e1, e2⟩ := own_at { s with ph := 2, bits := ((31 + 1 : Nat) : Int), got := w / 2 ^ (32 - (31 + 1)), reg := (reg : Int), out := s.regs.getD reg 0 } w op phy reg v 32 hw (by omega) (by omega) rfl rfl
    rw [e1, e2]
    by_cases c : (phy : Int) = s.addr ∧ op = 1
    · have e : w / 2 ^ (32 - (31 + 1)) = w := by simp
      rw [if_pos (by simp [c]), if_pos c, e]
      simp only [take, hp.2.2.2.2, Int.toNat_natCast]
      rfl
    · have e : w / 2 ^ (32 - (31 + 1)) = w := by simp
      rw [if_neg (by simp; exact fun a b => c ⟨a, b⟩), if_neg c, e]
      rfl
  · obtain ⟨A, hA⟩ := sends_said s w op phy reg v hw h0 h1 32 (by omega) (by omega) hout
    have := sends_lt s w 32
    show (sends s w 32).2 = _
    rw [hA]
    unfold says
    simp only [Nat.sub_self, Nat.pow_zero, Nat.div_one, Nat.reduceSub, Nat.reducePow]
    by_cases c : (phy : Int) = s.addr ∧ op ≠ 1
    · rw [if_pos (by simp [c]), if_pos c]
      omega
    · rw [if_neg (by simp; exact fun a => by by_cases b : op = 1 <;> simp_all), if_neg c]
      omega
end Go.Proofs.Ytkegljcndhckeac.Md
