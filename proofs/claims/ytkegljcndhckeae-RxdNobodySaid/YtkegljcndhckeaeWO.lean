import Derived.Test.YtkegljcndhckeaeBPure
import Derived.Test.YtkegljcndhckeaeMm
namespace Go.Proofs.Ytkegljcndhckeae
open Go.RowKit
set_option linter.unusedVariables false
theorem of_or (xs : List Int) (h : Wd.Bytes xs) (k : Nat) (hk : k < 4) :
    bits .or .u32 (Wd.ofK xs k) (xs.getD k 0 * 2 ^ (8 * k) % 4294967296) = Wd.ofK xs (k + 1) := by
  have b := Wd.ofK_bounds h k
  have hx := h.at_ k
  have e8 : (2 : Int) ^ (8 * k) = 256 ^ k := by rw [Int.pow_mul]; rfl
  obtain ⟨m, hm⟩ := Int.eq_ofNat_of_zero_le b.1
  obtain ⟨c, hc⟩ := Int.eq_ofNat_of_zero_le hx.1
  have e9 : (256 : Int) ^ k = ((256 ^ k : Nat) : Int) := by simp
  have b2 := b.2
  show _ = Wd.ofK xs k + xs.getD k 0 * 256 ^ k
  rw [hm] at b2 ⊢
  rw [hc] at hx ⊢
  rw [e8, e9] at *
  have hp : 256 ^ k * 256 ≤ 4294967296 := by
    rw [← Nat.pow_succ]; exact Nat.pow_le_pow_right (n := 256) (by decide) (show k + 1 ≤ 4 by omega)
  have hcm : c * 256 ^ k < 4294967296 := by
    have : c * 256 ^ k ≤ 255 * 256 ^ k := Nat.mul_le_mul_right _ (by omega)
    have hp0 : 0 < 256 ^ k := Nat.pow_pos (by decide)
    omega
  have em : ((c : Int) * ((256 ^ k : Nat) : Int)) % 4294967296 = ((c * 256 ^ k : Nat) : Int) := by
    rw [← Int.natCast_mul]; omega
  rw [em, u32_or_nat _ _ (by omega) hcm, Nat.or_comm, show (256 : Nat) ^ k = 2 ^ (8 * k) by rw [Nat.pow_mul],
    nat_join (8 * k) (c * 2 ^ (8 * k)) m (Nat.mul_mod_left _ _) (by rw [Nat.pow_mul]; simpa using (by omega : m < 256 ^ k))]
  rw [← Int.natCast_mul, Int.natCast_add, Int.add_comm]
theorem wof_ok (v : Value) (xs : List Int) (w : World) (h : Rd w v (nums .u8 xs)) (hx : Wd.Bytes xs) :
    Calls Try.prog 61 #[v] w fun e w' => e = .returned (.int .u32 (Wd.ofL xs)) ∧ w = w' := by
  obtain ⟨A1, c1, rfl, b1, m1, hc1⟩ := id h
  rw [nums_len] at h b1
  rw [nums_len]
  have H1 := Lib.hid hc1; have HX := Lib.hid hx; clear hc1 hx
  unfold maxLen at m1
  have H0 : Wd.ofK xs 0 = 0 := rfl
  by_cases hl : 4 < xs.length
  · have e4 : Wd.ofL xs = Wd.ofK xs 4 := rfl
    rw [e4]
    clear H0 e4
    have hli : (4 : Int) < (xs.length : Int) := by omega
    go_enter Try.func61, Try.ntmps61
    go_wp2
    go_loop [3, 12] (fun o i => ∃ k : Nat, k ≤ 4 ∧ i = .int .i64 k ∧ o = .int .u32 (Wd.ofK xs k)) (fun _ i => 4 - (intOf i).toNat)
    case atStart => exact ⟨0, by omega, rfl, rfl⟩
    case round =>
      obtain ⟨k, hk, rfl, rfl⟩ := hrel
      by_cases hlt : k < 4
      · obtain ⟨a1, rfl, q1⟩ := H1.out k _ (nums_at .u8 xs k (by omega))
        have hb := HX.out.at_ k
        obtain ⟨p, hp⟩ : ∃ p, p = xs.getD k 0 := ⟨_, rfl⟩
        rw [← hp] at q1 hb
        have HP := Lib.hid hp; clear hp
        go_wp2
        go_round
        case rel => exact ⟨k + 1, by omega, by go_num, int_ret (by have := of_or xs HX.out k hlt; rw [← HP.out] at this; simpa using this)⟩
        case measure => simp [intOf]; omega
      · obtain rfl : k = 4 := by omega
        go_wp2
        go_ret
        exact ⟨rfl, rfl⟩
  · have e4 : Wd.ofL xs = Wd.ofK xs xs.length := by rw [← Wd.ofK_min, Nat.min_eq_left (by omega)]
    rw [e4]
    clear H0 e4
    have hli : (xs.length : Int) ≤ 4 := by omega
    go_enter Try.func61, Try.ntmps61
    go_wp2
    go_loop [3, 12] (fun o i => ∃ k : Nat, k ≤ xs.length ∧ i = .int .i64 k ∧ o = .int .u32 (Wd.ofK xs k)) (fun _ i => xs.length - (intOf i).toNat)
    case atStart => exact ⟨0, by omega, rfl, rfl⟩
    case round =>
      obtain ⟨k, hk, rfl, rfl⟩ := hrel
      by_cases hlt : k < xs.length
      · obtain ⟨a1, rfl, q1⟩ := H1.out k _ (nums_at .u8 xs k (by omega))
        have hb := HX.out.at_ k
        obtain ⟨p, hp⟩ : ∃ p, p = xs.getD k 0 := ⟨_, rfl⟩
        rw [← hp] at q1 hb
        have HP := Lib.hid hp; clear hp
        go_wp2
        go_round
        case rel => exact ⟨k + 1, by omega, by go_num, int_ret (by have := of_or xs HX.out k (by omega); rw [← HP.out] at this; simpa using this)⟩
        case measure => simp [intOf]; omega
      · have hkl : xs.length = k := by omega
        have HK := Lib.hid hkl; clear hkl
        go_wp2
        go_ret
        exact ⟨by rw [HK.out]; rfl, rfl⟩

end Go.Proofs.Ytkegljcndhckeae
