import Derived.Test.YtpcmfceoeflcoaaW1
namespace Go.Proofs.Ytpcmfceoeflcoaa
open Go.RowKit
set_option linter.unusedVariables false
theorem rfield_int (x a k : Nat) (hx : x < 4294967296) (hk : k < 32) :
    ((x : Int) / 2 ^ a % 2 ^ k + ((Wd.bitN x (a + k) : Nat) : Int) * 2 ^ k % 4294967296) % 4294967296 = ((x / 2 ^ a % 2 ^ (k + 1) : Nat) : Int) := by
  have e := Wd.field_step x a k
  have h1 : x / 2 ^ a % 2 ^ (k + 1) < 2 ^ (k + 1) := Nat.mod_lt _ (Nat.two_pow_pos _)
  have h2 : 2 ^ (k + 1) ≤ 2 ^ 32 := Nat.pow_le_pow_right (by decide) (by omega)
  have e1 : ((x : Int) / 2 ^ a % 2 ^ k) = ((x / 2 ^ a % 2 ^ k : Nat) : Int) := by simp
  have e2 : ((Wd.bitN x (a + k) : Nat) : Int) * 2 ^ k = ((Wd.bitN x (a + k) * 2 ^ k : Nat) : Int) := by simp
  rw [e1, e2]
  omega
theorem rfield_ok (w0 at_ n : Int) (hw : 0 ≤ w0 ∧ w0 < 4294967296) (h : Wd.fitsB at_ n = true) (w : World) :
    Calls Try.prog 12 #[.int .u32 w0, .int .i64 at_, .int .i64 n] w fun e w' => e = .returned (.tuple #[.int .u32 (Wd.fieldN w0.toNat at_.toNat n.toNat), .int .i64 0]) ∧ w = w' := by
  obtain ⟨h1, h2, h3, h4⟩ := Wd.fits_nat h
  obtain ⟨x, rfl⟩ := Int.eq_ofNat_of_zero_le hw.1
  obtain ⟨a, rfl⟩ := Int.eq_ofNat_of_zero_le h1
  go_enter Try.func12, Try.ntmps12
  go_wp2_with (go_at_call 26; refine (fits_ok _ _ h _).mono ?_; rintro e w' ⟨rfl, rfl⟩)
  go_loop [8, 9] (fun o c => ∃ k : Nat, (k : Int) ≤ n ∧ c = .int .i64 k ∧ o = .int .u32 ((x / 2 ^ a % 2 ^ k : Nat) : Int)) (fun _ c => n.toNat - (intOf c).toNat)
  case atStart => exact ⟨0, by omega, rfl, by simp [Nat.mod_one]⟩
  case round =>
    obtain ⟨k, hk, rfl, rfl⟩ := hrel
    by_cases hlt : (k : Int) < n
    · go_wp2_with (first | (go_at_call 27; refine (bit_ok _ _ hw (by omega) _).mono ?_; rintro e w' ⟨rfl, rfl⟩) | (go_at_call 28; refine (pow_ok _ (by omega) _).mono ?_; rintro e w' ⟨rfl, rfl⟩))
      go_round
      case rel =>
        exact ⟨k + 1, by omega, by go_num, int_ret (rfield_int x a k (by omega) (by omega))⟩
      case measure => simp [intOf]; omega
    · obtain rfl : (k : Int) = n := by omega
      go_wp2
      go_ret2
      exact ⟨by simp [Wd.fieldN_eq _ _ _ (show a + k ≤ 32 by omega)], rfl⟩
theorem rfield_no (w0 at_ n : Int) (h : Wd.fitsB at_ n = false) (w : World) :
    Calls Try.prog 12 #[.int .u32 w0, .int .i64 at_, .int .i64 n] w fun e w' => e = .returned (.tuple #[.int .u32 0, .int .i64 2]) ∧ w = w' := by
  go_enter Try.func12, Try.ntmps12
  go_wp2_with (go_at_call 26; refine (fits_no _ _ h _).mono ?_; rintro e w' ⟨rfl, rfl⟩)
  go_ret2
  exact ⟨rfl, rfl⟩
theorem rwith_no (w0 at_ n v : Int) (h : Wd.fitsB at_ n = false) (w : World) :
    Calls Try.prog 14 #[.int .u32 w0, .int .i64 at_, .int .i64 n, .int .u32 v] w fun e w' => e = .returned (.tuple #[.int .u32 0, .int .i64 2]) ∧ w = w' := by
  go_enter Try.func14, Try.ntmps14
  go_wp2_with (go_at_call 26; refine (fits_no _ _ h _).mono ?_; rintro e w' ⟨rfl, rfl⟩)
  go_ret2
  exact ⟨rfl, rfl⟩
theorem rrev_no (w0 n : Int) (h : n < 0 ∨ 32 < n) (w : World) :
    Calls Try.prog 16 #[.int .u32 w0, .int .i64 n] w fun e w' => e = .returned (.tuple #[.int .u32 0, .int .i64 2]) ∧ w = w' := by
  by_cases c : n < 0
  · go_enter Try.func16, Try.ntmps16
    go_wp2
    go_ret2
    exact ⟨rfl, rfl⟩
  · have c2 : 32 < n := by omega
    go_enter Try.func16, Try.ntmps16
    go_wp2
    go_ret2
    exact ⟨rfl, rfl⟩
theorem sum_int (s b p : Nat) (h : s + b * p < 4294967296) : (((s : Nat) : Int) + ((b : Nat) : Int) * ((p : Nat) : Int) % 4294967296) % 4294967296 = ((s + b * p : Nat) : Int) := by
  have e : ((b : Nat) : Int) * ((p : Nat) : Int) = ((b * p : Nat) : Int) := by simp
  rw [e]; omega
theorem rwith_step (x a m y k : Nat) (h : a + m ≤ 32) (hx : x < 4294967296) (hk : k < 32) (b : Nat) (hb : b = if a ≤ k ∧ k < a + m then Wd.bitN y (k - a) else Wd.bitN x k) :
    (((Wd.withN x a m y % 2 ^ k : Nat) : Int) + ((b : Nat) : Int) * 2 ^ k % 4294967296) % 4294967296 = ((Wd.withN x a m y % 2 ^ (k + 1) : Nat) : Int) := by
  subst hb
  rw [Wd.with_step _ _ _ _ _ h hx]
  have h1 : Wd.withN x a m y % 2 ^ (k + 1) < 2 ^ (k + 1) := Nat.mod_lt _ (Nat.two_pow_pos _)
  have h2 : 2 ^ (k + 1) ≤ 2 ^ 32 := Nat.pow_le_pow_right (by decide) (by omega)
  rw [Wd.with_step _ _ _ _ _ h hx] at h1
  have e : ((2 : Int) ^ k) = ((2 ^ k : Nat) : Int) := by simp
  rw [e]
  exact sum_int _ _ _ (by omega)
set_option maxHeartbeats 400000 in
theorem rwith_ok (w0 at_ n v : Int) (hw : 0 ≤ w0 ∧ w0 < 4294967296) (hv : 0 ≤ v ∧ v < 4294967296) (h : Wd.fitsB at_ n = true) (w : World) :
    Calls Try.prog 14 #[.int .u32 w0, .int .i64 at_, .int .i64 n, .int .u32 v] w fun e w' => e = .returned (.tuple #[.int .u32 (Wd.withN w0.toNat at_.toNat n.toNat v.toNat), .int .i64 0]) ∧ w = w' := by
  obtain ⟨h1, h2, h3, h4⟩ := Wd.fits_nat h
  obtain ⟨x, rfl⟩ := Int.eq_ofNat_of_zero_le hw.1
  obtain ⟨y, rfl⟩ := Int.eq_ofNat_of_zero_le hv.1
  obtain ⟨a, rfl⟩ := Int.eq_ofNat_of_zero_le h1
  obtain ⟨m, rfl⟩ := Int.eq_ofNat_of_zero_le (show 0 ≤ n by omega)
  go_enter Try.func14, Try.ntmps14
  go_wp2_with (go_at_call 26; refine (fits_ok _ _ h _).mono ?_; rintro e w' ⟨rfl, rfl⟩)
  go_loop [10, 11] (fun o c => ∃ k : Nat, k ≤ 32 ∧ c = .int .i64 k ∧ o = .int .u32 ((Wd.withN x a m y % 2 ^ k : Nat) : Int)) (fun _ c => 32 - (intOf c).toNat)
  case atStart => exact ⟨0, by omega, rfl, by simp [Nat.mod_one]⟩
  case round =>
    obtain ⟨k, hk, rfl, rfl⟩ := hrel
    by_cases hlt : k < 32
    · by_cases c1 : a ≤ k
      · by_cases c2 : k < a + m
        · go_wp2_with (first | (go_at_call 27; refine (bit_ok _ _ hv (by omega) _).mono ?_; rintro e w' ⟨rfl, rfl⟩) | (go_at_call 28; refine (pow_ok _ (by omega) _).mono ?_; rintro e w' ⟨rfl, rfl⟩))
          go_round
          case rel => exact ⟨k + 1, by omega, by go_num, int_ret (rwith_step x a m y k (by omega) (by omega) hlt _ (by rw [if_pos (by omega)]))⟩
          case measure => simp [intOf]; omega
        · go_wp2_with (first | (go_at_call 27; refine (bit_ok _ _ hw (by omega) _).mono ?_; rintro e w' ⟨rfl, rfl⟩) | (go_at_call 28; refine (pow_ok _ (by omega) _).mono ?_; rintro e w' ⟨rfl, rfl⟩))
          go_round
          case rel => exact ⟨k + 1, by omega, by go_num, int_ret (rwith_step x a m y k (by omega) (by omega) hlt _ (by rw [if_neg (by omega)]))⟩
          case measure => simp [intOf]; omega
      · go_wp2_with (first | (go_at_call 27; refine (bit_ok _ _ hw (by omega) _).mono ?_; rintro e w' ⟨rfl, rfl⟩) | (go_at_call 28; refine (pow_ok _ (by omega) _).mono ?_; rintro e w' ⟨rfl, rfl⟩))
        go_round
        case rel => exact ⟨k + 1, by omega, by go_num, int_ret (rwith_step x a m y k (by omega) (by omega) hlt _ (by rw [if_neg (by omega)]))⟩
        case measure => simp [intOf]; omega
    · obtain rfl : k = 32 := by omega
      go_wp2
      go_ret2
      exact ⟨by have := Wd.withN_lt x a m y (by omega) (by omega); simp; omega, rfl⟩
theorem rrev_step (x m k : Nat) (hx : x < 4294967296) (hk : k < m) (hm : m ≤ 32) :
    (((Wd.revN x k : Nat) : Int) * 2 ^ (m - k) + ((Wd.bitN x k : Nat) : Int) * 2 ^ (m - 1 - k) % 4294967296) % 4294967296 = ((Wd.revN x (k + 1) * 2 ^ (m - (k + 1)) : Nat) : Int) := by
  have hs := Wd.rev_step x m k hk
  have h1 := Wd.revN_lt x (k + 1)
  have h2 : Wd.revN x (k + 1) * 2 ^ (m - (k + 1)) < 2 ^ (k + 1) * 2 ^ (m - (k + 1)) := Nat.mul_lt_mul_of_pos_right h1 (Nat.two_pow_pos _)
  rw [← Nat.pow_add, show k + 1 + (m - (k + 1)) = m by omega] at h2
  have h3 : 2 ^ m ≤ 2 ^ 32 := Nat.pow_le_pow_right (by decide) hm
  rw [hs] at h2 ⊢
  have e1 : ((Wd.revN x k : Nat) : Int) * 2 ^ (m - k) = ((Wd.revN x k * 2 ^ (m - k) : Nat) : Int) := by simp
  have e2 : ((2 : Int) ^ (m - 1 - k)) = ((2 ^ (m - 1 - k) : Nat) : Int) := by simp
  rw [e1, e2]
  exact sum_int _ _ _ (by omega)
theorem rrev_ok (w0 n : Int) (hw : 0 ≤ w0 ∧ w0 < 4294967296) (h : 0 ≤ n ∧ n ≤ 32) (w : World) :
    Calls Try.prog 16 #[.int .u32 w0, .int .i64 n] w fun e w' => e = .returned (.tuple #[.int .u32 (Wd.revN w0.toNat n.toNat), .int .i64 0]) ∧ w = w' := by
  obtain ⟨x, rfl⟩ := Int.eq_ofNat_of_zero_le hw.1
  obtain ⟨m, rfl⟩ := Int.eq_ofNat_of_zero_le h.1
  have hm : m ≤ 32 := by omega
  go_enter Try.func16, Try.ntmps16
  go_wp2
  go_loop [6, 7] (fun o c => ∃ k : Nat, k ≤ m ∧ c = .int .i64 k ∧ o = .int .u32 ((Wd.revN x k * 2 ^ (m - k) : Nat) : Int)) (fun _ c => m - (intOf c).toNat)
  case atStart => exact ⟨0, by omega, rfl, by simp [Wd.revN]⟩
  case round =>
    obtain ⟨k, hk, rfl, rfl⟩ := hrel
    by_cases hlt : k < m
    · go_wp2_with (first | (go_at_call 27; refine (bit_ok _ _ hw (by omega) _).mono ?_; rintro e w' ⟨rfl, rfl⟩) | (go_at_call 28; refine (pow_ok _ (by omega) _).mono ?_; rintro e w' ⟨rfl, rfl⟩))
      go_round
      case rel =>
        exact ⟨k + 1, by omega, by go_num, int_ret (rrev_step x m k (by omega) hlt hm)⟩
      case measure => simp [intOf]; omega
    · obtain rfl : k = m := by omega
      go_wp2
      go_ret2
      exact ⟨by simp, rfl⟩
end Go.Proofs.Ytpcmfceoeflcoaa
