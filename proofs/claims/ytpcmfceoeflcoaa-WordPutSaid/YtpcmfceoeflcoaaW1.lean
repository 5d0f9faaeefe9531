import Derived.Test.YtpcmfceoeflcoaaRows
import Derived.Test.YtpcmfceoeflcoaaWPure
import Derived.Test.YtpcmfceoeflcoaaMm
namespace Go.Proofs.Ytpcmfceoeflcoaa
open Go.RowKit
set_option linter.unusedVariables false
theorem mask_int (a n : Nat) : (2 ^ n - 1) % 4294967296 * 2 ^ a % 4294967296 = ((Wd.maskN a n : Nat) : Int) := by
  unfold Wd.maskN
  have h : 1 ≤ 2 ^ n := Nat.one_le_two_pow
  rw [Int.natCast_emod, Int.natCast_mul, Int.natCast_emod, Int.natCast_sub h]
  simp
theorem mask_ok (at_ n : Int) (h : Wd.fitsB at_ n = true) (w : World) :
    Calls Try.prog 25 #[.int .i64 at_, .int .i64 n] w fun e w' => e = .returned (.tuple #[.int .u32 (Wd.maskN at_.toNat n.toNat), .bool true]) ∧ w = w' := by
  obtain ⟨h1, h2, h3, h4⟩ := Wd.fits_nat h
  go_enter Try.func25, Try.ntmps25
  go_wp2
  go_ret2
  exact ⟨by simp [mask_int], rfl⟩
theorem mask_no (at_ n : Int) (b : (Lit.int .i64 n).wf = true) (h : Wd.fitsB at_ n = false) (w : World) :
    Calls Try.prog 25 #[.int .i64 at_, .int .i64 n] w fun e w' => e = .returned (.tuple #[.int .u32 0, .bool false]) ∧ w = w' := by
  have h1 : at_ < 0 ∨ n < 1 ∨ 32 < n ∨ 32 - n < at_ := by simp [Wd.fitsB] at h; omega
  by_cases c1 : at_ < 0
  · go_enter Try.func25, Try.ntmps25
    go_wp2
    go_ret2
    exact ⟨rfl, rfl⟩
  by_cases c2 : n < 1
  · go_enter Try.func25, Try.ntmps25
    go_wp2
    go_ret2
    exact ⟨rfl, rfl⟩
  by_cases c3 : 32 < n
  · go_enter Try.func25, Try.ntmps25
    go_wp2
    go_ret2
    exact ⟨rfl, rfl⟩
  have c4 : 32 - n < at_ := by omega
  go_enter Try.func25, Try.ntmps25
  go_wp2
  go_ret2
  exact ⟨rfl, rfl⟩
theorem field_int (w a n : Nat) (hw : w < 4294967296) : bits .and .u32 (w : Int) ((Wd.maskN a n : Nat) : Int) / 2 ^ a = ((Wd.fieldN w a n : Nat) : Int) := by
  rw [u32_and_nat _ _ hw (Wd.maskN_lt _ _)]
  unfold Wd.fieldN
  rw [Int.natCast_ediv]; simp
theorem field_ok (w0 at_ n : Int) (hw : 0 ≤ w0 ∧ w0 < 4294967296) (h : Wd.fitsB at_ n = true) (w : World) :
    Calls Try.prog 11 #[.int .u32 w0, .int .i64 at_, .int .i64 n] w fun e w' => e = .returned (.tuple #[.int .u32 (Wd.fieldN w0.toNat at_.toNat n.toNat), .int .i64 0]) ∧ w = w' := by
  obtain ⟨h1, h2, h3, h4⟩ := Wd.fits_nat h
  obtain ⟨x, rfl⟩ := Int.eq_ofNat_of_zero_le hw.1
  go_enter Try.func11, Try.ntmps11
  go_wp2_with (go_at_call 25; refine (mask_ok _ _ h _).mono ?_; rintro e w' ⟨rfl, rfl⟩)
  go_ret2
  exact ⟨by simp [field_int _ _ _ (show x < 4294967296 by omega)], rfl⟩
theorem field_no (w0 at_ n : Int) (b : (Lit.int .i64 n).wf = true) (h : Wd.fitsB at_ n = false) (w : World) :
    Calls Try.prog 11 #[.int .u32 w0, .int .i64 at_, .int .i64 n] w fun e w' => e = .returned (.tuple #[.int .u32 0, .int .i64 2]) ∧ w = w' := by
  go_enter Try.func11, Try.ntmps11
  go_wp2_with (go_at_call 25; refine (mask_no _ _ b h _).mono ?_; rintro e w' ⟨rfl, rfl⟩)
  go_ret2
  exact ⟨rfl, rfl⟩
theorem with_int (w a n v : Nat) (hw : w < 4294967296) (hv : v < 4294967296) :
    bits .or .u32 (bits .andNot .u32 (w : Int) ((Wd.maskN a n : Nat) : Int)) (bits .and .u32 ((v : Int) * 2 ^ a % 4294967296) ((Wd.maskN a n : Nat) : Int)) = ((Wd.withN w a n v : Nat) : Int) := by
  have hm := Wd.maskN_lt a n
  have h2 : v * 2 ^ a % 4294967296 < 4294967296 := Nat.mod_lt _ (by decide)
  have e1 : ((v : Int) * 2 ^ a % 4294967296) = ((v * 2 ^ a % 4294967296 : Nat) : Int) := by simp
  have h3 : w &&& (4294967295 - Wd.maskN a n) ≤ w := Nat.and_le_left
  have h4 : v * 2 ^ a % 4294967296 &&& Wd.maskN a n ≤ Wd.maskN a n := Nat.and_le_right
  rw [e1, u32_andNot_nat _ _ hw hm, u32_and_nat _ _ h2 hm, u32_or_nat _ _ (by omega) (by omega)]
  rfl
theorem with_ok (w0 at_ n v : Int) (hw : 0 ≤ w0 ∧ w0 < 4294967296) (hv : 0 ≤ v ∧ v < 4294967296) (h : Wd.fitsB at_ n = true) (w : World) :
    Calls Try.prog 13 #[.int .u32 w0, .int .i64 at_, .int .i64 n, .int .u32 v] w fun e w' => e = .returned (.tuple #[.int .u32 (Wd.withN w0.toNat at_.toNat n.toNat v.toNat), .int .i64 0]) ∧ w = w' := by
  obtain ⟨h1, h2, h3, h4⟩ := Wd.fits_nat h
  obtain ⟨x, rfl⟩ := Int.eq_ofNat_of_zero_le hw.1
  obtain ⟨y, rfl⟩ := Int.eq_ofNat_of_zero_le hv.1
  go_enter Try.func13, Try.ntmps13
  go_wp2_with (go_at_call 25; refine (mask_ok _ _ h _).mono ?_; rintro e w' ⟨rfl, rfl⟩)
  go_ret2
  exact ⟨by simp [with_int _ _ _ _ (show x < 4294967296 by omega) (show y < 4294967296 by omega)], rfl⟩
theorem with_no (w0 at_ n v : Int) (b : (Lit.int .i64 n).wf = true) (h : Wd.fitsB at_ n = false) (w : World) :
    Calls Try.prog 13 #[.int .u32 w0, .int .i64 at_, .int .i64 n, .int .u32 v] w fun e w' => e = .returned (.tuple #[.int .u32 0, .int .i64 2]) ∧ w = w' := by
  go_enter Try.func13, Try.ntmps13
  go_wp2_with (go_at_call 25; refine (mask_no _ _ b h _).mono ?_; rintro e w' ⟨rfl, rfl⟩)
  go_ret2
  exact ⟨rfl, rfl⟩
theorem rev_int (w k : Nat) (hw : w < 4294967296) (hk : k < 32) :
    bits .or .u32 (((Wd.revN w k : Nat) : Int) * 2 % 4294967296) (bits .and .u32 ((w : Int) / 2 ^ k) 1) = ((Wd.revN w (k + 1) : Nat) : Int) := by
  have hr := Wd.revN_lt w k
  have h2 : 2 ^ k ≤ 2 ^ 31 := Nat.pow_le_pow_right (by decide) (by omega)
  have h3 : w / 2 ^ k ≤ w := Nat.div_le_self _ _
  have e1 : ((w : Int) / 2 ^ k) = ((w / 2 ^ k : Nat) : Int) := by simp
  have e2 : (((Wd.revN w k : Nat) : Int) * 2 % 4294967296) = ((2 * Wd.revN w k : Nat) : Int) := by omega
  rw [e1, e2, show (1 : Int) = ((1 : Nat) : Int) from rfl, u32_and_nat _ _ (by omega) (by decide), u32_or_nat _ _ (by omega) (by rw [nat_mask1]; omega), nat_mask1,
    nat_join 1 (2 * Wd.revN w k) (w / 2 ^ k % 2) (by simp) (by omega)]
  rfl
theorem rev_ok (w0 n : Int) (hw : 0 ≤ w0 ∧ w0 < 4294967296) (h : 0 ≤ n ∧ n ≤ 32) (w : World) :
    Calls Try.prog 15 #[.int .u32 w0, .int .i64 n] w fun e w' => e = .returned (.tuple #[.int .u32 (Wd.revN w0.toNat n.toNat), .int .i64 0]) ∧ w = w' := by
  obtain ⟨h1, h2⟩ := h
  obtain ⟨x, rfl⟩ := Int.eq_ofNat_of_zero_le hw.1
  go_enter Try.func15, Try.ntmps15
  go_wp2
  go_loop [6, 15] (fun o i => ∃ k : Nat, (k : Int) ≤ n ∧ i = .int .i64 k ∧ o = .int .u32 (Wd.revN x k)) (fun _ i => n.toNat - (intOf i).toNat)
  case atStart => exact ⟨0, by omega, rfl, rfl⟩
  case round =>
    obtain ⟨k, hk, rfl, rfl⟩ := hrel
    by_cases hlt : (k : Int) < n
    · go_wp2
      go_round
      case rel => exact ⟨k + 1, by omega, by go_num, int_ret (rev_int _ _ (by omega) (by omega))⟩
      case measure => simp [intOf]; omega
    · obtain rfl : (k : Int) = n := by omega
      go_wp2
      go_ret2
      exact ⟨by simp, rfl⟩
theorem rev_no (w0 n : Int) (b : (Lit.int .i64 n).wf = true) (h : n < 0 ∨ 32 < n) (w : World) :
    Calls Try.prog 15 #[.int .u32 w0, .int .i64 n] w fun e w' => e = .returned (.tuple #[.int .u32 0, .int .i64 2]) ∧ w = w' := by
  by_cases c : n < 0
  · go_enter Try.func15, Try.ntmps15
    go_wp2
    go_ret2
    exact ⟨rfl, rfl⟩
  · have c2 : 32 < n := by omega
    go_enter Try.func15, Try.ntmps15
    go_wp2
    go_ret2
    exact ⟨rfl, rfl⟩

/-! ### The document's answer, function by function -/
theorem bit_ok (w0 i : Int) (hw : 0 ≤ w0 ∧ w0 < 4294967296) (hi : 0 ≤ i ∧ i ≤ 64) (w : World) :
    Calls Try.prog 27 #[.int .u32 w0, .int .i64 i] w fun e w' => e = .returned (.int .u32 (Wd.bitN w0.toNat i.toNat)) ∧ w = w' := by
  obtain ⟨x, rfl⟩ := Int.eq_ofNat_of_zero_le hw.1
  obtain ⟨h1, h2⟩ := hi
  go_enter Try.func27, Try.ntmps27
  go_wp2
  go_loop [0, 5] (fun o c => ∃ k : Nat, (k : Int) ≤ i ∧ c = .int .i64 k ∧ o = .int .u32 ((x / 2 ^ k : Nat) : Int)) (fun _ c => i.toNat - (intOf c).toNat)
  case atStart => exact ⟨0, by omega, rfl, by simp⟩
  case round =>
    obtain ⟨k, hk, rfl, rfl⟩ := hrel
    have hq : (0 : Int) ≤ (x : Int) / 2 ^ k := Int.ediv_nonneg (by omega) (Int.pow_nonneg (by omega))
    have hq2 : (x : Int) / 2 ^ k < 4294967296 := by
      have := Nat.div_le_self x (2 ^ k)
      have e : ((x / 2 ^ k : Nat) : Int) = (x : Int) / 2 ^ k := by simp
      omega
    by_cases hlt : (k : Int) < i
    · go_wp2
      go_round
      case rel => exact ⟨k + 1, by omega, by go_num, int_ret (by rw [Nat.pow_succ, ← Nat.div_div_eq_div_mul]; first | simp | (simp; omega))⟩
      case measure => simp [intOf]; omega
    · obtain rfl : (k : Int) = i := by omega
      go_wp2
      go_ret
      exact ⟨by simp [Wd.bitN], rfl⟩
theorem pow_ok (i : Int) (hi : 0 ≤ i ∧ i < 32) (w : World) :
    Calls Try.prog 28 #[.int .i64 i] w fun e w' => e = .returned (.int .u32 ((2 ^ i.toNat : Nat) : Int)) ∧ w = w' := by
  obtain ⟨h1, h2⟩ := hi
  go_enter Try.func28, Try.ntmps28
  go_wp2
  go_loop [3, 4] (fun o c => ∃ k : Nat, (k : Int) ≤ i ∧ c = .int .i64 k ∧ o = .int .u32 ((2 ^ k : Nat) : Int)) (fun _ c => i.toNat - (intOf c).toNat)
  case atStart => exact ⟨0, by omega, rfl, by simp⟩
  case round =>
    obtain ⟨k, hk, rfl, rfl⟩ := hrel
    by_cases hlt : (k : Int) < i
    · go_wp2
      go_round
      case rel =>
        have h3 : 2 ^ k ≤ 2 ^ 30 := Nat.pow_le_pow_right (by decide) (by omega)
        have h4 : ((2 ^ k : Nat) : Int) = (2 : Int) ^ k := by simp
        have h5 : (0 : Int) ≤ (2 : Int) ^ k := Int.pow_nonneg (by omega)
        exact ⟨k + 1, by omega, by go_num, int_ret (by rw [Nat.pow_succ]; rw [Int.natCast_mul, h4]; omega)⟩
      case measure => simp [intOf]; omega
    · obtain rfl : (k : Int) = i := by omega
      go_wp2
      go_ret
      exact ⟨by simp, rfl⟩
theorem fits_ok (at_ n : Int) (h : Wd.fitsB at_ n = true) (w : World) :
    Calls Try.prog 26 #[.int .i64 at_, .int .i64 n] w fun e w' => e = .returned (.bool true) ∧ w = w' := by
  obtain ⟨h1, h2, h3, h4⟩ := Wd.fits_nat h
  go_enter Try.func26, Try.ntmps26
  go_wp2
  go_ret
  exact ⟨rfl, rfl⟩
theorem fits_no (at_ n : Int) (h : Wd.fitsB at_ n = false) (w : World) :
    Calls Try.prog 26 #[.int .i64 at_, .int .i64 n] w fun e w' => e = .returned (.bool false) ∧ w = w' := by
  by_cases c1 : 0 ≤ at_
  · by_cases c2 : at_ ≤ 32
    · by_cases c3 : 1 ≤ n
      · by_cases c4 : n ≤ 32
        · have c5 : 32 < at_ + n := by simp [Wd.fitsB] at h; omega
          clear h
          go_enter Try.func26, Try.ntmps26
          go_wp2
          go_ret
          exact ⟨by simp; omega, rfl⟩
        · clear h
          go_enter Try.func26, Try.ntmps26
          go_wp2
          go_ret
          exact ⟨rfl, rfl⟩
      · clear h
        go_enter Try.func26, Try.ntmps26
        go_wp2
        go_ret
        exact ⟨rfl, rfl⟩
    · clear h
      go_enter Try.func26, Try.ntmps26
      go_wp2
      go_ret
      exact ⟨rfl, rfl⟩
  · clear h
    go_enter Try.func26, Try.ntmps26
    go_wp2
    go_ret
    exact ⟨rfl, rfl⟩
end Go.Proofs.Ytpcmfceoeflcoaa
