import Derived.Test.YtkegljcndhckeadRows
import Derived.Test.YtkegljcndhckeadWPure
import Derived.Test.YtkegljcndhckeadMm
namespace Go.Proofs.Ytkegljcndhckead
open Go.RowKit
set_option linter.unusedVariables false
theorem mask_int (a n : Nat) : (2 ^ n - 1) % 4294967296 * 2 ^ a % 4294967296 = ((Wd.maskN a n : Nat) : Int) := by
  unfold Wd.maskN
  have h : 1 ≤ 2 ^ n := Nat.one_le_two_pow
  rw [Int.natCast_emod, Int.natCast_mul, Int.natCast_emod, Int.natCast_sub h]
  simp
theorem mask_ok (at_ n : Int) (h : Wd.fitsB at_ n = true) (w : World) :
    Calls Try.prog 71 #[.int .i64 at_, .int .i64 n] w fun e w' => e = .returned (.tuple #[.int .u32 (Wd.maskN at_.toNat n.toNat), .bool true]) ∧ w = w' := by
  obtain ⟨h1, h2, h3, h4⟩ := Wd.fits_nat h
  go_enter Try.func71, Try.ntmps71
  go_wp2
  go_ret2
  exact ⟨by simp [mask_int], rfl⟩
theorem mask_no (at_ n : Int) (b : (Lit.int .i64 n).wf = true) (h : Wd.fitsB at_ n = false) (w : World) :
    Calls Try.prog 71 #[.int .i64 at_, .int .i64 n] w fun e w' => e = .returned (.tuple #[.int .u32 0, .bool false]) ∧ w = w' := by
  have h1 : at_ < 0 ∨ n < 1 ∨ 32 < n ∨ 32 - n < at_ := by simp [Wd.fitsB] at h; omega
  by_cases c1 : at_ < 0
  · go_enter Try.func71, Try.ntmps71
    go_wp2
    go_ret2
    exact ⟨rfl, rfl⟩
  by_cases c2 : n < 1
  · go_enter Try.func71, Try.ntmps71
    go_wp2
    go_ret2
    exact ⟨rfl, rfl⟩
  by_cases c3 : 32 < n
  · go_enter Try.func71, Try.ntmps71
    go_wp2
    go_ret2
    exact ⟨rfl, rfl⟩
  have c4 : 32 - n < at_ := by omega
  go_enter Try.func71, Try.ntmps71
  go_wp2
  go_ret2
  exact ⟨rfl, rfl⟩
theorem field_int (w a n : Nat) (hw : w < 4294967296) : bits .and .u32 (w : Int) ((Wd.maskN a n : Nat) : Int) / 2 ^ a = ((Wd.fieldN w a n : Nat) : Int) := by
  rw [u32_and_nat _ _ hw (Wd.maskN_lt _ _)]
  unfold Wd.fieldN
  rw [Int.natCast_ediv]; simp
theorem field_ok (w0 at_ n : Int) (hw : 0 ≤ w0 ∧ w0 < 4294967296) (h : Wd.fitsB at_ n = true) (w : World) :
    Calls Try.prog 60 #[.int .u32 w0, .int .i64 at_, .int .i64 n] w fun e w' => e = .returned (.tuple #[.int .u32 (Wd.fieldN w0.toNat at_.toNat n.toNat), .int .i64 0]) ∧ w = w' := by
  obtain ⟨h1, h2, h3, h4⟩ := Wd.fits_nat h
  obtain ⟨x, rfl⟩ := Int.eq_ofNat_of_zero_le hw.1
  go_enter Try.func60, Try.ntmps60
  go_wp2_with (go_at_call 71; refine (mask_ok _ _ h _).mono ?_; rintro e w' ⟨rfl, rfl⟩)
  go_ret2
  exact ⟨by simp [field_int _ _ _ (show x < 4294967296 by omega)], rfl⟩
theorem field_no (w0 at_ n : Int) (b : (Lit.int .i64 n).wf = true) (h : Wd.fitsB at_ n = false) (w : World) :
    Calls Try.prog 60 #[.int .u32 w0, .int .i64 at_, .int .i64 n] w fun e w' => e = .returned (.tuple #[.int .u32 0, .int .i64 2]) ∧ w = w' := by
  go_enter Try.func60, Try.ntmps60
  go_wp2_with (go_at_call 71; refine (mask_no _ _ b h _).mono ?_; rintro e w' ⟨rfl, rfl⟩)
  go_ret2
  exact ⟨rfl, rfl⟩
end Go.Proofs.Ytkegljcndhckead
