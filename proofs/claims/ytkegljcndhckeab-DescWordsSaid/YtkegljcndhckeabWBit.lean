import Derived.Test.YtkegljcndhckeabRows
import Derived.Test.YtkegljcndhckeabWPure
import Derived.Test.YtkegljcndhckeabMm
namespace Go.Proofs.Ytkegljcndhckeab
open Go.RowKit
set_option linter.unusedVariables false
theorem bit_ok (w0 i : Int) (hw : 0 ≤ w0 ∧ w0 < 4294967296) (hi : 0 ≤ i ∧ i ≤ 64) (w : World) :
    Calls Try.prog 32 #[.int .u32 w0, .int .i64 i] w fun e w' => e = .returned (.int .u32 (Wd.bitN w0.toNat i.toNat)) ∧ w = w' := by
  obtain ⟨x, rfl⟩ := Int.eq_ofNat_of_zero_le hw.1
  obtain ⟨h1, h2⟩ := hi
  go_enter Try.func32, Try.ntmps32
  go_wp2
  go_loop [0, 5] (fun o c => ∃ k : Nat, (k : Int) ≤ i ∧ c = .int .i64 k ∧ o = .int .u32 ((x / 2 ^ k : Nat) : Int)) (fun _ c => i.toNat - (intOf c).toNat)
  case atStart => exact ⟨0, by omega, rfl, by simp⟩
  case round =>
    obtain ⟨k, hk, rfl, rfl⟩ := hrel
    have hq : (0 : Int) ≤ (x : Int) / 2 ^ k := Int.ediv_nonneg (by omega) (Int.pow_nonneg (by omega))
    have hq2 : (x : Int) / 2 ^ k < 4294967296 := by
      have := Nat.div_le_self x (2 ^ k)
      have e : ((x / 2 ^ k : Nat) : Int) = (x : Int) / 2 ^ k := by simp
      omega
    by_cases hlt : (k : Int) < i
    · go_wp2
      go_round
      case rel => exact ⟨k + 1, by omega, by go_num, int_ret (by rw [Nat.pow_succ, ← Nat.div_div_eq_div_mul]; first | simp | (simp; omega))⟩
      case measure => simp [intOf]; omega
    · obtain rfl : (k : Int) = i := by omega
      go_wp2
      go_ret
      exact ⟨by simp [Wd.bitN], rfl⟩
end Go.Proofs.Ytkegljcndhckeab
