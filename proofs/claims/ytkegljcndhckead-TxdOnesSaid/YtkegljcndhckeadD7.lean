import Derived.Test.YtkegljcndhckeadRM5b
import Derived.Test.YtkegljcndhckeadD3
import Derived.Test.YtkegljcndhckeadDRPure
namespace Go.Proofs.Ytkegljcndhckead
open Go.RowKit
set_option linter.unusedVariables false
theorem of_any (xs : List Int) (hx : ∀ x ∈ xs, 0 ≤ x ∧ x < 4294967296) (w : World) (v : Value) (h : Rd w v (nums .u32 xs)) :
    Calls Try.prog 57 #[v] w fun r w' => r = .returned (.tuple #[.agg (Ds.ofR xs).1.cells.toArray, .int .i64 (Ds.ofR xs).2]) ∧ Below w.heap.size w w' := by
  by_cases hl : xs.length = 4
  · obtain ⟨x0, x1, x2, x3, rfl⟩ : ∃ a b c d, xs = [a, b, c, d] := by
      match xs, hl with
      | [a, b, c, d], _ => exact ⟨a, b, c, d, rfl⟩
    have h0 := hx x0 (by simp)
    have h2 := hx x2 (by simp)
    by_cases hc : x2 ≤ 65535
    · by_cases hf : x0.toNat / 65536 % 2048 = 0
      · rw [show Ds.ofR [x0, x1, x2, x3] = (Ds.ofD x0 x1 x2 x3, 0) by simp [Ds.ofR, hc, hf]]
        exact of_ok x0 x1 x2 x3 v h0 h2.1 w h hc hf
      · rw [show Ds.ofR [x0, x1, x2, x3] = (Ds.blank, 5) by simp [Ds.ofR, hf]]
        exact of_field x0 x1 x2 x3 v h0 w h hc hf
    · rw [show Ds.ofR [x0, x1, x2, x3] = (Ds.blank, 5) by simp [Ds.ofR, hc]]
      exact of_big x0 x1 x2 x3 v h0 w h (by omega)
  · rw [show Ds.ofR xs = (Ds.blank, 5) by unfold Ds.ofR; split <;> simp_all]
    exact of_len xs v hl w h
end Go.Proofs.Ytkegljcndhckead
