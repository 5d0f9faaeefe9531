import Derived.Test.YtkegljcndhckeadBPure
import Derived.Test.YtkegljcndhckeadMm
namespace Go.Proofs.Ytkegljcndhckead
open Go.RowKit
set_option linter.unusedVariables false
theorem wbytes_ok (w0 : Int) (hw : 0 ≤ w0 ∧ w0 < 4294967296) (w : World) :
    Calls Try.prog 61 #[.int .u32 w0] w fun e w' => e = .returned (.slice (some ⟨w.heap.size, 0, none⟩) 4 4) ∧ w.alloc (.cells (nums .u8 (Wd.bytesL w0)).toArray 5) = w' := by
  obtain ⟨h1, h2⟩ := hw
  go_enter Try.func61, Try.ntmps61
  go_wp2
  go_ret
  have h3 : w0 / 16777216 % 256 = w0 / 16777216 := by omega
  exact ⟨rfl, by simp [Wd.bytesL, nums, h3]⟩
end Go.Proofs.Ytkegljcndhckead
