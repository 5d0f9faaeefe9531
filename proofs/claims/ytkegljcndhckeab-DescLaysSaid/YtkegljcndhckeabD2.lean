import Derived.Test.YtkegljcndhckeabSame
import Derived.Test.YtkegljcndhckeabD1
namespace Go.Proofs.Ytkegljcndhckeab
open Go.RowKit
set_option linter.unusedVariables false
theorem dshown_ok (w : World) : Calls Try.prog 9 #[] w fun e w' => e = .returned (.bool true) ∧ Below w.heap.size w w' := by
  go_enter Try.func9, Try.ntmps9
  go_wp2_with fail
  refine (dwords_ok ⟨true, false, false, false, false, 5, 64, 128, 9⟩ (by decide) _).mono ?_
  rintro e w1 ⟨g, hO, rfl, hRd, hb⟩
  rw [show Ds.D.words ⟨true, false, false, false, false, 5, 64, 128, 9⟩ = [2147483653, 64, 128, 9] by decide] at hRd
  replace hRd := rd_heap hRd (by simp [nums, maxLen])
  have hR2 := hRd.below ((Below.refl w1.heap.size w1).alloc (Nat.le_refl _) (.cells (nums .u32 [2147483653, 64, 128, 9]).toArray 22))
  have hs := same_ok _ _ _ _ _ hR2 (Rd.new w1 (nums .u32 [2147483653, 64, 128, 9]) 22 (by simp [nums, maxLen]))
  have HS := Lib.hid hs
  have hb2 : Below w.heap.size w (w1.alloc (.cells (nums .u32 [2147483653, 64, 128, 9]).toArray 22)) := hb.alloc hb.size _
  clear hs hRd hR2 hO hb
  go_wp2_with fail
  refine HS.out.mono ?_
  rintro e w3 ⟨rfl, hb3⟩
  have hb4 := below_next hb2 hb2.size hb3
  go_wp2
  go_ret
  exact ⟨rfl, hb4⟩
end Go.Proofs.Ytkegljcndhckeab
