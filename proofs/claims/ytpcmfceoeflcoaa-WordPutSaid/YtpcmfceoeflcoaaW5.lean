import Derived.Test.YtpcmfceoeflcoaaPk
import Derived.Test.YtpcmfceoeflcoaaW2
import Derived.Test.YtpcmfceoeflcoaaSame
namespace Go.Proofs.Ytpcmfceoeflcoaa
open Go.RowKit
set_option linter.unusedVariables false
theorem rd_lit (w : World) (k : IntKind) (xs : List Int) (e : TypeId) (h : xs.length ≤ maxLen) : Rd (w.alloc (.cells (nums k xs).toArray e)) (.slice (some ⟨w.heap.size, 0, none⟩) xs.length xs.length) (nums k xs) := by
  have := Rd.new w (nums k xs) e (by rw [nums_len]; exact h)
  rwa [nums_len] at this
theorem wshown_ok (w : World) : Calls Try.prog 10 #[] w fun e w' => e = .returned (.bool true) ∧ Below w.heap.size w w' := by
  have f1 : ((((Wd.fieldN 305419896 8 8 : Nat) : Int)) == 86) = true := by decide
  have f2 : ((((Wd.withN 0 4 4 31 : Nat) : Int)) == 240) = true := by decide
  have f3 : ((((Wd.revN 6 4 : Nat) : Int)) == 6) = true := by decide
  go_enter Try.func10, Try.ntmps10
  go_wp2_with (first | (go_at_call 11; refine (field_ok _ _ _ (by decide) (by decide) _).mono ?_; rintro e w' ⟨rfl, rfl⟩) | (go_at_call 13; refine (with_ok _ _ _ _ (by decide) (by decide) (by decide) _).mono ?_; rintro e w' ⟨rfl, rfl⟩) | (go_at_call 15; refine (rev_ok _ _ (by decide) (by decide) _).mono ?_; rintro e w' ⟨rfl, rfl⟩))
  refine (pack_ok _ [1, 2, 3, 4, 5] _ (rd_lit w .u8 [1, 2, 3, 4, 5] 5 (by decide)) (by intro x hx; simp at hx; omega) (by decide)).mono ?_
  rintro e w1 ⟨u, rfl, hown, hb⟩
  have hb1 : Below w.heap.size w w1 := ((Below.refl _ w).alloc (Nat.le_refl _) _).trans (hb.mono (by simp))
  have hR := Rd.of_own hown
  rw [show Wd.packL [1, 2, 3, 4, 5] = [67305985, 5] by decide] at hR
  have hR2 := hR.below ((Below.refl w1.heap.size w1).alloc (Nat.le_refl _) (.cells (nums .u32 [67305985, 5]).toArray 22))
  have hs := same_ok _ _ _ _ _ hR2 (rd_lit w1 .u32 [67305985, 5] 22 (by decide))
  have HS := Lib.hid hs
  have hb2 : Below w.heap.size w (w1.alloc (.cells (nums .u32 [67305985, 5]).toArray 22)) := hb1.alloc hb1.size _
  clear hs hown hb hR hR2
  go_wp2_with fail
  refine HS.out.mono ?_
  rintro e w3 ⟨rfl, hb3⟩
  have hb4 := below_next hb2 hb2.size hb3
  go_wp2
  go_ret
  exact ⟨rfl, hb4⟩
end Go.Proofs.Ytpcmfceoeflcoaa
