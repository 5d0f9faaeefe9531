import Derived.Test.YtkegljcndhckeacM7
namespace Go.Proofs.Ytkegljcndhckeac
open Go.RowKit
set_option linter.unusedVariables false
set_option maxHeartbeats 1000000 in
theorem mdioNobody_walk (n r : Int) (w : World) (x0 : (Lit.int .i64 n).wf = true) (x1 : (Lit.int .i64 r).wf = true) :
    Calls Try.prog 6 #[.int .i64 n, .int .i64 r] w fun e w' => e = .returned (.bool true) ∧ Below w.heap.size w w' := by
  clear x0 x1
  go_enter Try.func6, Try.ntmps6
  go_wp2_with fail
  refine (mshown_ok _).mono ?_
  rintro e w1 ⟨rfl, hb⟩
  have HB := Lib.hid hb
  clear hb
  go_wp2_with fail
  refine (took_nil _).mono ?_
  rintro e w2 ⟨rfl, rfl⟩
  go_wp2_with fail
  refine (mread_zero w1.heap.size 0 1 (by decide) (by decide) _ ?_).mono ?_
  · exact World.cell?_alloc_new w1 _ _ 0
  rintro e w2 ⟨rfl, rfl⟩
  go_wp2_with fail
  refine (clock_nil _ _).mono ?_
  rintro e w2 ⟨rfl, rfl⟩
  go_wp2_with fail
  refine (clock_zero w1.heap.size _ _ ?_).mono ?_
  · exact World.cell?_alloc_new w1 _ _ 0
  rintro e w2 ⟨rfl, rfl⟩
  go_wp2_with fail
  refine (get_nil _ _).mono ?_
  rintro e w2 ⟨rfl, rfl⟩
  go_wp2_with fail
  refine (set_zero w1.heap.size _ _ _ ?_).mono ?_
  · exact World.cell?_alloc_new w1 _ _ 0
  rintro e w2 ⟨rfl, rfl⟩
  go_wp2_with fail
  refine (set_nil _ _ _).mono ?_
  rintro e w2 ⟨rfl, rfl⟩
  go_wp2
  go_ret
  exact ⟨rfl, HB.out.alloc HB.out.size _⟩
end Go.Proofs.Ytkegljcndhckeac
