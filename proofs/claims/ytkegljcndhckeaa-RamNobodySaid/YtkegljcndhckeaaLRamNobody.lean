import Derived.Test.YtkegljcndhckeaaRM5
import Derived.Test.YtkegljcndhckeaaRM7
namespace Go.Proofs.Ytkegljcndhckeaa
open Go.RowKit
set_option linter.unusedVariables false
theorem ramNobody_walk (a n : Int) (w : World) (x0 : (Lit.int .u32 a).wf = true) (x1 : (Lit.int .u8 n).wf = true) :
    Calls Try.prog 7 #[.int .u32 a, .int .u8 n] w fun e w' => e = .returned (.bool true) ∧ Below w.heap.size w w' := by
  have A := Lib.hid (wf_u32 x0)
  obtain ⟨h3, h4⟩ := wf_u8 x1
  clear x0 x1
  go_enter Try.func7, Try.ntmps7
  go_wp2_with (go_at_call 9; refine (rshown_ok _).mono ?_; rintro e w1 ⟨rfl, hb⟩)
  refine (read_nil 1 a A.out _).mono ?_
  rintro e w2 ⟨rfl, hb2⟩
  replace hb := below_next hb hb.size hb2
  clear hb2
  go_wp2_with fail
  refine (write_nil 1 a 0 A.out _).mono ?_
  rintro e w3 ⟨rfl, hb3⟩
  replace hb := below_next hb hb.size hb3
  clear hb3
  go_wp2_with (first | (go_at_call 18; refine (dump_nil _ _ A.out (by omega) _).mono ?_; rintro e w' ⟨rfl, rfl⟩) | (go_at_call 17; refine (keep_nil _ _).mono ?_; rintro e w' ⟨rfl, rfl⟩) | (go_at_call 22; refine (log_nil _).mono ?_; rintro e w' ⟨rfl, rfl⟩) | (go_at_call 13; refine (words_nil _).mono ?_; rintro e w' ⟨rfl, rfl⟩))
  go_ret
  exact ⟨rfl, hb⟩
end Go.Proofs.Ytkegljcndhckeaa
