import Derived.Test.YtpcmfceoeflcoaaW5
namespace Go.Proofs.Ytpcmfceoeflcoaa
open Go.RowKit
set_option linter.unusedVariables false
theorem wordParts_walk (w0 at_ n v : Int) (w : World) (x0 : (Lit.int .u32 w0).wf = true) (x1 : (Lit.int .i64 at_).wf = true) (x2 : (Lit.int .i64 n).wf = true) (x3 : (Lit.int .u32 v).wf = true) :
    Calls Try.prog 3 #[.int .u32 w0, .int .i64 at_, .int .i64 n, .int .u32 v] w fun e w' => e = .returned (.bool true) ∧ Below w.heap.size w w' := by
  have b0 := Lib.hid (wf_u32 x0); have b3 := Lib.hid (wf_u32 x3); have X2 := Lib.hid x2
  clear x0 x1 x2 x3
  cases h : Wd.fitsB at_ n with
  | true =>
    have H := Lib.hid h; clear h
    have HR := Lib.hid (show 0 ≤ n ∧ n ≤ 32 by have := Wd.fits_nat H.out; omega)
    go_enter Try.func3, Try.ntmps3
    go_wp2_with (first | (go_at_call 10; refine (wshown_ok _).mono ?_; rintro e w1 ⟨rfl, hb⟩) | (go_at_call 11; refine (field_ok _ _ _ b0.out H.out _).mono ?_; rintro e w' ⟨rfl, rfl⟩) | (go_at_call 13; refine (with_ok _ _ _ _ b0.out b3.out H.out _).mono ?_; rintro e w' ⟨rfl, rfl⟩) | (go_at_call 12; refine (rfield_ok _ _ _ b0.out H.out _).mono ?_; rintro e w' ⟨rfl, rfl⟩) | (go_at_call 14; refine (rwith_ok _ _ _ _ b0.out b3.out H.out _).mono ?_; rintro e w' ⟨rfl, rfl⟩) | (go_at_call 15; refine (rev_ok _ _ b0.out HR.out _).mono ?_; rintro e w' ⟨rfl, rfl⟩) | (go_at_call 16; refine (rrev_ok _ _ b0.out HR.out _).mono ?_; rintro e w' ⟨rfl, rfl⟩))
    go_ret
    exact ⟨rfl, hb⟩
  | false =>
    have H := Lib.hid h; clear h
    by_cases hr : 0 ≤ n ∧ n ≤ 32
    · have HR := Lib.hid hr; clear hr
      go_enter Try.func3, Try.ntmps3
      go_wp2_with (first | (go_at_call 10; refine (wshown_ok _).mono ?_; rintro e w1 ⟨rfl, hb⟩) | (go_at_call 11; refine (field_no _ _ _ X2.out H.out _).mono ?_; rintro e w' ⟨rfl, rfl⟩) | (go_at_call 13; refine (with_no _ _ _ _ X2.out H.out _).mono ?_; rintro e w' ⟨rfl, rfl⟩) | (go_at_call 12; refine (rfield_no _ _ _ H.out _).mono ?_; rintro e w' ⟨rfl, rfl⟩) | (go_at_call 14; refine (rwith_no _ _ _ _ H.out _).mono ?_; rintro e w' ⟨rfl, rfl⟩) | (go_at_call 15; refine (rev_ok _ _ b0.out HR.out _).mono ?_; rintro e w' ⟨rfl, rfl⟩) | (go_at_call 16; refine (rrev_ok _ _ b0.out HR.out _).mono ?_; rintro e w' ⟨rfl, rfl⟩))
      go_ret
      exact ⟨rfl, hb⟩
    · have HR := Lib.hid (show n < 0 ∨ 32 < n by omega); clear hr
      go_enter Try.func3, Try.ntmps3
      go_wp2_with (first | (go_at_call 10; refine (wshown_ok _).mono ?_; rintro e w1 ⟨rfl, hb⟩) | (go_at_call 11; refine (field_no _ _ _ X2.out H.out _).mono ?_; rintro e w' ⟨rfl, rfl⟩) | (go_at_call 13; refine (with_no _ _ _ _ X2.out H.out _).mono ?_; rintro e w' ⟨rfl, rfl⟩) | (go_at_call 12; refine (rfield_no _ _ _ H.out _).mono ?_; rintro e w' ⟨rfl, rfl⟩) | (go_at_call 14; refine (rwith_no _ _ _ _ H.out _).mono ?_; rintro e w' ⟨rfl, rfl⟩) | (go_at_call 15; refine (rev_no _ _ X2.out HR.out _).mono ?_; rintro e w' ⟨rfl, rfl⟩) | (go_at_call 16; refine (rrev_no _ _ HR.out _).mono ?_; rintro e w' ⟨rfl, rfl⟩))
      go_ret
      exact ⟨rfl, hb⟩
end Go.Proofs.Ytpcmfceoeflcoaa
