import Derived.Test.YtkegljcndhckeabD2
import Derived.Test.YtkegljcndhckeabRM6
import Derived.Test.YtkegljcndhckeabRM3
import Derived.Test.YtkegljcndhckeabD6
namespace Go.Proofs.Ytkegljcndhckeab
open Go.RowKit
set_option linter.unusedVariables false
theorem mv_desc {w w' : World} {F F' : List Nat} {b : Nat} {d : Ds.D} (h : DescAt w b d) (hm : Mv F F' w w') (hb : b ∉ F) : DescAt w' b d := (hm.block b (lt_of_heap h) hb).trans h
set_option maxHeartbeats 2000000 in
theorem descLast_no (d : Ds.D) (was n : Int) (w : World) (hw : 0 ≤ was ∧ was < 4294967296) (h1 : 0 ≤ n) (h2 : n < 256) (hm : d.may = false) :
    Calls Try.prog 5 #[.agg d.cells.toArray, .int .u32 was, .int .u8 n] w fun e w' => e = .returned (.bool true) ∧ Below w.heap.size w w' := by
  have hr1 : 0 ≤ n % 66 := Int.emod_nonneg _ (by omega)
  have hr2 : n % 66 < 66 := Int.emod_lt_of_pos _ (by omega)
  have WAS := Lib.hid hw
  have ST := Lib.hid (fun P who a => store_no P who a d hm)
  clear hm hw
  obtain ⟨own, wrap, first, last, bad, len, at_, size, stamp⟩ := d
  simp only [Ds.D.cells] at *
  go_enter Try.func5, Try.ntmps5
  go_wp2_with (go_at_call 9; refine (dshown_ok _).mono ?_; rintro e w1 ⟨rfl, hb⟩)
  refine (rnew_ok 70 (by omega) _).mono ?_
  rintro e w2 ⟨rfl, hR, hb2⟩
  have HA := Lib.hid ((DescAt.new w ⟨own, wrap, first, last, bad, len, at_, size, stamp⟩).below hb)
  have hlt : w.heap.size < w1.heap.size := by have := hb.size; simp at this; omega
  have HB := Lib.hid (((Below.refl _ w).alloc (Nat.le_refl _) (.cells #[.bool own, .bool wrap, .bool first, .bool last, .bool bad, .int .i64 len, .int .u32 at_, .int .i64 size, .int .u32 stamp] 24)).trans (hb.mono (by simp)))
  have HM := Lib.hid ((Mv.refl [w1.heap.size + 1, w1.heap.size] w1).trans (Mv.of_below hb2))
  clear hb2 hb
  go_wp2_with fail
  refine (write_ok _ _ _ _ _ _ (by omega) WAS.out _ hR (by simp [Rm.blank])).mono ?_
  have hlog : (Rm.write (Rm.blank (70 : Int).toNat) 1 (4 * (n % 66)) was).log = [] := by unfold Rm.write Rm.note; split <;> rfl
  clear hR
  rintro e w3 ⟨rfl, F3, hR, hM⟩
  replace HM := Lib.hid (HM.out.trans hM)
  have hkp := Lib.hid (keep_ok _ _ _ true _ hR)
  clear hM hR
  go_wp2_with (go_at_call 17; refine hkp.out.mono ?_; rintro e w4 ⟨rfl, F4, hR, hM⟩; obtain ⟨c0, c1, c2, c3, c4, c5, c6, c7, c8⟩ := desc_cells (mv_desc HA.out (HM.out.trans hM) (by simp; omega)))
  refine (ST.out _ _ _ _).mono ?_
  rintro e w5 ⟨rfl, hb5⟩
  have hlg := log_ok _ _ _ _ (hR.below hb5) (show (Rm.keep _ true).log.length < 1000000000 from by show 0 < 1000000000; decide)
  rw [show ∀ R, (Rm.keep R true).log.length = 0 from fun _ => rfl] at hlg
  replace HM := Lib.hid ((HM.out.trans hM).trans (Mv.of_below hb5))
  have HLG := Lib.hid hlg
  clear hlg hR hM hb5 c0 c1 c2 c3 c4 c5 c6 c7 c8
  go_wp2_with (go_at_call 19; refine HLG.out.mono ?_; rintro e w6 ⟨rfl, -, hb6⟩)
  go_ret
  exact ⟨rfl, HB.out.trans ((HM.out.trans (Mv.of_below hb6)).below (Nat.le_refl _) (by intro k hk; simp at hk; omega) |>.mono HB.out.size)⟩
end Go.Proofs.Ytkegljcndhckeab
