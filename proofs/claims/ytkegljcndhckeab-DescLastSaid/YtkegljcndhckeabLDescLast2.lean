import Derived.Test.YtkegljcndhckeabLDescLast
namespace Go.Proofs.Ytkegljcndhckeab
open Go.RowKit
set_option linter.unusedVariables false
set_option maxHeartbeats 2000000 in
theorem descLast_yes (d : Ds.D) (was n : Int) (w : World) (hw : 0 ≤ was ∧ was < 4294967296) (h1 : 0 ≤ n) (h2 : n < 256) (hf1 : 0 ≤ d.at_ ∧ d.at_ < 4294967296) (hf2 : 0 ≤ d.stamp ∧ d.stamp < 4294967296) (hm : d.may = true) :
    Calls Try.prog 5 #[.agg d.cells.toArray, .int .u32 was, .int .u8 n] w fun e w' => e = .returned (.bool true) ∧ Below w.heap.size w w' := by
  have hr1 : 0 ≤ n % 66 := Int.emod_nonneg _ (by omega)
  have hr2 : n % 66 < 66 := Int.emod_lt_of_pos _ (by omega)
  have WAS := Lib.hid hw
  have ST := Lib.hid (fun p F R who a ha => store_ok p F R who a ha d hm hf1 hf2)
  obtain ⟨x0, x1, x2, x3, hws⟩ : ∃ a b c e, d.words = [a, b, c, e] := ⟨_, _, _, _, rfl⟩
  have SL := Lib.hid (fun R hk hall => Ds.stK_log R 2 (4 * (n % 66)) d hk hall 4 (by omega))
  have HWS := Lib.hid hws
  clear hm hw hf1 hf2 hws
  obtain ⟨own, wrap, first, last, bad, len, at_, size, stamp⟩ := d
  simp only [Ds.D.cells] at *
  go_enter Try.func5, Try.ntmps5
  go_wp2_with (go_at_call 9; refine (dshown_ok _).mono ?_; rintro e w1 ⟨rfl, hb⟩)
  refine (rnew_ok 70 (by omega) _).mono ?_
  rintro e w2 ⟨rfl, hR, hb2⟩
  have HA := Lib.hid ((DescAt.new w ⟨own, wrap, first, last, bad, len, at_, size, stamp⟩).below hb)
  have hlt : w.heap.size < w1.heap.size := by have := hb.size; simp at this; omega
  have HB := Lib.hid (((Below.refl _ w).alloc (Nat.le_refl _) (.cells #[.bool own, .bool wrap, .bool first, .bool last, .bool bad, .int .i64 len, .int .u32 at_, .int .i64 size, .int .u32 stamp] 24)).trans (hb.mono (by simp)))
  have HM := Lib.hid ((Mv.refl [w1.heap.size + 1, w1.heap.size] w1).trans (Mv.of_below hb2))
  clear hb2 hb
  go_wp2_with fail
  refine (write_ok _ _ _ _ _ _ (by omega) WAS.out _ hR (by simp [Rm.blank])).mono ?_
  have hlog : (Rm.write (Rm.blank (70 : Int).toNat) 1 (4 * (n % 66)) was).log = [] := by unfold Rm.write Rm.note; split <;> rfl
  clear hR
  rintro e w3 ⟨rfl, F3, hR, hM⟩
  replace HM := Lib.hid (HM.out.trans hM)
  have hkp := Lib.hid (keep_ok _ _ _ true _ hR)
  clear hM hR
  go_wp2_with (go_at_call 17; refine hkp.out.mono ?_; rintro e w4 ⟨rfl, F4, hR, hM⟩; obtain ⟨c0, c1, c2, c3, c4, c5, c6, c7, c8⟩ := desc_cells (mv_desc HA.out (HM.out.trans hM) (by simp; omega)))
  have hwl : (Rm.keep (Rm.write (Rm.blank (70 : Int).toNat) 1 (4 * (n % 66)) was) true).ws.length = 70 := by
    show (Rm.write _ _ _ _).ws.length = 70
    rw [Rm.write_len_ws]; show (List.replicate _ _).length = 70; rw [List.length_replicate]; rfl
  obtain ⟨R1, hR1⟩ : ∃ R1, Rm.keep (Rm.write (Rm.blank (70 : Int).toNat) 1 (4 * (n % 66)) was) true = R1 := ⟨_, rfl⟩
  have hk1 : R1.keep = true := by rw [← hR1]; rfl
  have hl1 : R1.log = [] := by rw [← hR1]; rfl
  rw [hR1] at hR hwl
  obtain ⟨s1, -, -, s4⟩ := SL.out R1 hk1 (fun k hk => Rm.is_iff.2 ⟨by unfold Ds.adr; omega, by unfold Ds.adr; omega⟩)
  refine (ST.out _ _ _ 2 (4 * (n % 66)) (by omega) _ hR (by rw [hl1]; simp)).mono ?_
  rintro e w5 ⟨rfl, F5, hR5, hM5⟩
  rw [s1]
  have hlg := log_ok _ _ _ _ hR5 (by rw [s4, hl1]; simp)
  rw [s4, hl1, HWS.out] at hlg
  have a1 : Ds.adr (4 * (n % 66)) 1 = 4 * (n % 66) + 4 := by unfold Ds.adr; omega
  have a2 : Ds.adr (4 * (n % 66)) 2 = 4 * (n % 66) + 8 := by unfold Ds.adr; omega
  have a3 : Ds.adr (4 * (n % 66)) 3 = 4 * (n % 66) + 12 := by unfold Ds.adr; omega
  have a0 : Ds.adr (4 * (n % 66)) 0 = 4 * (n % 66) := by unfold Ds.adr; omega
  rw [show ([] ++ (List.range 4).map fun j => (⟨2, true, Ds.adr (4 * (n % 66)) ((j + 1) % 4), [x0, x1, x2, x3].getD ((j + 1) % 4) 0, 0⟩ : Rm.Acc)) = [⟨2, true, 4 * (n % 66) + 4, x1, 0⟩, ⟨2, true, 4 * (n % 66) + 8, x2, 0⟩, ⟨2, true, 4 * (n % 66) + 12, x3, 0⟩, ⟨2, true, 4 * (n % 66), x0, 0⟩] by
    show [(⟨2, true, Ds.adr (4 * (n % 66)) 1, x1, 0⟩ : Rm.Acc), ⟨2, true, Ds.adr (4 * (n % 66)) 2, x2, 0⟩, ⟨2, true, Ds.adr (4 * (n % 66)) 3, x3, 0⟩, ⟨2, true, Ds.adr (4 * (n % 66)) 0, x0, 0⟩] = _
    rw [a0, a1, a2, a3]] at hlg
  replace HM := Lib.hid ((HM.out.trans hM).trans hM5)
  have HLG := Lib.hid hlg
  clear hlg hM hM5 hR hR5 s1 s4 hwl hk1 hl1 hR1 a0 a1 a2 a3 c0 c1 c2 c3 c4 c5 c6 c7 c8 hlog hkp
  go_wp2_with fail
  refine HLG.out.mono ?_
  rintro e w6 ⟨rfl, hrow, hb6⟩
  have q0 : w6.cell? ⟨w5.heap.size, 0, none⟩ = some (.int .i64 2) := (cell_heap hrow 0).trans rfl
  have q1 : w6.cell? ⟨w5.heap.size, 1, none⟩ = some (.bool true) := (cell_heap hrow 1).trans rfl
  have q2 : w6.cell? ⟨w5.heap.size, 2, none⟩ = some (.int .u32 (4 * (n % 66) + 4)) := (cell_heap hrow 2).trans rfl
  have q4 : w6.cell? ⟨w5.heap.size, 4, none⟩ = some (.int .i64 0) := (cell_heap hrow 4).trans rfl
  have q5 : w6.cell? ⟨w5.heap.size, 5, none⟩ = some (.int .i64 2) := (cell_heap hrow 5).trans rfl
  have q6 : w6.cell? ⟨w5.heap.size, 6, none⟩ = some (.bool true) := (cell_heap hrow 6).trans rfl
  have q7 : w6.cell? ⟨w5.heap.size, 7, none⟩ = some (.int .u32 (4 * (n % 66) + 8)) := (cell_heap hrow 7).trans rfl
  have q9 : w6.cell? ⟨w5.heap.size, 9, none⟩ = some (.int .i64 0) := (cell_heap hrow 9).trans rfl
  have q10 : w6.cell? ⟨w5.heap.size, 10, none⟩ = some (.int .i64 2) := (cell_heap hrow 10).trans rfl
  have q11 : w6.cell? ⟨w5.heap.size, 11, none⟩ = some (.bool true) := (cell_heap hrow 11).trans rfl
  have q12 : w6.cell? ⟨w5.heap.size, 12, none⟩ = some (.int .u32 (4 * (n % 66) + 12)) := (cell_heap hrow 12).trans rfl
  have q14 : w6.cell? ⟨w5.heap.size, 14, none⟩ = some (.int .i64 0) := (cell_heap hrow 14).trans rfl
  have q15 : w6.cell? ⟨w5.heap.size, 15, none⟩ = some (.int .i64 2) := (cell_heap hrow 15).trans rfl
  have q16 : w6.cell? ⟨w5.heap.size, 16, none⟩ = some (.bool true) := (cell_heap hrow 16).trans rfl
  have q17 : w6.cell? ⟨w5.heap.size, 17, none⟩ = some (.int .u32 (4 * (n % 66))) := (cell_heap hrow 17).trans rfl
  have q19 : w6.cell? ⟨w5.heap.size, 19, none⟩ = some (.int .i64 0) := (cell_heap hrow 19).trans rfl
  have HBF := Lib.hid (HB.out.trans ((HM.out.trans (Mv.of_below hb6)).below (Nat.le_refl _) (by intro k hk; simp at hk; omega) |>.mono HB.out.size))
  clear hrow hb6
  have n1 : (4 * (n % 66) + 4 == 4 * (n % 66)) = false := by simp; try omega
  have n2 : (4 * (n % 66) + 8 == 4 * (n % 66)) = false := by simp; try omega
  have n3 : (4 * (n % 66) + 12 == 4 * (n % 66)) = false := by simp; try omega
  go_wp2_with fail
  go_loop [13] (fun i => ∃ k : Nat, k ≤ 4 ∧ i = .int .i64 k) (fun i => 4 - (intOf i).toNat)
  case atStart => exact ⟨0, by omega, rfl⟩
  case round =>
    obtain ⟨k, hk, rfl⟩ := hrel
    rcases (show k = 0 ∨ k = 1 ∨ k = 2 ∨ k = 3 ∨ k = 4 by omega) with rfl | rfl | rfl | rfl | rfl
    · go_wp2
      go_round
      case rel => exact ⟨1, by omega, rfl⟩
      case measure => simp [intOf]
    · go_wp2
      go_round
      case rel => exact ⟨2, by omega, rfl⟩
      case measure => simp [intOf]
    · go_wp2
      go_round
      case rel => exact ⟨3, by omega, rfl⟩
      case measure => simp [intOf]
    · go_wp2
      go_round
      case rel => exact ⟨4, by omega, rfl⟩
      case measure => simp [intOf]
    · go_wp2
      go_ret
      exact ⟨rfl, HBF.out⟩
theorem descLast_walk (d : Ds.D) (was n : Int) (w : World) (x0 : (Lit.int .i64 d.len).wf = true ∧ (Lit.int .u32 d.at_).wf = true ∧ (Lit.int .i64 d.size).wf = true ∧ (Lit.int .u32 d.stamp).wf = true) (x1 : (Lit.int .u32 was).wf = true) (x2 : (Lit.int .u8 n).wf = true) :
    Calls Try.prog 5 #[.agg d.cells.toArray, .int .u32 was, .int .u8 n] w fun e w' => e = .returned (.bool true) ∧ Below w.heap.size w w' := by
  obtain ⟨h1, h2⟩ := wf_u8 x2
  cases hm : d.may with
  | false => exact descLast_no d was n w (wf_u32 x1) h1 h2 hm
  | true => exact descLast_yes d was n w (wf_u32 x1) h1 h2 (wf_u32 x0.2.1) (wf_u32 x0.2.2.2) hm
end Go.Proofs.Ytkegljcndhckeab
