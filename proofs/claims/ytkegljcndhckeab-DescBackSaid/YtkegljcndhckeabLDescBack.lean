import Derived.Test.YtkegljcndhckeabD8
import Derived.Test.YtkegljcndhckeabD6
import Derived.Test.YtkegljcndhckeabD2
import Derived.Test.YtkegljcndhckeabDMem
import Derived.Test.YtkegljcndhckeabSame
namespace Go.Proofs.Ytkegljcndhckeab
open Go.RowKit
set_option linter.unusedVariables false
theorem mv_desc' {w w' : World} {F F' : List Nat} {b : Nat} {d : Ds.D} (h : DescAt w b d) (hm : Mv F F' w w') (hb : b ∉ F) : DescAt w' b d := (hm.block b (lt_of_heap h) hb).trans h
/-- Words by whatever descriptor: its words, or nothing. -/
theorem words_any (d : Ds.D) (w : World) : Calls Try.prog 10 #[.agg d.cells.toArray] w fun r w' => ∃ v, r = .returned (.tuple #[v, .int .i64 (if d.may then 0 else 1)]) ∧ Rd w' v (nums .u32 (if d.may then d.words else [])) ∧ Below w.heap.size w w' := by
  cases hm : d.may with
  | false => exact (dwords_no d hm w).mono fun r w' ⟨h1, h2⟩ => ⟨_, h1, Rd.nil _, h2⟩
  | true => exact (dwords_ok d hm w).mono fun r w' ⟨g, _, h1, h2, h3⟩ => ⟨_, h1, rd_heap h2 (by simp [nums, Ds.D.words, maxLen]), h3⟩
theorem back_plain (d : Ds.D) (hm : d.may = true) (i : Nat) (hi : i < 66) (n : Nat) (hn : n = 70) :
    (Ds.stK (Rm.blank n) 1 (4 * (i : Int)) d 4).2 = 0 ∧ (Ds.stK (Rm.blank n) 1 (4 * (i : Int)) d 4).1.log.length < 100 ∧ Ds.loadD (Ds.stK (Rm.blank n) 1 (4 * (i : Int)) d 4).1 3 (4 * (i : Int)) = d ∧ Ds.loadE (Ds.stK (Rm.blank n) 1 (4 * (i : Int)) d 4).1 3 (4 * (i : Int)) = 0 := by
  have hl : (Rm.blank n).ws.length = n := by simp [Rm.blank]
  obtain ⟨h1, h2, h3, h4, h5⟩ := Ds.st_all (Rm.blank n) 1 i d (by omega) (by omega)
  obtain ⟨-, -, -, -, g5, g6⟩ := Ds.ld_all (Ds.stK (Rm.blank n) 1 (4 * (i : Int)) d 4).1 3 i (by omega) (by omega)
  have e : [Ds.W (Ds.stK (Rm.blank n) 1 (4 * (i : Int)) d 4).1 i, Ds.W (Ds.stK (Rm.blank n) 1 (4 * (i : Int)) d 4).1 (i + 1), Ds.W (Ds.stK (Rm.blank n) 1 (4 * (i : Int)) d 4).1 (i + 2), Ds.W (Ds.stK (Rm.blank n) 1 (4 * (i : Int)) d 4).1 (i + 3)] = d.words := by
    rw [h5, h5, h5, h5, if_pos (by omega), if_pos (by omega), if_pos (by omega), if_pos (by omega), Nat.sub_self, Nat.add_sub_cancel_left, Nat.add_sub_cancel_left, Nat.add_sub_cancel_left]
    rfl
  rw [e, Ds.of_words d hm] at g5 g6
  exact ⟨h1, by rw [h4 rfl]; exact (by decide : 0 < 100), g5, g6⟩
set_option maxHeartbeats 4000000 in
theorem descBack_yes (d : Ds.D) (v : Value) (xs : List Int) (n : Int) (w : World) (h1 : 0 ≤ n) (h2 : n < 256) (hf1 : 0 ≤ d.at_ ∧ d.at_ < 4294967296) (hf2 : 0 ≤ d.stamp ∧ d.stamp < 4294967296) (hx : ∀ x ∈ xs, 0 ≤ x ∧ x < 4294967296) (r1 : Rd w v (nums .u32 xs)) (hm : d.may = true) :
    Calls Try.prog 6 #[.agg d.cells.toArray, v, .int .u8 n] w fun e w' => e = .returned (.bool true) ∧ Below w.heap.size w w' := by
  have hr1 : 0 ≤ n % 66 := Int.emod_nonneg _ (by omega)
  have hr2 : n % 66 < 66 := Int.emod_lt_of_pos _ (by omega)
  obtain ⟨i, hi⟩ := Int.eq_ofNat_of_zero_le hr1
  have hi66 : i < 66 := by omega
  have HI := Lib.hid hi
  have STY := Lib.hid (fun p F R who a ha => store_ok p F R who a ha d hm hf1 hf2)
  have PL := Lib.hid (back_plain d hm i hi66 70 rfl)
  have OF := Lib.hid (fun w h => of_any xs hx w v h)
  have wd := words_any (Ds.ofR xs).1
  obtain ⟨wc, hwc⟩ : ∃ wc : Int, (if (Ds.ofR xs).1.may then (0 : Int) else 1) = wc := ⟨_, rfl⟩
  rw [hwc] at wd
  have HWC := Lib.hid (show (Ds.ofR xs).1.may = true → wc = 0 from fun h => by rw [← hwc, if_pos h])
  have WD := Lib.hid wd
  clear wd hwc
  have hmay : d.may = decide (0 ≤ d.len ∧ d.len ≤ 65535 ∧ 0 ≤ d.size ∧ d.size ≤ 65535) := rfl
  have hz := Ds.of_zero xs hx
  have h5 := Ds.of_five xs
  have HZ := Lib.hid hz; have H5 := Lib.hid h5
  have HRD := Lib.hid r1
  obtain ⟨D, hD⟩ : ∃ D, (Ds.ofR xs).1 = D := ⟨_, rfl⟩
  obtain ⟨g, hg⟩ : ∃ g, (Ds.ofR xs).2 = g := ⟨_, rfl⟩
  rw [hD, hg] at OF HZ H5
  rw [hD] at WD HWC
  rw [hm] at hmay
  obtain ⟨m1, m2, m3, m4⟩ := of_decide_eq_true hmay.symm
  clear hm hmay hz h5 r1 hD hg hi hx
  obtain ⟨own, wrap, first, last, bad, len, at_, size, stamp⟩ := d
  simp only [Ds.D.cells] at *
  go_enter Try.func6, Try.ntmps6
  go_wp2_with (go_at_call 9; refine (dshown_ok _).mono ?_; rintro e w1 ⟨rfl, hb⟩)
  refine (rnew_ok 70 (by omega) _).mono ?_
  rintro e w2 ⟨rfl, hR, hb2⟩
  have HA := Lib.hid ((DescAt.new w ⟨own, wrap, first, last, bad, len, at_, size, stamp⟩).below hb)
  have hlt : w.heap.size < w1.heap.size := by have := hb.size; simp at this; omega
  have HB := Lib.hid (((Below.refl _ w).alloc (Nat.le_refl _) (.cells #[.bool own, .bool wrap, .bool first, .bool last, .bool bad, .int .i64 len, .int .u32 at_, .int .i64 size, .int .u32 stamp] 24)).trans (hb.mono (by simp)))
  have HM := Lib.hid ((Mv.refl [w1.heap.size + 1, w1.heap.size] w1).trans (Mv.of_below hb2))
  have HR := Lib.hid hR
  obtain ⟨c0, c1, c2, c3, c4, c5, c6, c7, c8⟩ := desc_cells (HA.out.below hb2)
  clear hb2 hb hR
  go_wp2_with fail
  rw [HI.out]
  refine (STY.out _ _ _ 1 (4 * (i : Int)) (by omega) _ HR.out (by simp [Rm.blank])).mono ?_
  rintro e w3 ⟨rfl, F3, hR3, hM3⟩
  rw [show Rm.blank (70 : Int).toNat = Rm.blank 70 from rfl] at hR3 ⊢
  rw [PL.out.1]
  have HM3 := Lib.hid (HM.out.trans hM3)
  have hld := load_ok _ _ _ 3 (4 * (i : Int)) (by omega) _ hR3 (Nat.lt_trans PL.out.2.1 (by decide))
  rw [PL.out.2.2.1, PL.out.2.2.2] at hld
  simp only [Ds.D.cells] at hld
  have HLD := Lib.hid hld
  clear hR3 hM3 hld c0 c1 c2 c3 c4 c5 c6 c7 c8
  go_wp2_with fail
  refine HLD.out.mono ?_
  rintro e w4 ⟨rfl, F4, -, hM4⟩
  have HM4 := Lib.hid (HM3.out.trans hM4)
  obtain ⟨c0, c1, c2, c3, c4, c5, c6, c7, c8⟩ := desc_cells (mv_desc' HA.out HM4.out (by simp; omega))
  have HB4 := Lib.hid (HB.out.trans ((HM4.out.below (Nat.le_refl _) (by intro k hk; simp at hk; omega)).mono HB.out.size))
  have HBB := Lib.hid (HB4.out.alloc HB4.out.size (.cells #[.bool own, .bool wrap, .bool first, .bool last, .bool bad, .int .i64 len, .int .u32 at_, .int .i64 size, .int .u32 stamp] 24))
  have hlt4 : w.heap.size < w4.heap.size := Nat.lt_of_lt_of_le hlt HM4.out.size
  clear hM4
  go_wp2_with fail
  refine (OF.out _ (HRD.out.below HBB.out)).mono ?_
  rintro e w5 ⟨rfl, hb5⟩
  obtain ⟨Down, Dwrap, Dfirst, Dlast, Dbad, Dlen, Dat, Dsize, Dstamp⟩ := D
  simp only [Ds.D.cells] at *
  have HBB5 := Lib.hid (HBB.out.trans (hb5.mono HBB.out.size))
  clear hb5
  go_wp2_with fail
  refine (WD.out _).mono ?_
  rintro e w6 ⟨v6, rfl, hR6, hb6⟩
  have HBB6 := Lib.hid ((HBB5.out.alloc HBB5.out.size (.cells #[.bool Down, .bool Dwrap, .bool Dfirst, .bool Dlast, .bool Dbad, .int .i64 Dlen, .int .u32 Dat, .int .i64 Dsize, .int .u32 Dstamp] 24)).trans (hb6.mono (by have := HBB5.out.size; simp; omega)))
  have HR6 := Lib.hid hR6
  clear hb6 hR6
  rcases H5.out with rfl | ⟨rfl, -⟩
  · obtain ⟨z1, z2⟩ := HZ.out rfl
    have hs := same_ok _ _ _ _ _ HR6.out (HRD.out.below HBB6.out)
    rw [z2, if_pos rfl, z1, decide_eq_true rfl] at hs
    have HS := Lib.hid hs
    rw [HWC.out z2]
    clear z1 z2 hs
    go_wp2_with (go_at_call 14; refine HS.out.mono ?_; rintro e w7 ⟨rfl, hb7⟩)
    go_ret
    exact ⟨rfl, HBB6.out.trans (hb7.mono HBB6.out.size)⟩
  · go_wp2
    go_ret
    exact ⟨rfl, HBB6.out⟩
set_option maxHeartbeats 4000000 in
theorem descBack_no (d : Ds.D) (v : Value) (xs : List Int) (n : Int) (w : World) (h1 : 0 ≤ n) (h2 : n < 256) (hf1 : 0 ≤ d.at_ ∧ d.at_ < 4294967296) (hf2 : 0 ≤ d.stamp ∧ d.stamp < 4294967296) (hx : ∀ x ∈ xs, 0 ≤ x ∧ x < 4294967296) (r1 : Rd w v (nums .u32 xs)) (hm : d.may = false) (hc : d.len < 0 ∨ (0 ≤ d.len ∧ 65535 < d.len) ∨ (0 ≤ d.len ∧ d.len ≤ 65535 ∧ d.size < 0) ∨ (0 ≤ d.len ∧ d.len ≤ 65535 ∧ 0 ≤ d.size ∧ 65535 < d.size)) :
    Calls Try.prog 6 #[.agg d.cells.toArray, v, .int .u8 n] w fun e w' => e = .returned (.bool true) ∧ Below w.heap.size w w' := by
  have hr1 : 0 ≤ n % 66 := Int.emod_nonneg _ (by omega)
  have hr2 : n % 66 < 66 := Int.emod_lt_of_pos _ (by omega)
  obtain ⟨i, hi⟩ := Int.eq_ofNat_of_zero_le hr1
  have hi66 : i < 66 := by omega
  have HI := Lib.hid hi
  have HC := Lib.hid hc
  have STN := Lib.hid (fun P who a => store_no P who a d hm)
  have OF := Lib.hid (fun w h => of_any xs hx w v h)
  have wd := words_any (Ds.ofR xs).1
  obtain ⟨wc, hwc⟩ : ∃ wc : Int, (if (Ds.ofR xs).1.may then (0 : Int) else 1) = wc := ⟨_, rfl⟩
  rw [hwc] at wd
  have HWC := Lib.hid (show (Ds.ofR xs).1.may = true → wc = 0 from fun h => by rw [← hwc, if_pos h])
  have WD := Lib.hid wd
  clear wd hwc
  have hmay : d.may = decide (0 ≤ d.len ∧ d.len ≤ 65535 ∧ 0 ≤ d.size ∧ d.size ≤ 65535) := rfl
  have hz := Ds.of_zero xs hx
  have h5 := Ds.of_five xs
  have HZ := Lib.hid hz; have H5 := Lib.hid h5
  have HRD := Lib.hid r1
  obtain ⟨D, hD⟩ : ∃ D, (Ds.ofR xs).1 = D := ⟨_, rfl⟩
  obtain ⟨g, hg⟩ : ∃ g, (Ds.ofR xs).2 = g := ⟨_, rfl⟩
  rw [hD, hg] at OF HZ H5
  rw [hD] at WD HWC
  clear hm hc hmay hz h5 r1 hD hg hi hx
  obtain ⟨own, wrap, first, last, bad, len, at_, size, stamp⟩ := d
  simp only [Ds.D.cells] at *
  go_enter Try.func6, Try.ntmps6
  go_wp2_with (go_at_call 9; refine (dshown_ok _).mono ?_; rintro e w1 ⟨rfl, hb⟩)
  refine (rnew_ok 70 (by omega) _).mono ?_
  rintro e w2 ⟨rfl, hR, hb2⟩
  have HA := Lib.hid ((DescAt.new w ⟨own, wrap, first, last, bad, len, at_, size, stamp⟩).below hb)
  have hlt : w.heap.size < w1.heap.size := by have := hb.size; simp at this; omega
  have HB := Lib.hid (((Below.refl _ w).alloc (Nat.le_refl _) (.cells #[.bool own, .bool wrap, .bool first, .bool last, .bool bad, .int .i64 len, .int .u32 at_, .int .i64 size, .int .u32 stamp] 24)).trans (hb.mono (by simp)))
  have HM := Lib.hid ((Mv.refl [w1.heap.size + 1, w1.heap.size] w1).trans (Mv.of_below hb2))
  have HR := Lib.hid hR
  obtain ⟨c0, c1, c2, c3, c4, c5, c6, c7, c8⟩ := desc_cells (HA.out.below hb2)
  clear hb2 hb hR
  go_wp2_with fail
  rw [HI.out]
  refine (STN.out _ 1 (4 * (i : Int)) _).mono ?_
  rintro e w4 ⟨rfl, hb4⟩
  have HM4 := Lib.hid (HM.out.trans (Mv.of_below hb4))
  clear c0 c1 c2 c3 c4 c5 c6 c7 c8 hb4
  obtain ⟨c0, c1, c2, c3, c4, c5, c6, c7, c8⟩ := desc_cells (mv_desc' HA.out HM4.out (by simp; omega))
  have HBB := Lib.hid (HB.out.trans ((HM4.out.below (Nat.le_refl _) (by intro k hk; simp at hk; omega)).mono HB.out.size))
  have hlt4 : w.heap.size < w4.heap.size := Nat.lt_of_lt_of_le hlt HM4.out.size
  rcases HC.out with m1 | ⟨m1, m2⟩ | ⟨m1, m2, m3⟩ | ⟨m1, m2, m3, m4⟩
  all_goals try have m5 : decide (size ≤ 65535) = false := by rw [decide_eq_false_iff_not]; omega
  all_goals go_wp2_with fail
  all_goals
    refine (OF.out _ (HRD.out.below HBB.out)).mono ?_
    rintro e w5 ⟨rfl, hb5⟩
    obtain ⟨Down, Dwrap, Dfirst, Dlast, Dbad, Dlen, Dat, Dsize, Dstamp⟩ := D
    simp only [Ds.D.cells] at *
    have HBB5 := Lib.hid (HBB.out.trans (hb5.mono HBB.out.size))
    clear hb5
    go_wp2_with fail
    refine (WD.out _).mono ?_
    rintro e w6 ⟨v6, rfl, hR6, hb6⟩
    have HBB6 := Lib.hid ((HBB5.out.alloc HBB5.out.size (.cells #[.bool Down, .bool Dwrap, .bool Dfirst, .bool Dlast, .bool Dbad, .int .i64 Dlen, .int .u32 Dat, .int .i64 Dsize, .int .u32 Dstamp] 24)).trans (hb6.mono (by have := HBB5.out.size; simp; omega)))
    have HR6 := Lib.hid hR6
    clear hb6 hR6
    rcases H5.out with rfl | ⟨rfl, -⟩
    · obtain ⟨z1, z2⟩ := HZ.out rfl
      have hs := same_ok _ _ _ _ _ HR6.out (HRD.out.below HBB6.out)
      rw [z2, if_pos rfl, z1, decide_eq_true rfl] at hs
      have HS := Lib.hid hs
      rw [HWC.out z2]
      clear z1 z2 hs
      go_wp2_with (go_at_call 14; refine HS.out.mono ?_; rintro e w7 ⟨rfl, hb7⟩)
      go_ret
      exact ⟨rfl, HBB6.out.trans (hb7.mono HBB6.out.size)⟩
    · go_wp2
      go_ret
      exact ⟨rfl, HBB6.out⟩
theorem descBack_walk (d : Ds.D) (v : Value) (xs : List Int) (n : Int) (w : World) (x0 : (Lit.int .i64 d.len).wf = true ∧ (Lit.int .u32 d.at_).wf = true ∧ (Lit.int .i64 d.size).wf = true ∧ (Lit.int .u32 d.stamp).wf = true)
    (r1 : Rd w v (nums .u32 xs)) (x1 : ∀ n ∈ xs, (Lit.int .u32 n).wf = true) (l1 : xs.length * 4 ≤ 140737488351232) (x2 : (Lit.int .u8 n).wf = true) :
    Calls Try.prog 6 #[.agg d.cells.toArray, v, .int .u8 n] w fun e w' => e = .returned (.bool true) ∧ Below w.heap.size w w' := by
  obtain ⟨h1, h2⟩ := wf_u8 x2
  cases hm : d.may with
  | false =>
    have h : ¬ (0 ≤ d.len ∧ d.len ≤ 65535 ∧ 0 ≤ d.size ∧ d.size ≤ 65535) := by simpa [Ds.D.may] using hm
    exact descBack_no d v xs n w h1 h2 (wf_u32 x0.2.1) (wf_u32 x0.2.2.2) (fun x hx => wf_u32 (x1 x hx)) r1 hm (by omega)
  | true => exact descBack_yes d v xs n w h1 h2 (wf_u32 x0.2.1) (wf_u32 x0.2.2.2) (fun x hx => wf_u32 (x1 x hx)) r1 hm
end Go.Proofs.Ytkegljcndhckeab
