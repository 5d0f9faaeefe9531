import Derived.Test.YtkegljcndhckeabD2
import Derived.Test.YtkegljcndhckeabD5
namespace Go.Proofs.Ytkegljcndhckeab
open Go.RowKit
set_option linter.unusedVariables false
theorem words_both (d : Ds.D) : ∃ (ws : List Int) (e : Int), (∀ w, Calls Try.prog 10 #[.agg d.cells.toArray] w fun r w' => ∃ v, r = .returned (.tuple #[v, .int .i64 e]) ∧ Rd w' v (nums .u32 ws) ∧ Below w.heap.size w w') ∧
    (∀ w, Calls Try.prog 11 #[.agg d.cells.toArray] w fun r w' => ∃ v, r = .returned (.tuple #[v, .int .i64 e]) ∧ Rd w' v (nums .u32 ws) ∧ Below w.heap.size w w') := by
  cases hm : d.may with
  | false =>
    exact ⟨[], 1, fun w => (words_no d hm w).mono fun r w' ⟨h1, h2⟩ => ⟨_, h1, Rd.nil _, h2⟩, fun w => (rwords_no d hm w).mono fun r w' ⟨h1, h2⟩ => ⟨_, h1, Rd.nil _, h2⟩⟩
  | true =>
    exact ⟨d.words, 0, fun w => (words_ok d hm w).mono fun r w' ⟨g, _, h1, h2, h3⟩ => ⟨_, h1, rd_heap h2 (by simp [nums, Ds.D.words, maxLen]), h3⟩,
      fun w => (rwords_ok d hm w).mono fun r w' ⟨g, _, h1, h2, h3⟩ => ⟨_, h1, rd_heap h2 (by simp [nums, Ds.D.words, maxLen]), h3⟩⟩
theorem of_both (xs : List Int) (hx : ∀ x ∈ xs, 0 ≤ x ∧ x < 4294967296) : ∃ (D : Ds.D) (g : Int), (∀ w v, Rd w v (nums .u32 xs) → Calls Try.prog 12 #[v] w fun r w' => r = .returned (.tuple #[.agg D.cells.toArray, .int .i64 g]) ∧ Below w.heap.size w w') ∧
    (∀ w v, Rd w v (nums .u32 xs) → Calls Try.prog 13 #[v] w fun r w' => r = .returned (.tuple #[.agg D.cells.toArray, .int .i64 g]) ∧ Below w.heap.size w w') := by
  by_cases hl : xs.length = 4
  · obtain ⟨x0, x1, x2, x3, rfl⟩ : ∃ a b c d, xs = [a, b, c, d] := by
      match xs, hl with
      | [a, b, c, d], _ => exact ⟨a, b, c, d, rfl⟩
    have h0 := hx x0 (by simp)
    have h2 := hx x2 (by simp)
    by_cases hc : x2 ≤ 65535
    · by_cases hf : x0.toNat / 65536 % 2048 = 0
      · exact ⟨_, 0, fun w v h => of_ok x0 x1 x2 x3 v h0 h2.1 w h hc hf, fun w v h => rof_ok x0 x1 x2 x3 v h0 h2.1 w h hc hf⟩
      · exact ⟨_, 5, fun w v h => of_field x0 x1 x2 x3 v h0 w h hc hf, fun w v h => rof_no _ v hx (.inr (by simp [Ds.ofOk]; omega)) w h⟩
    · exact ⟨_, 5, fun w v h => of_big x0 x1 x2 x3 v h0 w h (by omega), fun w v h => rof_no _ v hx (.inr (by simp [Ds.ofOk]; omega)) w h⟩
  · exact ⟨_, 5, fun w v h => of_len xs v hl w h, fun w v h => rof_no xs v hx (.inl hl) w h⟩
set_option maxHeartbeats 2000000 in
theorem descWords_walk (d : Ds.D) (v : Value) (xs : List Int) (w : World) (x0 : (Lit.int .i64 d.len).wf = true ∧ (Lit.int .u32 d.at_).wf = true ∧ (Lit.int .i64 d.size).wf = true ∧ (Lit.int .u32 d.stamp).wf = true)
    (r1 : Rd w v (nums .u32 xs)) (x1 : ∀ n ∈ xs, (Lit.int .u32 n).wf = true) (l1 : xs.length * 4 ≤ 140737488351232) :
    Calls Try.prog 4 #[.agg d.cells.toArray, v] w fun e w' => e = .returned (.bool true) ∧ Below w.heap.size w w' := by
  obtain ⟨ws, ec, W1, W2⟩ := words_both d
  obtain ⟨D, g, O1, O2⟩ := of_both xs (fun x hx => wf_u32 (x1 x hx))
  have HR := Lib.hid r1
  clear x0 x1 l1 r1
  obtain ⟨own, wrap, first, last, bad, len, at_, size, stamp⟩ := d
  obtain ⟨down, dwrap, dfirst, dlast, dbad, dlen, dat_, dsize, dstamp⟩ := D
  simp only [Ds.D.cells] at *
  have HW1 := Lib.hid W1; have HW2 := Lib.hid W2; have HO1 := Lib.hid O1; have HO2 := Lib.hid O2
  clear W1 W2 O1 O2
  go_enter Try.func4, Try.ntmps4
  go_wp2_with (go_at_call 9; refine (dshown_ok _).mono ?_; rintro e w1 ⟨rfl, hb⟩; have HA := Lib.hid ((DescAt.new w ⟨own, wrap, first, last, bad, len, at_, size, stamp⟩).below hb); obtain ⟨c0, c1, c2, c3, c4, c5, c6, c7, c8⟩ := desc_cells HA.out)
  refine (HW1.out _).mono ?_
  rintro e w2 ⟨v1, rfl, hR1, hb2⟩
  clear c0 c1 c2 c3 c4 c5 c6 c7 c8
  replace HA := Lib.hid (HA.out.below hb2)
  obtain ⟨c0, c1, c2, c3, c4, c5, c6, c7, c8⟩ := desc_cells HA.out
  have HB := Lib.hid (((Below.refl _ w).alloc (Nat.le_refl _) _).trans ((below_next hb hb.size hb2).mono (by simp)))
  have HR1 := Lib.hid hR1
  clear hb hb2 hR1
  go_wp2_with fail
  refine (HW2.out _).mono ?_
  rintro e w3 ⟨v2, rfl, hR2, hb3⟩
  replace HR1 := Lib.hid (HR1.out.below hb3)
  have HR2 := Lib.hid hR2
  replace HB := Lib.hid (below_next HB.out HB.out.size hb3)
  clear hb3 hR2 c0 c1 c2 c3 c4 c5 c6 c7 c8
  go_wp2_with fail
  refine (HO1.out _ _ (HR.out.below HB.out)).mono ?_
  rintro e w4 ⟨rfl, hb4⟩
  replace HR1 := Lib.hid (HR1.out.below hb4)
  replace HR2 := Lib.hid (HR2.out.below hb4)
  replace HB := Lib.hid (below_next HB.out HB.out.size hb4)
  clear hb4
  go_wp2_with fail
  have hb0 := (Below.refl w4.heap.size w4).alloc (Nat.le_refl _) (.cells #[.bool down, .bool dwrap, .bool dfirst, .bool dlast, .bool dbad, .int .i64 dlen, .int .u32 dat_, .int .i64 dsize, .int .u32 dstamp] 24)
  refine (HO2.out _ _ ((HR.out.below HB.out).below hb0)).mono ?_
  rintro e w5 ⟨rfl, hb5⟩
  have hb50 : Below w4.heap.size w4 w5 := hb0.trans (hb5.mono (by simp))
  have hb6 := (Below.refl w5.heap.size w5).alloc (Nat.le_refl _) (.cells #[.bool down, .bool dwrap, .bool dfirst, .bool dlast, .bool dbad, .int .i64 dlen, .int .u32 dat_, .int .i64 dsize, .int .u32 dstamp] 24)
  have HD4 := Lib.hid (((DescAt.new w4 ⟨down, dwrap, dfirst, dlast, dbad, dlen, dat_, dsize, dstamp⟩).below hb5).below hb6)
  have HD5 := Lib.hid (DescAt.new w5 ⟨down, dwrap, dfirst, dlast, dbad, dlen, dat_, dsize, dstamp⟩)
  replace HR1 := Lib.hid ((HR1.out.below hb50).below hb6)
  replace HR2 := Lib.hid ((HR2.out.below hb50).below hb6)
  replace HB := Lib.hid ((below_next HB.out HB.out.size hb50).alloc (below_next HB.out HB.out.size hb50).size (.cells #[.bool down, .bool dwrap, .bool dfirst, .bool dlast, .bool dbad, .int .i64 dlen, .int .u32 dat_, .int .i64 dsize, .int .u32 dstamp] 24))
  have hs := same_ok _ _ _ _ _ HR1.out HR2.out
  rw [decide_eq_true (rfl : ws = ws)] at hs
  have HS := Lib.hid hs
  clear hs hb5 hb50 hb6 hb0
  go_wp2_with (go_at_call 14; refine HS.out.mono ?_; rintro e w7 ⟨rfl, hb7⟩; obtain ⟨c0, c1, c2, c3, c4, c5, c6, c7, c8⟩ := desc_cells (HD4.out.below hb7); obtain ⟨e0, e1, e2, e3, e4, e5, e6, e7, e8⟩ := desc_cells (HD5.out.below hb7))
  go_ret
  exact ⟨rfl, below_next HB.out HB.out.size hb7⟩
end Go.Proofs.Ytkegljcndhckeab
