import Derived.Test.YtkegljcndhckeabD2
namespace Go.Proofs.Ytkegljcndhckeab
open Go.RowKit
set_option linter.unusedVariables false
theorem row4 {w : World} {g : Nat} {x0 x1 x2 x3 : Int} {t : TypeId} {fr : Nat × Nat} (h : w.heap[g]? = some (.cells (nums .u32 [x0, x1, x2, x3]).toArray t fr)) :
    w.cell? ⟨g, 0, none⟩ = some (.int .u32 x0) ∧ w.cell? ⟨g, 1, none⟩ = some (.int .u32 x1) ∧ w.cell? ⟨g, 2, none⟩ = some (.int .u32 x2) ∧ w.cell? ⟨g, 3, none⟩ = some (.int .u32 x3) :=
  ⟨(cell_heap h 0).trans rfl, (cell_heap h 1).trans rfl, (cell_heap h 2).trans rfl, (cell_heap h 3).trans rfl⟩
theorem keep_row {w2 w3 : World} {B i : Nat} {u : Value} (hb3 : Below (w2.setCell ⟨B, i, none⟩ u).heap.size (w2.setCell ⟨B, i, none⟩ u) w3) {g : Nat} {o : Obj} (h : w2.heap[g]? = some o) (hne : g ≠ B) : w3.heap[g]? = some o := by
  have hlt : g < w2.heap.size := (Array.getElem?_eq_some_iff.1 h).1
  rw [hb3.block g (by simpa using hlt), Below.heap_setCell w2 ⟨B, i, none⟩ u g hne]
  exact h
theorem flip_may (d : Ds.D) (j : Nat) : (d.flip j).may = d.may := by unfold Ds.D.flip; split <;> rfl
theorem below_set {w w' : World} (h : Below w.heap.size w w') (b i : Nat) (hb : w.heap.size ≤ b) (u : Value) : Below w.heap.size w (w'.setCell ⟨b, i, none⟩ u) :=
  ⟨h.os, h.tape, h.output, by simpa using h.size, fun k hk => (Below.heap_setCell w' ⟨b, i, none⟩ u k (by show k ≠ b; omega)).trans (h.block k hk)⟩
set_option maxHeartbeats 1000000 in
theorem descFlags_no (d : Ds.D) (n : Int) (w : World) (h1 : 0 ≤ n) (h2 : n < 256) (hm : d.may = false) :
    Calls Try.prog 3 #[.agg d.cells.toArray, .int .u8 n] w fun e w' => e = .returned (.bool true) ∧ Below w.heap.size w w' := by
  have hr1 : 0 ≤ n % 5 := Int.emod_nonneg _ (by omega)
  have hr2 : n % 5 < 5 := Int.emod_lt_of_pos _ (by omega)
  obtain ⟨j, hj⟩ := Int.eq_ofNat_of_zero_le hr1
  have hd := words_no d hm
  have hd2 := words_no (d.flip j) ((flip_may d j).trans hm)
  clear hm
  obtain ⟨own, wrap, first, last, bad, len, at_, size, stamp⟩ := d
  rcases (show j = 0 ∨ j = 1 ∨ j = 2 ∨ j = 3 ∨ j = 4 by omega) with rfl | rfl | rfl | rfl | rfl
  all_goals (
    simp only [Ds.D.flip, Ds.D.cells] at *
    have HD := Lib.hid hd
    have HD2 := Lib.hid hd2
    clear hd hd2
    go_enter Try.func3, Try.ntmps3
    go_wp2_with (go_at_call 9; refine (dshown_ok _).mono ?_; rintro e w1 ⟨rfl, hb⟩; have HA := Lib.hid ((DescAt.new w ⟨own, wrap, first, last, bad, len, at_, size, stamp⟩).below hb); obtain ⟨c0, c1, c2, c3, c4, c5, c6, c7, c8⟩ := desc_cells HA.out)
    refine (HD.out _).mono ?_
    rintro e w2 ⟨rfl, hb2⟩
    clear c0 c1 c2 c3 c4 c5 c6 c7 c8
    replace HA := Lib.hid (HA.out.below hb2)
    obtain ⟨c0, c1, c2, c3, c4, c5, c6, c7, c8⟩ := desc_cells HA.out
    have f0 := desc_frees HA.out
    have HB := Lib.hid (((Below.refl _ w).alloc (Nat.le_refl _) _).trans ((below_next hb hb.size hb2).mono (by simp)))
    clear hb hb2
    go_wp2_with fail
    refine (HD2.out _).mono ?_
    rintro e w3 ⟨rfl, hb3⟩
    go_wp2
    go_ret
    exact ⟨rfl, below_next (below_set HB.out _ _ (Nat.le_refl _) _) (by simpa using HB.out.size) hb3⟩)
set_option maxHeartbeats 2000000 in
theorem descFlags_yes (d : Ds.D) (n : Int) (w : World) (h1 : 0 ≤ n) (h2 : n < 256) (hm : d.may = true) :
    Calls Try.prog 3 #[.agg d.cells.toArray, .int .u8 n] w fun e w' => e = .returned (.bool true) ∧ Below w.heap.size w w' := by
  have hr1 : 0 ≤ n % 5 := Int.emod_nonneg _ (by omega)
  have hr2 : n % 5 < 5 := Int.emod_lt_of_pos _ (by omega)
  obtain ⟨j, hj⟩ := Int.eq_ofNat_of_zero_le hr1
  have hd := words_ok d hm
  have hd2 := words_ok (d.flip j) ((flip_may d j).trans hm)
  have hl : d.len.toNat < 65536 := by simp [Ds.D.may] at hm; omega
  have hx := Ds.flip_xor d j (by omega) hl
  have hl1 := Ds.acc_lt d 5 (by omega) hl
  have hl2 := Ds.acc_lt (d.flip j) 5 (by omega) (by rw [show (d.flip j).len = d.len by unfold Ds.D.flip; split <;> rfl]; exact hl)
  have e1 : d.words = [(d.word : Int), d.at_, d.size, d.stamp] := rfl
  have e2 : (d.flip j).words = [((d.flip j).word : Int), d.at_, d.size, d.stamp] := by unfold Ds.D.flip; split <;> rfl
  have hxb := u32_xor_nat d.word (d.flip j).word hl1 hl2
  rw [hx] at hxb
  rw [e1] at hd
  rw [e2] at hd2
  obtain ⟨W1, hW1⟩ : ∃ W1, (d.word : Int) = W1 := ⟨_, rfl⟩
  obtain ⟨W2, hW2⟩ : ∃ W2, ((d.flip j).word : Int) = W2 := ⟨_, rfl⟩
  rw [hW1] at hxb hd
  rw [hW2] at hxb hd2
  clear hm e1 e2 hx hl1 hl2 hl hW1 hW2
  obtain ⟨own, wrap, first, last, bad, len, at_, size, stamp⟩ := d
  rcases (show (j = 0 ∧ n % 5 = 0) ∨ (j = 1 ∧ n % 5 = 1) ∨ (j = 2 ∧ n % 5 = 2) ∨ (j = 3 ∧ n % 5 = 3) ∨ (j = 4 ∧ n % 5 = 4) by omega) with ⟨rfl, hn⟩ | ⟨rfl, hn⟩ | ⟨rfl, hn⟩ | ⟨rfl, hn⟩ | ⟨rfl, hn⟩
  all_goals clear hj
  all_goals (
    simp only [Ds.D.flip, Ds.D.cells] at *
    have HD := Lib.hid hd
    have HD2 := Lib.hid hd2
    clear hd hd2
    simp at hxb
    go_enter Try.func3, Try.ntmps3
    go_wp2_with (go_at_call 9; refine (dshown_ok _).mono ?_; rintro e w1 ⟨rfl, hb⟩; have HA := Lib.hid ((DescAt.new w ⟨own, wrap, first, last, bad, len, at_, size, stamp⟩).below hb); obtain ⟨c0, c1, c2, c3, c4, c5, c6, c7, c8⟩ := desc_cells HA.out)
    refine (HD.out _).mono ?_
    rintro e w2 ⟨g1, hO1, rfl, hR1, hb2⟩
    clear c0 c1 c2 c3 c4 c5 c6 c7 c8
    replace HA := Lib.hid (HA.out.below hb2)
    obtain ⟨c0, c1, c2, c3, c4, c5, c6, c7, c8⟩ := desc_cells HA.out
    have f0 := desc_frees HA.out
    have HB := Lib.hid (((Below.refl _ w).alloc (Nat.le_refl _) _).trans ((below_next hb hb.size hb2).mono (by simp)))
    have hsz : w.heap.size < w1.heap.size := by have := hb.size; simp at this; omega
    have HO1 := Lib.hid hO1
    have HR1 := Lib.hid hR1
    clear hb hb2 hR1 hO1
    go_wp2_with fail
    refine (HD2.out _).mono ?_
    rintro e w3 ⟨g2, hO2, rfl, hR2, hb3⟩
    obtain ⟨q0, q1, q2, q3⟩ := row4 hR2
    obtain ⟨p0, p1, p2, p3⟩ := row4 (keep_row hb3 HR1.out (by have := HO1.out; omega))
    have HB3 := Lib.hid (below_next (below_set HB.out _ _ (Nat.le_refl _) _) (by simpa using HB.out.size) hb3)
    clear hb3 hR2 hO2
    go_wp2
    go_quiet (rw [hn])
    go_wp2
    go_ret
    exact ⟨rfl, below_drewN HB3.out _⟩)
theorem descFlags_walk (d : Ds.D) (n : Int) (w : World) (x0 : (Lit.int .i64 d.len).wf = true ∧ (Lit.int .u32 d.at_).wf = true ∧ (Lit.int .i64 d.size).wf = true ∧ (Lit.int .u32 d.stamp).wf = true) (x1 : (Lit.int .u8 n).wf = true) :
    Calls Try.prog 3 #[.agg d.cells.toArray, .int .u8 n] w fun e w' => e = .returned (.bool true) ∧ Below w.heap.size w w' := by
  obtain ⟨h1, h2⟩ := wf_u8 x1
  cases hm : d.may with
  | false => exact descFlags_no d n w h1 h2 hm
  | true => exact descFlags_yes d n w h1 h2 hm
end Go.Proofs.Ytkegljcndhckeab
