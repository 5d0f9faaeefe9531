import Derived.Test.YtkegljcndhckeadRM
namespace Go.Proofs.Ytkegljcndhckead
open Go.RowKit
set_option linter.unusedVariables false
theorem info_acc : (Try.prog.info? 43).map (fun i => (i.zero, i.size, i.bytes)) = some (some (.agg #[.int .i64 0, .bool false, .int .u32 0, .int .u32 0, .int .i64 0]), 5, 32) := by kernel_rfl
/-- The built-in append as a step of a region that draws its order: its run is known. -/
theorem step_app {P : Program} {o : Oper} {ops : Array Oper} {a : Act} {w w1 : World} {K : Act → World → Prop} {Q : Exit → Act → World → Prop} {E : Prop} {v' : Value} (hgd : o.guard = none) (s x : Operand) (t : TypeId)
    (hop : o.op = .call { callee := .builtin .append, args := #[s, x], argTypes := #[t, t] }) (v u : Value) (hs : a.eval s = v) (hx : a.eval x = u)
    (hrun : (Builtin.append_ #[t, t] o.type #[v, u]).run P w = .ok v' w1) (h : K (a.put o.dst v') w1) :
    if Region.wanted o (yielded ops a.tmps) = true then Oper.wp P o a w K Q else E := by
  have hw : Region.wanted o (yielded ops a.tmps) = true := by simp [Region.wanted, hgd]
  rw [if_pos hw]
  unfold Oper.wp execOp
  simp only [hop, resolve, invoke, builtin, Sem.run_bind, Sem.run_pure, Result.andThen_ok, List.map_toArray, List.map_cons, List.map_nil, hs, hx, hrun]
  exact h
theorem note_nil (x : Rm.Acc) (w : World) : Calls Try.prog 46 #[.pointer none, .agg x.cells.toArray] w fun e w' => e = .returned (.int .i64 x.err) ∧ Below w.heap.size w w' := by
  obtain ⟨who, wr, at_, val, err⟩ := x
  simp only [Rm.Acc.cells]
  go_enter Try.func46, Try.ntmps46
  go_wp2
  go_ret
  exact ⟨rfl, (Below.refl _ w).alloc (Nat.le_refl _) _⟩
theorem note_quiet (p : Nat) (F : List Nat) (R : Rm.Ram) (x : Rm.Acc) (w : World) (h : RamAt w p F R) (hk : R.keep = false) :
    Calls Try.prog 46 #[.pointer (some ⟨p, 0, none⟩), .agg x.cells.toArray] w fun e w' => e = .returned (.int .i64 x.err) ∧ Below w.heap.size w w' := by
  obtain ⟨who, wr, at_, val, err⟩ := x
  obtain ⟨pw, lv, h1, -⟩ := h
  have hc := cell_heap h1 2
  rw [hk] at hc
  simp at hc
  have hlt := lt_of_heap h1
  simp only [Rm.Acc.cells]
  clear h1 hk
  go_enter Try.func46, Try.ntmps46
  go_wp2
  go_ret
  exact ⟨rfl, (Below.refl _ w).alloc (Nat.le_refl _) _⟩
theorem note_logs (p : Nat) (F : List Nat) (R : Rm.Ram) (x : Rm.Acc) (w : World) (h : RamAt w p F R) (hk : R.keep = true) (hl : R.log.length < 1000000000) :
    Calls Try.prog 46 #[.pointer (some ⟨p, 0, none⟩), .agg x.cells.toArray] w fun e w' => e = .returned (.int .i64 x.err) ∧ ∃ F', RamAt w' p F' { R with log := R.log ++ [x] } ∧ Mv F F' w w' := by
  obtain ⟨pw, lv, h1, h2, h3, hF, h5, h6⟩ := h
  obtain ⟨i0, hi, hz0, hz1, hz2⟩ := info_parts info_acc
  rw [hk] at h1
  have hc2 := (cell_heap h1 2)
  have hc1 := (cell_heap h1 1)
  simp at hc2 hc1
  have hplt := lt_of_heap h1
  obtain ⟨A, c, rfl⟩ := own_form h3
  have hown := ((h3.alloc (.cells x.cells.toArray 43)).alloc (.cells x.cells.toArray 43)).drew
  have hnew : ∀ j u, x.cells[j]? = some u → (((w.alloc (.cells x.cells.toArray 43)).alloc (.cells x.cells.toArray 43)).drew).cell? ((⟨w.heap.size + 1, 0, none⟩ : Addr).add j) = some u := by
    intro j u hu
    have := World.news_of_block (w := (w.alloc (.cells x.cells.toArray 43)).alloc (.cells x.cells.toArray 43)) (cs := x.cells.toArray) (t := 43) (fr := (0, 0)) (B := w.heap.size + 1) (by have := heap_alloc_new (w.alloc (.cells x.cells.toArray 43)) (.cells x.cells.toArray 43); rwa [World.size_alloc] at this) j u (by simpa using hu)
    exact this
  obtain ⟨v', w1, hrun, hown', hgrow, -, hat⟩ := run_append_own_at (P := Try.prog) _ 0 40 40 43 i0 _ 5 32 Try.underlying40 hi hz0 hz1 hz2 rfl (by decide) _ _ _ hown ⟨w.heap.size + 1, 0, none⟩ 1 1 x.cells (by simp [Rm.Acc.cells]) hnew (by intro u hu; simp [Rm.Acc.cells] at hu; rcases hu with rfl | rfl | rfl | rfl | rfl <;> rfl) (by simp only [maxLen]; omega) (by omega) (by omega)
  obtain ⟨g', cap', rfl, hg0, hglt⟩ := hown'.form (by omega)
  have e1 : accs (R.log ++ [x]) = accs R.log ++ x.cells := by simp [accs]
  have hp1 : some p ≠ (Value.slice A R.log.length c).ownBlock := fun e => by
    rcases h3.2 with ⟨hv, _⟩ | ⟨g, cap, cur, hv, _, hh, _⟩
    · injection hv with ha; subst ha; cases e
    · injection hv with ha; subst ha
      simp [Value.ownBlock] at e
      subst e
      rw [hh] at h1; simp at h1
  have hpw1 : some pw ≠ (Value.slice A R.log.length c).ownBlock := fun e => by
    rcases h3.2 with ⟨hv, _⟩ | ⟨g, cap, cur, hv, _, hh, _⟩
    · injection hv with ha; subst ha; cases e
    · injection hv with ha; subst ha
      simp [Value.ownBlock] at e
      subst e
      rw [hh] at h2; simp at h2
  have hpwlt := lt_of_heap h2
  have hpp : pw ≠ p := fun e => by subst e; rw [h1] at h2; simp at h2
  have w1p : w1.heap[p]? = some (.cells #[.slice (some ⟨pw, 0, none⟩) R.ws.length R.ws.length, .slice A R.log.length c, .bool true] 85 (0, 0)) :=
    (hgrow.block p (by simp; omega) hp1).trans ((Below.heap_alloc _ _ p (by simp; omega)).trans ((Below.heap_alloc _ _ p hplt).trans h1))
  have w1pw : w1.heap[pw]? = some (.cells (nums .u32 R.ws).toArray 22 (0, 0)) :=
    (hgrow.block pw (by simp; omega) hpw1).trans ((Below.heap_alloc _ _ pw (by simp; omega)).trans ((Below.heap_alloc _ _ pw hpwlt).trans h2))
  have hgp : some g' ≠ some p := fun e => by
    injection e with e
    rcases hown'.2 with ⟨hv, _⟩ | ⟨g, cap, cur, hv, _, hh, _⟩
    · cases hv
    · injection hv with ha; injection ha with ha; injection ha with ha
      subst ha; subst e
      rw [w1p] at hh; simp at hh
  have hfin : RamAt (w1.setCell ⟨p, 1, none⟩ (.slice (some ⟨g', 0, none⟩) (R.log.length + 1) cap')) p (p :: pw :: [g']) { R with log := R.log ++ [x] } := by
    refine ⟨pw, .slice (some ⟨g', 0, none⟩) (R.log.length + 1) cap', ?_, ?_, ?_, rfl, h5, h6⟩
    · rw [set_heap w1p]; simp [hk]
    · rw [far_heap hpp]; exact w1pw
    · rw [e1]
      have := hown'.kept (row := some p) (w' := w1.setCell ⟨p, 1, none⟩ (.slice (some ⟨g', 0, none⟩) (R.log.length + 1) cap')) ⟨rfl, rfl, rfl, by simp, fun k _ hne => far_heap (fun e => hne (by rw [e])) _ _⟩ (.inr hgp)
      simpa using this
  have hmv : Mv F (p :: pw :: [g']) w (w1.setCell ⟨p, 1, none⟩ (.slice (some ⟨g', 0, none⟩) (R.log.length + 1) cap')) := by
    refine ⟨hgrow.os, hgrow.tape, hgrow.output, ?_, ?_, ?_⟩
    · have := hgrow.size; simp at this ⊢; omega
    · intro k hk hn
      rw [hF] at hn
      simp at hn
      rw [far_heap hn.1]
      refine (hgrow.block k (by simp; omega) ?_).trans ((Below.heap_alloc _ _ k (by simp; omega)).trans (Below.heap_alloc _ _ k hk))
      intro e
      exact hn.2.2 e.symm
    · intro b hb
      rw [hF]
      simp at hb
      rcases hb with rfl | rfl | rfl
      · exact .inl (by simp)
      · exact .inl (by simp)
      · rcases hat with hat | hat
        · left; simp; right; right; exact hat.symm
        · right
          simp [Value.ownBlock] at hat
          omega
  have hlt3 : (Value.slice A R.log.length c).ownBlock ≠ some w.heap.size := fun e => by have := (h3.lt _ e).2; omega
  have w1b : w1.heap[w.heap.size]? = some (.cells x.cells.toArray 43 (0, 0)) :=
    (hgrow.block w.heap.size (by simp; omega) (fun e => hlt3 e.symm)).trans ((Below.heap_alloc _ _ w.heap.size (by simp)).trans (heap_alloc_new w _))
  have hb4 : (w1.setCell ⟨p, 1, none⟩ (.slice (some ⟨g', 0, none⟩) (R.log.length + 1) cap')).cell? ⟨w.heap.size, 4, none⟩ = some (.int .i64 x.err) := by
    rw [World.cell?_of_block (a := ⟨w.heap.size, 4, none⟩) (far_heap (show w.heap.size ≠ p by omega) _ _), cell_heap w1b]
    rfl
  have hc1' := cell_heap w1p 1
  have hf1' := free_heap w1p 1
  simp at hc1'
  obtain ⟨who, wr, at_, val, err⟩ := x
  simp only [Rm.Acc.cells] at *
  have HR := Lib.hid hrun
  have HF := Lib.hid hfin
  have HM := Lib.hid hmv
  clear hrun hown' hown hnew h1 h2 h3 hgrow hat w1p w1pw w1b hlt3 hfin hmv hp1 hpw1 e1 hF hgp hk
  go_enter Try.func46, Try.ntmps46
  go_wp2
  go_region_law (refine step_app rfl _ _ 40 rfl _ _ (by rfl) (by rfl) HR.out ?_)
  all_goals go_wp2
  all_goals go_ret
  all_goals exact ⟨rfl, _, HF.out, HM.out⟩
theorem note_ok (p : Nat) (F : List Nat) (R : Rm.Ram) (x : Rm.Acc) (w : World) (h : RamAt w p F R) (hl : R.log.length < 1000000000) :
    Calls Try.prog 46 #[.pointer (some ⟨p, 0, none⟩), .agg x.cells.toArray] w fun e w' => e = .returned (.int .i64 x.err) ∧ ∃ F', RamAt w' p F' (Rm.note R x) ∧ Mv F F' w w' := by
  cases hk : R.keep with
  | true =>
    have := note_logs p F R x w h hk hl
    have e : Rm.note R x = { R with log := R.log ++ [x] } := by simp [Rm.note, hk]
    rw [e]
    exact this
  | false =>
    refine (note_quiet p F R x w h hk).mono fun e w' ⟨he, hb⟩ => ⟨he, F, ?_, Mv.of_below hb⟩
    have e : Rm.note R x = R := by simp [Rm.note, hk]
    rw [e]
    exact h.below hb
theorem info_u32 : (Try.prog.info? 22).map (fun i => (i.zero, i.size, i.bytes)) = some (some (.int .u32 0), 1, 4) := by kernel_rfl
theorem rnew_no (n : Int) (h : n < 1 ∨ 16384 < n) (w : World) : Calls Try.prog 17 #[.int .i64 n] w fun e w' => e = .returned (.tuple #[.pointer none, .int .i64 1]) ∧ w = w' := by
  by_cases hc : n < 1
  · clear h
    go_enter Try.func17, Try.ntmps17
    go_wp2
    go_ret2
    exact ⟨rfl, rfl⟩
  · have h2 : 16384 < n := by omega
    clear h
    go_enter Try.func17, Try.ntmps17
    go_wp2
    go_ret2
    exact ⟨rfl, rfl⟩
theorem rnew_ok (n : Int) (h : 1 ≤ n ∧ n ≤ 16384) (w : World) :
    Calls Try.prog 17 #[.int .i64 n] w fun e w' => e = .returned (.tuple #[.pointer (some ⟨w.heap.size + 1, 0, none⟩), .int .i64 0]) ∧ RamAt w' (w.heap.size + 1) [w.heap.size + 1, w.heap.size] (Rm.blank n.toNat) ∧ Below w.heap.size w w' := by
  obtain ⟨m, rfl⟩ := Int.eq_ofNat_of_zero_le (show 0 ≤ n by omega)
  have h1 : (1 : Int) ≤ m := h.1
  have h2 : (m : Int) ≤ 16384 := h.2
  clear h
  have hmk := run_make_row' (P := Try.prog) 33 22 (.int .u32 0) 4 Try.underlying33 info_u32 rfl .i64 .i64 m (by omega) (by omega)
  go_enter Try.func17, Try.ntmps17
  go_wp2
  go_ret2
  refine ⟨rfl, ?_, ((Below.refl _ w).alloc (Nat.le_refl _) _).alloc (by simp) _⟩
  have e1 : (madeCells #[Value.int .u32 0] m) = (nums .u32 (List.replicate m 0)).toArray := by
    apply Array.ext'
    rw [toList_madeCells_one]
    simp [nums]
  rw [e1]
  refine ⟨w.heap.size, .slice none 0 0, ?_, ?_, World.ownsRow_nil _ _ _ _, rfl, ?_, Rm.Fit.blank _⟩
  · have := heap_alloc_new (w.alloc (.cells (nums .u32 (List.replicate m 0)).toArray 22)) (.cells #[.slice (some ⟨w.heap.size, 0, none⟩) m m, .slice none 0 0, .bool false] 85)
    rw [World.size_alloc] at this
    rw [this]
    simp [Rm.blank]
  · rw [Below.heap_alloc _ _ _ (by simp), heap_alloc_new]
    simp [Rm.blank]
  · simp [Rm.blank]; omega
/-! ### Read, Write: at no memory; at one -/
theorem read_nil (who a : Int) (ha : 0 ≤ a ∧ a < 4294967296) (w : World) :
    Calls Try.prog 56 #[.pointer none, .int .i64 who, .int .u32 a] w fun e w' => e = .returned (.tuple #[.int .u32 0, .int .i64 7]) ∧ Below w.heap.size w w' := by
  have HA := Lib.hid ha; clear ha
  have hn := note_nil ⟨who, false, a, 0, 7⟩ (w.alloc (.cells #[.int .i64 who, .bool false, .int .u32 a, .int .u32 0, .int .i64 7] 43)).drew
  simp only [Rm.Acc.cells] at hn
  have HN := Lib.hid hn; clear hn
  go_enter Try.func56, Try.ntmps56
  go_wp2_with (go_at_call 45; refine (place_nil _ HA.out _).mono ?_; rintro e w' ⟨rfl, rfl⟩)
  go_region_with (go_at_call 46; refine HN.out.mono ?_; rintro e w2 ⟨rfl, hb⟩; have hc2 := (hb.cell (p := ⟨w.heap.size, 3, none⟩) (by simp)).trans (show _ = some (Value.int .u32 0) from World.cell?_alloc_new w _ _ 3))
  all_goals go_wp2
  all_goals go_ret2
  all_goals exact ⟨rfl, (((Below.refl _ w).alloc (Nat.le_refl _) _).drew).trans (hb.mono (by simp))⟩
end Go.Proofs.Ytkegljcndhckead
