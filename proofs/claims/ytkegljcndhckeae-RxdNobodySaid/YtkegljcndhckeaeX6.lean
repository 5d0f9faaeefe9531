import Derived.Test.YtkegljcndhckeaeX5
namespace Go.Proofs.Ytkegljcndhckeae
open Go.RowKit
set_option linter.unusedVariables false
def rowE (p : Nat) (e : Rx.E) (st : Int) : Array Value := (ecells p { Rx.new e.base with state := st } (.slice none 0 0)).toArray
theorem rowE_one (p : Nat) (e : Rx.E) (st : Int) : ((rowE p e st).all fun x => x.oneCell') = true := by
  unfold rowE ecells
  simp [Value.oneCell']
theorem SysF.reset {w : World} {p q : Nat} {F : List Nat} {fv : Value} {e : Rx.E} {R : Rm.Ram} (h : SysF w p q F fv e R) (st : Int) : SysF (w.setRow q (rowE p e st)) p q F (.slice none 0 0) { Rx.new e.base with state := st } R :=
  ⟨h.ram.keep_of fun b hb => setRow_other w q b _ (fun e => h.qF (by rw [← e]; exact hb)), setRow_heap w q _ (rowE p e st) _ _ h.raw, World.ownsRow_nil _ _ _ _, h.qF, fun b hb => by simp [Value.ownBlock] at hb, fun _ => rfl⟩
theorem Mv.reset {F F' : List Nat} {a w : World} {q : Nat} (h : Mv F F' a w) (hq : q ∈ F) (cs : Array Value) : Mv F F' a (w.setRow q cs) :=
  ⟨h.os, h.tape, h.output, by simpa [World.setRow] using h.size, fun k hk hn => (setRow_other w q k cs (fun e => hn (by rw [e]; exact hq))).trans (h.block k hk hn), h.new⟩
set_option maxRecDepth 100000 in
set_option maxHeartbeats 1000000 in
theorem xstart_ok (p q : Nat) (F : List Nat) (fv : Value) (e : Rx.E) (R : Rm.Ram) (w : World) (h : SysF w p q F fv e R) :
    Calls Try.prog 10 #[.pointer (some ⟨q, 0, none⟩)] w fun r w' => r = .returned (.tuple #[]) ∧ Goes p q F fv w (Rx.start e) R w' := by
  have HS := Lib.hid h.drew
  have HM := Lib.hid (Mv.refl (blks q F fv) w).drew
  clear h
  go_enter Try.func10, Try.ntmps10
  go_wp2
  refine wp_region_still_tail 15 (by kernel_rfl) (by kernel_rfl) ?_
  simp only [List.take_succ_cons, List.take_zero, List.drop_succ_cons, List.drop_zero]
  change wpStill _ _ w.drew _ _ _
  generalize hW : w.drew = W at HS HM
  obtain ⟨c0, c1, -⟩ := eng_cells HS.out
  have HWW := Lib.hid hW
  clear hW
  iterate 15 still_step
  refine wpStill_nil ?_
  change wpList _ _ _ _ _ w.drew
  rw [HWW.out]
  refine wpList_store_row rfl 82 _ _ rfl q (rowE p e 1) rfl rfl _ _ HS.out.raw (by kernel_rfl) rfl (rowE_one p e _) ?_
  have HG := Lib.hid (show Goes p q F fv w (Rx.start e) R (W.setRow q (rowE p e 1)) from ⟨F, _, HS.out.reset 1, (HM.out.reset (q_in q F fv) (rowE p e 1)).dropped⟩)
  generalize W.setRow q (rowE p e 1) = W2 at HG ⊢
  go_wp2
  go_end0
  exact ⟨rfl, HG.out⟩
set_option maxRecDepth 100000 in
set_option maxHeartbeats 1000000 in
theorem xstop_ok (p q : Nat) (F : List Nat) (fv : Value) (e : Rx.E) (R : Rm.Ram) (w : World) (h : SysF w p q F fv e R) :
    Calls Try.prog 11 #[.pointer (some ⟨q, 0, none⟩)] w fun r w' => r = .returned (.tuple #[]) ∧ Goes p q F fv w (Rx.stop e) R w' := by
  have HS := Lib.hid h.drew
  have HM := Lib.hid (Mv.refl (blks q F fv) w).drew
  clear h
  go_enter Try.func11, Try.ntmps11
  go_wp2
  refine wp_region_still_tail 15 (by kernel_rfl) (by kernel_rfl) ?_
  simp only [List.take_succ_cons, List.take_zero, List.drop_succ_cons, List.drop_zero]
  change wpStill _ _ w.drew _ _ _
  generalize hW : w.drew = W at HS HM
  obtain ⟨c0, c1, -⟩ := eng_cells HS.out
  have HWW := Lib.hid hW
  clear hW
  iterate 15 still_step
  refine wpStill_nil ?_
  change wpList _ _ _ _ _ w.drew
  rw [HWW.out]
  refine wpList_store_row rfl 82 _ _ rfl q (rowE p e 0) rfl rfl _ _ HS.out.raw (by kernel_rfl) rfl (rowE_one p e _) ?_
  have HG := Lib.hid (show Goes p q F fv w (Rx.stop e) R (W.setRow q (rowE p e 0)) from ⟨F, _, HS.out.reset 0, (HM.out.reset (q_in q F fv) (rowE p e 0)).dropped⟩)
  generalize W.setRow q (rowE p e 0) = W2 at HG ⊢
  go_wp2
  go_end0
  exact ⟨rfl, HG.out⟩
theorem info_u8x : (Try.prog.info? 5).map (fun i => (i.zero, i.size, i.bytes)) = some (some (.int .u8 0), 1, 1) := by kernel_rfl
/-- A new frame. -/
theorem SysF.given {W w' : World} {p q : Nat} {F : List Nat} {fv fv' : Value} {e : Rx.E} {R : Rm.Ram} {xs : List Int} {row : Option Nat} (h : SysF W p q F fv e R) (hown : w'.ownsRow 0 5 1 fv' xs.length (nums .u8 xs)) (hg : W.grownBy w' row) (hr : ∀ k, row = some k → k ∉ F ∧ k ≠ q)
    (hat : ∀ b, fv'.ownBlock = some b → b ∉ F ∧ b ≠ q) (hne : xs ≠ []) : SysF (w'.setCell ⟨q, 17, none⟩ fv') p q F fv' { e with frame := xs } R := by
  have hq : w'.heap[q]? = some (.cells (ecells p e fv).toArray 82 (0, 0)) := (hg.block q h.lt (fun e' => (hr q e'.symm).2 rfl)).trans h.raw
  refine ⟨(h.ram.grown hg (fun k hk => (hr k hk).1)).keep_of fun b hb => far_heap (fun e => h.qF (by rw [← e]; exact hb)) _ _, ?_, own_keep hown fun g hg' => far_heap (hat g hg').2 _ _, h.qF, fun b hb => (hat b hb).1, fun hn => absurd hn hne⟩
  rw [set_heap hq]; rfl
theorem Mv.given {w w1 : World} {q : Nat} {F : List Nat} {fv fv' : Value} (h : Below w.heap.size w w1) (hat : ∀ b, fv'.ownBlock = some b → w.heap.size ≤ b) : Mv (blks q F fv) (blks q F fv') w w1 :=
  ⟨h.os, h.tape, h.output, h.size, fun k hk _ => h.block k hk, fun b hb => by
    simp only [blks, List.mem_append, List.mem_cons, Option.mem_toList] at hb ⊢
    rcases hb with hb | hb | hb
    · exact .inl (.inl hb)
    · exact .inl (.inr (.inl hb))
    · exact .inr (hat b hb)⟩
theorem xput_no (p q : Nat) (F : List Nat) (fv : Value) (e : Rx.E) (R : Rm.Ram) (v : Value) (xs : List Int) (t : Int) (w : World) (h : SysF w p q F fv e R) (hr : Rd w v (nums .u8 xs)) (h0 : Rx.giveE e xs ≠ 0) :
    Calls Try.prog 15 #[.pointer (some ⟨q, 0, none⟩), v, .int .u32 t] w fun r w' => r = .returned (.int .i64 (Rx.giveE e xs)) ∧ w = w' := by
  have ST := Lib.hid (xstate_ok p q F fv e R w h)
  have FR := Lib.hid (xfree_ok p q F fv e R w h)
  obtain ⟨A, c, rfl, hc1, hc2, -⟩ := hr
  rw [nums_len] at hc1 ⊢
  unfold maxLen at hc2
  obtain ⟨n, hn⟩ : ∃ n, xs.length = n := ⟨_, rfl⟩
  have hg : Rx.giveE e xs = if e.state ≠ 1 then 8 else if n = 0 ∨ 1518 < n then 1 else if e.frame = [] then 0 else 3 := by rw [← hn]; rfl
  rw [hn] at hc1 ⊢
  by_cases k1 : e.state = 1
  · rw [if_neg (by omega)] at hg
    rw [k1] at ST
    by_cases k2 : n = 0 ∨ 1518 < n
    · rw [if_pos k2] at hg
      rw [hg]
      clear h hn hg h0 FR
      rcases k2 with rfl | k2
      · go_enter Try.func15, Try.ntmps15
        go_wp2_with fail
        refine ST.out.mono ?_
        rintro r w' ⟨rfl, rfl⟩
        go_wp2
        go_ret
        exact ⟨rfl, rfl⟩
      · have k3 : (1518 : Int) < n := by omega
        have k4 : ((n : Int) == 0) = false := by simp; omega
        go_enter Try.func15, Try.ntmps15
        go_wp2_with fail
        refine ST.out.mono ?_
        rintro r w' ⟨rfl, rfl⟩
        go_wp2
        go_ret
        exact ⟨rfl, rfl⟩
    · rw [if_neg k2] at hg
      have k5 : ¬ e.frame = [] := fun a => h0 (by rw [hg, if_pos a])
      rw [if_neg k5] at hg
      rw [hg]
      have hf : Rx.isFree e = false := by unfold Rx.isFree; simp [k5]
      rw [hf] at FR
      have k3 : (n : Int) ≤ 1518 := by omega
      have k4 : ((n : Int) == 0) = false := by simp; omega
      clear h hn hg h0 k2 k5 hf
      go_enter Try.func15, Try.ntmps15
      go_wp2_with fail
      refine ST.out.mono ?_
      rintro r w' ⟨rfl, rfl⟩
      go_wp2_with fail
      refine FR.out.mono ?_
      rintro r w' ⟨rfl, rfl⟩
      go_wp2
      go_ret
      exact ⟨rfl, rfl⟩
  · rw [if_pos k1] at hg
    rw [hg]
    have hb : (e.state != 1) = true := by simp [k1]
    obtain ⟨st, hst⟩ : ∃ st, e.state = st := ⟨_, rfl⟩
    rw [hst] at ST hb
    clear h hn hg h0 k1 FR hst
    go_enter Try.func15, Try.ntmps15
    go_wp2_with fail
    refine ST.out.mono ?_
    rintro r w' ⟨rfl, rfl⟩
    go_wp2
    go_ret
    exact ⟨rfl, rfl⟩
set_option maxHeartbeats 2000000 in
theorem xput_ok (p q : Nat) (F : List Nat) (fv : Value) (e : Rx.E) (R : Rm.Ram) (v : Value) (xs : List Int) (t : Int) (w : World) (h : SysF w p q F fv e R) (hr : Rd w v (nums .u8 xs)) (h0 : Rx.giveE e xs = 0) :
    Calls Try.prog 15 #[.pointer (some ⟨q, 0, none⟩), v, .int .u32 t] w fun r w' => r = .returned (.int .i64 0) ∧ Goes p q F fv w (Rx.give e xs t) R w' := by
  have ST := Lib.hid (xstate_ok p q F fv e R w h)
  have FR := Lib.hid (xfree_ok p q F fv e R w h)
  have hgv : Rx.give e xs t = { e with frame := xs, time := t, sent := 0, inner := false, phase := 0 } := by unfold Rx.give; rw [if_pos h0]
  rw [hgv]
  have hg : Rx.giveE e xs = if e.state ≠ 1 then 8 else if xs.length = 0 ∨ 1518 < xs.length then 1 else if e.frame = [] then 0 else 3 := rfl
  rw [h0] at hg
  have k1 : e.state = 1 := by
    by_cases k : e.state = 1
    · exact k
    · rw [if_pos k] at hg; exact absurd hg (by decide)
  rw [if_neg (by omega)] at hg
  have k2 : ¬ (xs.length = 0 ∨ 1518 < xs.length) := fun k => by rw [if_pos k] at hg; exact absurd hg (by decide)
  rw [if_neg k2] at hg
  have k3 : e.frame = [] := by
    by_cases k : e.frame = []
    · exact k
    · rw [if_neg k] at hg; exact absurd hg (by decide)
  have hf : Rx.isFree e = true := by unfold Rx.isFree; simp [k1, k3]
  rw [k1] at ST
  rw [hf] at FR
  have hfv := h.nl k3
  subst hfv
  have HRD := Lib.hid hr
  obtain ⟨A, c, rfl, hc1, hc2, -⟩ := id hr
  rw [nums_len] at hc1 HRD ⊢
  unfold maxLen at hc2
  have hbl : Below w.heap.size w (w.alloc (.cells #[] 5)) := (Below.refl _ w).alloc (Nat.le_refl _) _
  have hown0 : (w.alloc (.cells #[] 5)).ownsRow 0 5 1 (.slice (some ⟨w.heap.size, 0, none⟩) 0 0) ([] : List Value).length [] := ⟨rfl, .inr ⟨w.heap.size, 0, #[], rfl, Nat.zero_le _, heap_alloc_new w _, Nat.le_refl _, by simp [maxLen], rfl, rfl⟩⟩
  have HO0 := Lib.hid hown0
  have HRD1 := Lib.hid (HRD.out.below hbl)
  have HBL := Lib.hid hbl
  have HS := Lib.hid h
  have HS0 := Lib.hid (h.below hbl)
  obtain ⟨n, hn⟩ : ∃ n, xs.length = n := ⟨_, rfl⟩
  have HN := Lib.hid hn
  rw [hn] at hc1 k2 HRD1 HRD ⊢
  have m1 : ((n : Int) == 0) = false := by simp; omega
  have m2 : (n : Int) ≤ 1518 := by omega
  have hq := h.lt
  have hne : xs ≠ [] := fun a => by subst a; simp at hn; omega
  have HNE := Lib.hid hne
  obtain ⟨c0, c1, c2, c3, c4, c5, c6, c7, c8, c9, c10, c11, c12, c13, c14, c15, c16, c17, c18⟩ := eng_cells h
  have f := eng_free h
  clear h hgv h0 hg hf hr hbl hown0 hn k2 k3 hne
  go_enter Try.func15, Try.ntmps15
  go_wp2_with fail
  refine ST.out.mono ?_
  rintro r w' ⟨rfl, rfl⟩
  go_wp2_with fail
  refine FR.out.mono ?_
  rintro r w' ⟨rfl, rfl⟩
  go_wp2_with (at_builtin; refine app_rd rfl _ _ 22 rfl 0 5 (.int .u8 0) 1 Try.underlying22 info_u8x rfl (by decide) _ [] rfl HO0.out _ (nums .u8 xs) rfl HRD1.out (nums_one _ _) ?c3 ?c4 ?_)
  case c3 => rw [nums_len, HN.out]; simp; omega
  case c4 => simp
  intro v1 w1 hown1 hg hat _
  replace hown1 : w1.ownsRow 0 5 1 v1 xs.length (nums .u8 xs) := by simpa [nums_len] using hown1
  have hat1 : ∀ b, v1.ownBlock = some b → w.heap.size ≤ b := fun b hb => by
    rcases hat with hat | hat
    · rw [hat] at hb; simp [Value.ownBlock] at hb; omega
    · rw [hat] at hb; simp at hb; omega
  have hS1 := HS0.out.given hown1 hg (fun k hk => by
    simp [Value.ownBlock] at hk
    subst hk
    exact ⟨fun hin => Nat.lt_irrefl _ (HS.out.ram.lt _ hin), by omega⟩) (fun b hb => ⟨fun hin => by have := HS.out.ram.lt _ hin; have := hat1 b hb; omega, by have := hat1 b hb; omega⟩) HNE.out
  have hB1 : Below w.heap.size w w1 := HBL.out.grown hg (by simp) (fun k hk => by simp [Value.ownBlock] at hk; omega)
  have hM1 := (Mv.given (q := q) (F := F) (fv := .slice none 0 0) hB1 hat1).set_in (q_in q F _) 17 v1
  obtain ⟨A', m', c', rfl⟩ : ∃ A' m' c', v1 = .slice A' m' c' := by
    obtain ⟨A', c', h⟩ := own_form hown1
    exact ⟨A', _, c', h⟩
  have hq1 : w1.heap[q]? = some (.cells (ecells p e (.slice none 0 0)).toArray 82 (0, 0)) := (hB1.block q hq).trans HS.out.raw
  have x17 := (cell_heap hq1 17).trans rfl
  have y17 := free_heap hq1 17
  have x18 := (cell_heap hq1 18).trans rfl
  have x15 := (cell_heap hq1 15).trans rfl
  have x16 := (cell_heap hq1 16).trans rfl
  have x4 := (cell_heap hq1 4).trans rfl
  have y := free_heap hq1
  have HS1 := Lib.hid hS1; have HM1 := Lib.hid hM1
  clear c0 c1 c2 c3 c4 c5 c6 c7 c8 c9 c10 c11 c12 c13 c14 c15 c16 c17 c18 f hown1 hg hat hat1 hS1 hB1 hM1 hq1
  go_wp2
  go_ret
  refine ⟨rfl, F, _, ?_, (((HM1.out.set_in (q_in q F _) _ _).set_in (q_in q F _) _ _).set_in (q_in q F _) _ _).set_in (q_in q F _) _ _⟩
  exact (((HS1.out.set 18 (.int .u32 t) { e with frame := xs, time := t } rfl rfl).set 15 (.int .i64 0) { e with frame := xs, time := t, sent := 0 } rfl rfl).set 16 (.bool false) { e with frame := xs, time := t, sent := 0, inner := false } rfl rfl).set 4 (.int .i64 0) { e with frame := xs, time := t, sent := 0, inner := false, phase := 0 } rfl rfl
end Go.Proofs.Ytkegljcndhckeae
