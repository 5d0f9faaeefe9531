import Derived.Test.YtkegljcndhckeadT5
namespace Go.Proofs.Ytkegljcndhckead
open Go.RowKit
set_option linter.unusedVariables false
def rowE (p : Nat) (e : Tx.E) (st : Int) : Array Value := (ecells p { Tx.new e.base with state := st } (.slice none 0 0)).toArray
theorem rowE_one (p : Nat) (e : Tx.E) (st : Int) : ((rowE p e st).all fun x => x.oneCell') = true := by
  unfold rowE ecells
  simp [Value.oneCell']
theorem SysF.reset {w : World} {p q : Nat} {F : List Nat} {fv : Value} {e : Tx.E} {R : Rm.Ram} (h : SysF w p q F fv e R) (st : Int) : SysF (w.setRow q (rowE p e st)) p q F (.slice none 0 0) { Tx.new e.base with state := st } R :=
  ⟨h.ram.keep_of fun b hb => setRow_other w q b _ (fun e => h.qF (by rw [← e]; exact hb)), setRow_heap w q _ (rowE p e st) _ _ h.raw, World.ownsRow_nil _ _ _ _, h.qF, fun b hb => by simp [Value.ownBlock] at hb⟩
theorem Mv.reset {F F' : List Nat} {a w : World} {q : Nat} (h : Mv F F' a w) (hq : q ∈ F) (cs : Array Value) : Mv F F' a (w.setRow q cs) :=
  ⟨h.os, h.tape, h.output, by simpa [World.setRow] using h.size, fun k hk hn => (setRow_other w q k cs (fun e => hn (by rw [e]; exact hq))).trans (h.block k hk hn), h.new⟩
set_option maxRecDepth 100000 in
set_option maxHeartbeats 1000000 in
theorem tstart_ok (p q : Nat) (F : List Nat) (fv : Value) (e : Tx.E) (R : Rm.Ram) (w : World) (h : SysF w p q F fv e R) :
    Calls Try.prog 10 #[.pointer (some ⟨q, 0, none⟩)] w fun r w' => r = .returned (.tuple #[]) ∧ Goes p q F fv w (Tx.start e) R w' := by
  have HS := Lib.hid h.drew
  have HM := Lib.hid (Mv.refl (blks q F fv) w).drew
  clear h
  go_enter Try.func10, Try.ntmps10
  go_wp2
  refine wp_region_still_tail 15 (by kernel_rfl) (by kernel_rfl) ?_
  simp only [List.take_succ_cons, List.take_zero, List.drop_succ_cons, List.drop_zero]
  change wpStill _ _ w.drew _ _ _
  generalize hW : w.drew = W at HS HM
  obtain ⟨c0, c1, -⟩ := eng_cells HS.out
  have HWW := Lib.hid hW
  clear hW
  iterate 15 still_step
  refine wpStill_nil ?_
  change wpList _ _ _ _ _ w.drew
  rw [HWW.out]
  refine wpList_store_row rfl 82 _ _ rfl q (rowE p e 1) rfl rfl _ _ HS.out.raw (by kernel_rfl) rfl (rowE_one p e _) ?_
  have HG := Lib.hid (show Goes p q F fv w (Tx.start e) R (W.setRow q (rowE p e 1)) from ⟨F, _, HS.out.reset 1, (HM.out.reset (q_in q F fv) (rowE p e 1)).dropped⟩)
  generalize W.setRow q (rowE p e 1) = W2 at HG ⊢
  go_wp2
  go_end0
  exact ⟨rfl, HG.out⟩
set_option maxRecDepth 100000 in
set_option maxHeartbeats 1000000 in
theorem tstop_ok (p q : Nat) (F : List Nat) (fv : Value) (e : Tx.E) (R : Rm.Ram) (w : World) (h : SysF w p q F fv e R) :
    Calls Try.prog 11 #[.pointer (some ⟨q, 0, none⟩)] w fun r w' => r = .returned (.tuple #[]) ∧ Goes p q F fv w (Tx.stop e) R w' := by
  have HS := Lib.hid h.drew
  have HM := Lib.hid (Mv.refl (blks q F fv) w).drew
  clear h
  go_enter Try.func11, Try.ntmps11
  go_wp2
  refine wp_region_still_tail 15 (by kernel_rfl) (by kernel_rfl) ?_
  simp only [List.take_succ_cons, List.take_zero, List.drop_succ_cons, List.drop_zero]
  change wpStill _ _ w.drew _ _ _
  generalize hW : w.drew = W at HS HM
  obtain ⟨c0, c1, -⟩ := eng_cells HS.out
  have HWW := Lib.hid hW
  clear hW
  iterate 15 still_step
  refine wpStill_nil ?_
  change wpList _ _ _ _ _ w.drew
  rw [HWW.out]
  refine wpList_store_row rfl 82 _ _ rfl q (rowE p e 0) rfl rfl _ _ HS.out.raw (by kernel_rfl) rfl (rowE_one p e _) ?_
  have HG := Lib.hid (show Goes p q F fv w (Tx.stop e) R (W.setRow q (rowE p e 0)) from ⟨F, _, HS.out.reset 0, (HM.out.reset (q_in q F fv) (rowE p e 0)).dropped⟩)
  generalize W.setRow q (rowE p e 0) = W2 at HG ⊢
  go_wp2
  go_end0
  exact ⟨rfl, HG.out⟩
theorem tdone_ok (p q : Nat) (F : List Nat) (fv : Value) (e : Tx.E) (R : Rm.Ram) (t : Int) (w : World) (h : SysF w p q F fv e R) :
    Calls Try.prog 15 #[.pointer (some ⟨q, 0, none⟩), .int .u32 t] w fun r w' => r = .returned (.int .i64 (Tx.doneE e)) ∧ Goes p q F fv w (Tx.done e t) R w' := by
  have ST := Lib.hid (tstate_ok p q F fv e R w h)
  obtain ⟨c0, c1, c2, c3, c4, c5, c6, c7, c8, c9, c10, c11, c12, c13, c14, c15, c16, c17⟩ := eng_cells h
  have f := eng_free h
  have HS := Lib.hid h
  by_cases k : e.state = 1 ∧ e.phase = 4
  · have hr : Tx.isReady e = true := decide_eq_true k
    have h1 : Tx.done e t = { e with time := t, phase := 5 } := by unfold Tx.done; rw [if_pos hr]
    have h2 : Tx.doneE e = 0 := by unfold Tx.doneE; rw [if_pos hr]
    rw [h1, h2]
    rw [k.1] at ST
    rw [k.2] at c4
    clear h h1 h2 hr k
    go_enter Try.func15, Try.ntmps15
    go_wp2_with fail
    refine ST.out.mono ?_
    rintro r w' ⟨rfl, rfl⟩
    go_wp2
    go_ret
    exact ⟨rfl, F, fv, (HS.out.set 17 (.int .u32 t) { e with time := t } rfl rfl).set 4 (.int .i64 5) { e with time := t, phase := 5 } rfl rfl, ((Mv.refl (blks q F fv) w).set_in (q_in q F fv) _ _).set_in (q_in q F fv) _ _⟩
  · have hr : Tx.isReady e = false := decide_eq_false k
    have h1 : Tx.done e t = e := by unfold Tx.done; rw [hr]; rfl
    have h2 : Tx.doneE e = 6 := by unfold Tx.doneE; rw [hr]; rfl
    rw [h1, h2]
    by_cases k1 : e.state = 1
    · have k2 : (e.phase != 4) = true := by rw [bne_iff_ne]; exact fun a => k ⟨k1, a⟩
      rw [k1] at ST
      clear h h1 h2 hr k k1
      go_enter Try.func15, Try.ntmps15
      go_wp2_with fail
      refine ST.out.mono ?_
      rintro r w' ⟨rfl, rfl⟩
      go_wp2
      go_ret
      exact ⟨rfl, F, fv, HS.out, Mv.refl _ _⟩
    · have k2 : (e.state != 1) = true := by rw [bne_iff_ne]; exact k1
      clear h h1 h2 hr k k1
      go_enter Try.func15, Try.ntmps15
      go_wp2_with fail
      refine ST.out.mono ?_
      rintro r w' ⟨rfl, rfl⟩
      go_wp2
      go_ret
      exact ⟨rfl, F, fv, HS.out, Mv.refl _ _⟩
theorem tready_no (p q : Nat) (F : List Nat) (fv : Value) (e : Tx.E) (R : Rm.Ram) (w : World) (h : SysF w p q F fv e R) (hr : Tx.isReady e = false) :
    Calls Try.prog 13 #[.pointer (some ⟨q, 0, none⟩)] w fun r w' => r = .returned (.tuple #[.slice none 0 0, .bool false]) ∧ w = w' := by
  have ST := Lib.hid (tstate_ok p q F fv e R w h)
  obtain ⟨c0, c1, c2, c3, c4, -⟩ := eng_cells h
  have k : ¬ (e.state = 1 ∧ e.phase = 4) := of_decide_eq_false hr
  by_cases k1 : e.state = 1
  · have k2 : (e.phase != 4) = true := by rw [bne_iff_ne]; exact fun a => k ⟨k1, a⟩
    rw [k1] at ST
    clear h hr k k1
    go_enter Try.func13, Try.ntmps13
    go_wp2_with fail
    refine ST.out.mono ?_
    rintro r w' ⟨rfl, rfl⟩
    go_wp2
    go_ret2
    exact ⟨rfl, rfl⟩
  · have k2 : (e.state != 1) = true := by rw [bne_iff_ne]; exact k1
    clear h hr k k1
    go_enter Try.func13, Try.ntmps13
    go_wp2_with fail
    refine ST.out.mono ?_
    rintro r w' ⟨rfl, rfl⟩
    go_wp2
    go_ret2
    exact ⟨rfl, rfl⟩
theorem tready_ok (p q : Nat) (F : List Nat) (fv : Value) (e : Tx.E) (R : Rm.Ram) (ho : Tx.Ok e) (w : World) (h : SysF w p q F fv e R) (hr : Tx.isReady e = true) :
    Calls Try.prog 13 #[.pointer (some ⟨q, 0, none⟩)] w fun r w' => ∃ v, r = .returned (.tuple #[v, .bool true]) ∧ Rd w' v (nums .u8 e.frame) ∧ Below w.heap.size w w' := by
  have ST := Lib.hid (tstate_ok p q F fv e R w h)
  obtain ⟨c0, c1, c2, c3, c4, c5, c6, c7, c8, c9, c10, c11, c12, c13, c14, c15, c16, c17⟩ := eng_cells h
  have k : e.state = 1 ∧ e.phase = 4 := of_decide_eq_true hr
  rw [k.1] at ST
  rw [k.2] at c4
  have HOWN := Lib.hid h.own
  have hq := h.lt
  have hfl := ho.fl
  clear h hr k
  go_enter Try.func13, Try.ntmps13
  go_wp2_with fail
  refine ST.out.mono ?_
  rintro r w' ⟨rfl, rfl⟩
  obtain ⟨A, c, rfl⟩ := own_form HOWN.out
  have hbl : Below w.heap.size w (w.alloc (.cells #[] 5)) := (Below.refl _ w).alloc (Nat.le_refl _) _
  have HBL := Lib.hid hbl
  have hown0 : (w.alloc (.cells #[] 5)).ownsRow w.heap.size 5 1 (.slice (some ⟨w.heap.size, 0, none⟩) 0 0) ([] : List Value).length [] := ⟨rfl, .inr ⟨w.heap.size, 0, #[], rfl, Nat.le_refl _, heap_alloc_new w _, Nat.le_refl _, by simp [maxLen], rfl, rfl⟩⟩
  have HO0 := Lib.hid hown0
  have hrd : Rd (w.alloc (.cells #[] 5)) (.slice A e.frame.length c) (nums .u8 e.frame) := Rd.of_own (own_below HOWN.out hbl)
  have HRD := Lib.hid hrd
  clear hbl hown0 hrd
  go_wp2_with (at_builtin; refine app_rd rfl _ _ 25 rfl w.heap.size 5 (.int .u8 0) 1 Try.underlying25 info_u8t rfl (by decide) _ [] rfl HO0.out _ (nums .u8 e.frame) rfl HRD.out (nums_one _ _) ?c3 ?c4 ?_)
  case c3 => rw [nums_len]; simp; omega
  case c4 => simp
  intro v1 w1 hown1 hg hat _
  have HRD1 := Lib.hid (Rd.of_own hown1)
  have HB1 := Lib.hid (HBL.out.grown hg (by simp) (own_ge HO0.out))
  clear hown1 hg hat
  go_wp2
  go_ret2
  exact ⟨v1, rfl, by simpa using HRD1.out, HB1.out⟩
end Go.Proofs.Ytkegljcndhckead
