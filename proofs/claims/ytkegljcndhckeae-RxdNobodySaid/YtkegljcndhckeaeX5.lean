import Derived.Test.YtkegljcndhckeaeX4
import Derived.Lib.SliceRun
namespace Go.Proofs.Ytkegljcndhckeae
open Go.RowKit
set_option linter.unusedVariables false
theorem Goes.halt {p q : Nat} {F : List Nat} {fv : Value} {w w1 : World} {e : Rx.E} {R : Rm.Ram} (h : Goes p q F fv w e R w1) : Goes p q F fv w (Rx.halt e) R (w1.setCell ⟨q, 3, none⟩ (.int .i64 2)) := by
  obtain ⟨F1, fv1, hS, hM⟩ := h
  exact ⟨F1, fv1, hS.set 3 (.int .i64 2) (Rx.halt e) rfl rfl, hM.set_in (q_in q F fv) 3 (.int .i64 2)⟩
theorem Goes.after {p q : Nat} {F : List Nat} {fv : Value} {w w0 w1 : World} {e : Rx.E} {R : Rm.Ram} (h : Goes p q F fv w0 e R w1) (hb : Below w.heap.size w w0) : Goes p q F fv w e R w1 := by
  obtain ⟨F1, fv1, hS, hM⟩ := h
  exact ⟨F1, fv1, hS, (Mv.of_below hb).trans hM⟩
theorem Goes.state {p q : Nat} {F : List Nat} {fv : Value} {w w1 : World} {e : Rx.E} {R : Rm.Ram} (h : Goes p q F fv w e R w1) : w1.cell? ⟨q, 3, none⟩ = some (.int .i64 e.state) ∧ w1.frozen? ⟨q, 3, none⟩ = false := by
  obtain ⟨F1, fv1, hS, hM⟩ := h
  obtain ⟨-, -, -, c3, -⟩ := eng_cells hS
  exact ⟨c3, eng_free hS 3⟩
theorem eq_nil (A : Option Addr) (n c : Nat) (w : World) : Sem.run Try.prog (binOp BinOp.eql 22 (.slice A n c) (.slice none 0 0)) w = .ok (.bool A.isNone) w :=
  Lib.run_eql_slice_nil w 22 5 A n c 0 0 Try.underlying22
theorem frame_nil {w : World} {p q : Nat} {F : List Nat} {A : Option Addr} {n c : Nat} {e : Rx.E} {R : Rm.Ram} (h : SysF w p q F (.slice A n c) e R) : A.isNone = decide (e.frame = []) := by
  by_cases k : e.frame = []
  · have := h.nl k
    injection this with hA _ _
    subst hA
    simp [k]
  · obtain ⟨g, cap, hv, -⟩ := h.own.form (by cases hf : e.frame with | nil => exact absurd hf k | cons => simp)
    injection hv with hA _ _
    subst hA
    simp [k]
theorem xfree_ok (p q : Nat) (F : List Nat) (fv : Value) (e : Rx.E) (R : Rm.Ram) (w : World) (h : SysF w p q F fv e R) : Calls Try.prog 14 #[.pointer (some ⟨q, 0, none⟩)] w fun r w' => r = .returned (.bool (Rx.isFree e)) ∧ w = w' := by
  have ST := Lib.hid (xstate_ok p q F fv e R w h)
  obtain ⟨A, c, rfl⟩ := own_form h.own
  have hn := frame_nil h
  obtain ⟨c0, c1, c2, c3, c4, c5, c6, c7, c8, c9, c10, c11, c12, c13, c14, c15, c16, c17, c18⟩ := eng_cells h
  have qn := eq_nil
  by_cases k : e.state = 1
  · have hf : Rx.isFree e = A.isNone := by rw [hn]; unfold Rx.isFree; simp [k]
    rw [hf]
    rw [k] at ST
    obtain ⟨a, ha⟩ : ∃ a, A.isNone = a := ⟨_, rfl⟩
    rw [ha]
    have HA := Lib.hid ha
    clear h hn k hf ha
    go_enter Try.func14, Try.ntmps14
    go_wp2_with fail
    refine ST.out.mono ?_
    rintro r w' ⟨rfl, rfl⟩
    go_wp2
    go_ret
    exact ⟨by rw [← HA.out]; rfl, rfl⟩
  · have hf : Rx.isFree e = false := by unfold Rx.isFree; simp [k]
    rw [hf]
    have hb : (e.state == 1) = false := by simp [k]
    clear h hn k hf
    go_enter Try.func14, Try.ntmps14
    go_wp2_with fail
    refine ST.out.mono ?_
    rintro r w' ⟨rfl, rfl⟩
    go_wp2
    go_ret
    exact ⟨rfl, rfl⟩
theorem xstep_off (p q : Nat) (F : List Nat) (fv : Value) (e : Rx.E) (R : Rm.Ram) (w : World) (h : SysF w p q F fv e R) (h1 : Rx.goes e = false) :
    Calls Try.prog 12 #[.pointer (some ⟨q, 0, none⟩)] w fun r w' => r = .returned (.tuple #[]) ∧ w = w' := by
  have ST := Lib.hid (xstate_ok p q F fv e R w h)
  have FR := Lib.hid (xfree_ok p q F fv e R w h)
  by_cases k : e.state = 1
  · have hf : Rx.isFree e = true := by
      unfold Rx.goes at h1
      unfold Rx.isFree
      simp [k] at h1 ⊢
      exact h1
    rw [hf] at FR
    rw [k] at ST
    clear h h1 k hf
    go_enter Try.func12, Try.ntmps12
    go_wp2_with fail
    refine ST.out.mono ?_
    rintro r w' ⟨rfl, rfl⟩
    go_wp2_with fail
    refine FR.out.mono ?_
    rintro r w' ⟨rfl, rfl⟩
    go_wp2
    exact bodyPost_ret (v := .tuple #[]) (by simp [results, Try.results12, go_sem]) rfl ⟨rfl, rfl⟩
  · have hb : (e.state != 1) = true := by simp [k]
    obtain ⟨st, hst⟩ : ∃ st, e.state = st := ⟨_, rfl⟩
    rw [hst] at ST hb
    clear h h1 hst k FR
    go_enter Try.func12, Try.ntmps12
    go_wp2_with fail
    refine ST.out.mono ?_
    rintro r w' ⟨rfl, rfl⟩
    go_wp2
    exact bodyPost_ret (v := .tuple #[]) (by simp [results, Try.results12, go_sem]) rfl ⟨rfl, rfl⟩
def stepFns (q : Nat) : List Value := [.func (.func 39) #[.pointer (some ⟨q, 0, none⟩)] #[], .func (.func 40) #[.pointer (some ⟨q, 0, none⟩)] #[], .func (.func 41) #[.pointer (some ⟨q, 0, none⟩)] #[], .func (.func 42) #[.pointer (some ⟨q, 0, none⟩)] #[], .func (.func 43) #[.pointer (some ⟨q, 0, none⟩)] #[], .func (.func 44) #[.pointer (some ⟨q, 0, none⟩)] #[]]
set_option maxHeartbeats 1000000 in
theorem xstep_0 (p q : Nat) (F : List Nat) (fv : Value) (e : Rx.E) (R : Rm.Ram) (ho : Rx.Ok e) (w : World) (h : SysF w p q F fv e R) (hl : R.log.length < 1000000000) (h1 : e.state = 1) (hne : e.frame ≠ []) (h3 : e.phase = 0) :
    Calls Try.prog 12 #[.pointer (some ⟨q, 0, none⟩)] w fun r w' => r = .returned (.tuple #[]) ∧ Goes p q F fv w (Rx.fin (Rx.fetchF e (Rm.rdV R e.at_) (Rm.is R e.at_))) (Rm.read R 3 e.at_) w' := by
  have hb0 : Below w.heap.size w (w.alloc (.cells (stepFns q).toArray 83)) := (Below.refl _ w).alloc (Nat.le_refl _) _
  have ph := fun W hs => xfetch_ok p q F fv e R ho W hs hl
  have ST := Lib.hid (xstate_ok p q F fv e R w h)
  have FR := Lib.hid (xfree_ok p q F fv e R w h)
  have hf : Rx.isFree e = false := by unfold Rx.isFree; simp [hne]
  rw [hf] at FR
  rw [h1] at ST
  obtain ⟨c0, c1, c2, c3, c4, -⟩ := eng_cells h
  have hq := h.lt
  rw [h3] at c4
  obtain ⟨⟨e', b⟩, hx⟩ : ∃ x, (Rx.fetchF e (Rm.rdV R e.at_) (Rm.is R e.at_)) = x := ⟨_, rfl⟩
  rw [hx] at ph
  rw [hx]
  simp only at ph
  have PH := Lib.hid (ph _ (h.below hb0))
  have HB0 := Lib.hid hb0
  clear ph h ho hx hb0 hf hne
  simp only [stepFns] at PH HB0
  go_enter Try.func12, Try.ntmps12
  go_wp2_with fail
  refine ST.out.mono ?_
  rintro r w' ⟨rfl, rfl⟩
  go_wp2_with fail
  refine FR.out.mono ?_
  rintro r w' ⟨rfl, rfl⟩
  go_wp2_with fail
  refine PH.out.mono ?_
  rintro r w1 ⟨rfl, hG⟩
  obtain ⟨x3, y3⟩ := hG.state
  have HG := Lib.hid (hG.after HB0.out)
  clear hG
  cases b with
  | true =>
    go_wp2
    go_end0
    exact ⟨rfl, HG.out⟩
  | false =>
    go_wp2
    go_end0
    exact ⟨rfl, HG.out.halt⟩
set_option maxHeartbeats 1000000 in
theorem xstep_1 (p q : Nat) (F : List Nat) (fv : Value) (e : Rx.E) (R : Rm.Ram) (ho : Rx.Ok e) (w : World) (h : SysF w p q F fv e R) (hl : R.log.length < 1000000000) (h1 : e.state = 1) (hne : e.frame ≠ []) (h3 : e.phase = 1) :
    Calls Try.prog 12 #[.pointer (some ⟨q, 0, none⟩)] w fun r w' => r = .returned (.tuple #[]) ∧ Goes p q F fv w (Rx.fin (Rx.wherF e (Rm.rdV R (Rx.add e.at_ 4)) (Rm.is R (Rx.add e.at_ 4)))) (Rm.read R 3 (Rx.add e.at_ 4)) w' := by
  have hb0 : Below w.heap.size w (w.alloc (.cells (stepFns q).toArray 83)) := (Below.refl _ w).alloc (Nat.le_refl _) _
  have ph := fun W hs => xwher_ok p q F fv e R ho W hs hl
  have ST := Lib.hid (xstate_ok p q F fv e R w h)
  have FR := Lib.hid (xfree_ok p q F fv e R w h)
  have hf : Rx.isFree e = false := by unfold Rx.isFree; simp [hne]
  rw [hf] at FR
  rw [h1] at ST
  obtain ⟨c0, c1, c2, c3, c4, -⟩ := eng_cells h
  have hq := h.lt
  rw [h3] at c4
  obtain ⟨⟨e', b⟩, hx⟩ : ∃ x, (Rx.wherF e (Rm.rdV R (Rx.add e.at_ 4)) (Rm.is R (Rx.add e.at_ 4))) = x := ⟨_, rfl⟩
  rw [hx] at ph
  rw [hx]
  simp only at ph
  have PH := Lib.hid (ph _ (h.below hb0))
  have HB0 := Lib.hid hb0
  clear ph h ho hx hb0 hf hne
  simp only [stepFns] at PH HB0
  go_enter Try.func12, Try.ntmps12
  go_wp2_with fail
  refine ST.out.mono ?_
  rintro r w' ⟨rfl, rfl⟩
  go_wp2_with fail
  refine FR.out.mono ?_
  rintro r w' ⟨rfl, rfl⟩
  go_wp2_with fail
  refine PH.out.mono ?_
  rintro r w1 ⟨rfl, hG⟩
  obtain ⟨x3, y3⟩ := hG.state
  have HG := Lib.hid (hG.after HB0.out)
  clear hG
  cases b with
  | true =>
    go_wp2
    go_end0
    exact ⟨rfl, HG.out⟩
  | false =>
    go_wp2
    go_end0
    exact ⟨rfl, HG.out.halt⟩
set_option maxHeartbeats 1000000 in
theorem xstep_2 (p q : Nat) (F : List Nat) (fv : Value) (e : Rx.E) (R : Rm.Ram) (ho : Rx.Ok e) (w : World) (h : SysF w p q F fv e R) (hl : R.log.length < 1000000000) (h1 : e.state = 1) (hne : e.frame ≠ []) (h3 : e.phase = 2) :
    Calls Try.prog 12 #[.pointer (some ⟨q, 0, none⟩)] w fun r w' => r = .returned (.tuple #[]) ∧ Goes p q F fv w (Rx.fin (Rx.sizeF e (Rm.rdV R (Rx.add e.at_ 8)) (Rm.is R (Rx.add e.at_ 8)))) (Rm.read R 3 (Rx.add e.at_ 8)) w' := by
  have hb0 : Below w.heap.size w (w.alloc (.cells (stepFns q).toArray 83)) := (Below.refl _ w).alloc (Nat.le_refl _) _
  have ph := fun W hs => xsize_ok p q F fv e R ho W hs hl
  have ST := Lib.hid (xstate_ok p q F fv e R w h)
  have FR := Lib.hid (xfree_ok p q F fv e R w h)
  have hf : Rx.isFree e = false := by unfold Rx.isFree; simp [hne]
  rw [hf] at FR
  rw [h1] at ST
  obtain ⟨c0, c1, c2, c3, c4, -⟩ := eng_cells h
  have hq := h.lt
  rw [h3] at c4
  obtain ⟨⟨e', b⟩, hx⟩ : ∃ x, (Rx.sizeF e (Rm.rdV R (Rx.add e.at_ 8)) (Rm.is R (Rx.add e.at_ 8))) = x := ⟨_, rfl⟩
  rw [hx] at ph
  rw [hx]
  simp only at ph
  have PH := Lib.hid (ph _ (h.below hb0))
  have HB0 := Lib.hid hb0
  clear ph h ho hx hb0 hf hne
  simp only [stepFns] at PH HB0
  go_enter Try.func12, Try.ntmps12
  go_wp2_with fail
  refine ST.out.mono ?_
  rintro r w' ⟨rfl, rfl⟩
  go_wp2_with fail
  refine FR.out.mono ?_
  rintro r w' ⟨rfl, rfl⟩
  go_wp2_with fail
  refine PH.out.mono ?_
  rintro r w1 ⟨rfl, hG⟩
  obtain ⟨x3, y3⟩ := hG.state
  have HG := Lib.hid (hG.after HB0.out)
  clear hG
  cases b with
  | true =>
    go_wp2
    go_end0
    exact ⟨rfl, HG.out⟩
  | false =>
    go_wp2
    go_end0
    exact ⟨rfl, HG.out.halt⟩
set_option maxHeartbeats 1000000 in
theorem xstep_3 (p q : Nat) (F : List Nat) (fv : Value) (e : Rx.E) (R : Rm.Ram) (ho : Rx.Ok e) (w : World) (h : SysF w p q F fv e R) (hl : R.log.length < 1000000000) (h1 : e.state = 1) (hne : e.frame ≠ []) (h3 : e.phase = 3) :
    Calls Try.prog 12 #[.pointer (some ⟨q, 0, none⟩)] w fun r w' => r = .returned (.tuple #[]) ∧ Goes p q F fv w (Rx.fin (Rx.dataF e (Rm.is R (Rx.add e.d.at_ e.put)))) (Rm.write R 3 (Rx.add e.d.at_ e.put) (Rx.word e)) w' := by
  have hb0 : Below w.heap.size w (w.alloc (.cells (stepFns q).toArray 83)) := (Below.refl _ w).alloc (Nat.le_refl _) _
  have ph := fun W hs => xdata_ok p q F fv e R ho h3 hne W hs hl
  have ST := Lib.hid (xstate_ok p q F fv e R w h)
  have FR := Lib.hid (xfree_ok p q F fv e R w h)
  have hf : Rx.isFree e = false := by unfold Rx.isFree; simp [hne]
  rw [hf] at FR
  rw [h1] at ST
  obtain ⟨c0, c1, c2, c3, c4, -⟩ := eng_cells h
  have hq := h.lt
  rw [h3] at c4
  obtain ⟨⟨e', b⟩, hx⟩ : ∃ x, (Rx.dataF e (Rm.is R (Rx.add e.d.at_ e.put))) = x := ⟨_, rfl⟩
  rw [hx] at ph
  rw [hx]
  simp only at ph
  have PH := Lib.hid (ph _ (h.below hb0))
  have HB0 := Lib.hid hb0
  clear ph h ho hx hb0 hf hne
  simp only [stepFns] at PH HB0
  go_enter Try.func12, Try.ntmps12
  go_wp2_with fail
  refine ST.out.mono ?_
  rintro r w' ⟨rfl, rfl⟩
  go_wp2_with fail
  refine FR.out.mono ?_
  rintro r w' ⟨rfl, rfl⟩
  go_wp2_with fail
  refine PH.out.mono ?_
  rintro r w1 ⟨rfl, hG⟩
  obtain ⟨x3, y3⟩ := hG.state
  have HG := Lib.hid (hG.after HB0.out)
  clear hG
  cases b with
  | true =>
    go_wp2
    go_end0
    exact ⟨rfl, HG.out⟩
  | false =>
    go_wp2
    go_end0
    exact ⟨rfl, HG.out.halt⟩
set_option maxHeartbeats 1000000 in
theorem xstep_4 (p q : Nat) (F : List Nat) (fv : Value) (e : Rx.E) (R : Rm.Ram) (ho : Rx.Ok e) (w : World) (h : SysF w p q F fv e R) (hl : R.log.length < 1000000000) (h1 : e.state = 1) (hne : e.frame ≠ []) (h3 : e.phase = 4) :
    Calls Try.prog 12 #[.pointer (some ⟨q, 0, none⟩)] w fun r w' => r = .returned (.tuple #[]) ∧ Goes p q F fv w (Rx.fin (Rx.stampF e (Rm.is R (Rx.add e.at_ 12)))) (Rm.write R 3 (Rx.add e.at_ 12) e.time) w' := by
  have hb0 : Below w.heap.size w (w.alloc (.cells (stepFns q).toArray 83)) := (Below.refl _ w).alloc (Nat.le_refl _) _
  have ph := fun W hs => xstamp_ok p q F fv e R ho W hs hl
  have ST := Lib.hid (xstate_ok p q F fv e R w h)
  have FR := Lib.hid (xfree_ok p q F fv e R w h)
  have hf : Rx.isFree e = false := by unfold Rx.isFree; simp [hne]
  rw [hf] at FR
  rw [h1] at ST
  obtain ⟨c0, c1, c2, c3, c4, -⟩ := eng_cells h
  have hq := h.lt
  rw [h3] at c4
  obtain ⟨⟨e', b⟩, hx⟩ : ∃ x, (Rx.stampF e (Rm.is R (Rx.add e.at_ 12))) = x := ⟨_, rfl⟩
  rw [hx] at ph
  rw [hx]
  simp only at ph
  have PH := Lib.hid (ph _ (h.below hb0))
  have HB0 := Lib.hid hb0
  clear ph h ho hx hb0 hf hne
  simp only [stepFns] at PH HB0
  go_enter Try.func12, Try.ntmps12
  go_wp2_with fail
  refine ST.out.mono ?_
  rintro r w' ⟨rfl, rfl⟩
  go_wp2_with fail
  refine FR.out.mono ?_
  rintro r w' ⟨rfl, rfl⟩
  go_wp2_with fail
  refine PH.out.mono ?_
  rintro r w1 ⟨rfl, hG⟩
  obtain ⟨x3, y3⟩ := hG.state
  have HG := Lib.hid (hG.after HB0.out)
  clear hG
  cases b with
  | true =>
    go_wp2
    go_end0
    exact ⟨rfl, HG.out⟩
  | false =>
    go_wp2
    go_end0
    exact ⟨rfl, HG.out.halt⟩
set_option maxHeartbeats 1000000 in
theorem xstep_5 (p q : Nat) (F : List Nat) (fv : Value) (e : Rx.E) (R : Rm.Ram) (ho : Rx.Ok e) (w : World) (h : SysF w p q F fv e R) (hl : R.log.length < 1000000000) (h1 : e.state = 1) (hne : e.frame ≠ []) (h3 : e.phase = 5) :
    Calls Try.prog 12 #[.pointer (some ⟨q, 0, none⟩)] w fun r w' => r = .returned (.tuple #[]) ∧ Goes p q F fv w (Rx.fin (Rx.backF e (Rm.is R e.at_))) (Rm.write R 3 e.at_ (Rx.backD e).word) w' := by
  have hb0 : Below w.heap.size w (w.alloc (.cells (stepFns q).toArray 83)) := (Below.refl _ w).alloc (Nat.le_refl _) _
  have ph := fun W hs => xrelease_ok p q F fv e R ho W hs hl
  have ST := Lib.hid (xstate_ok p q F fv e R w h)
  have FR := Lib.hid (xfree_ok p q F fv e R w h)
  have hf : Rx.isFree e = false := by unfold Rx.isFree; simp [hne]
  rw [hf] at FR
  rw [h1] at ST
  obtain ⟨c0, c1, c2, c3, c4, -⟩ := eng_cells h
  have hq := h.lt
  rw [h3] at c4
  obtain ⟨⟨e', b⟩, hx⟩ : ∃ x, (Rx.backF e (Rm.is R e.at_)) = x := ⟨_, rfl⟩
  rw [hx] at ph
  rw [hx]
  simp only at ph
  have PH := Lib.hid (ph _ (h.below hb0))
  have HB0 := Lib.hid hb0
  clear ph h ho hx hb0 hf hne
  simp only [stepFns] at PH HB0
  go_enter Try.func12, Try.ntmps12
  go_wp2_with fail
  refine ST.out.mono ?_
  rintro r w' ⟨rfl, rfl⟩
  go_wp2_with fail
  refine FR.out.mono ?_
  rintro r w' ⟨rfl, rfl⟩
  go_wp2_with fail
  refine PH.out.mono ?_
  rintro r w1 ⟨rfl, hG⟩
  obtain ⟨x3, y3⟩ := hG.state
  have HG := Lib.hid (hG.after HB0.out)
  clear hG
  cases b with
  | true =>
    go_wp2
    go_end0
    exact ⟨rfl, HG.out⟩
  | false =>
    go_wp2
    go_end0
    exact ⟨rfl, HG.out.halt⟩
theorem xstep_ok (p q : Nat) (F : List Nat) (fv : Value) (e : Rx.E) (R : Rm.Ram) (ho : Rx.Ok e) (w : World) (h : SysF w p q F fv e R) (hl : R.log.length < 1000000000) :
    Calls Try.prog 12 #[.pointer (some ⟨q, 0, none⟩)] w fun r w' => r = .returned (.tuple #[]) ∧ Goes p q F fv w (Rx.step (e, R)).1 (Rx.step (e, R)).2 w' := by
  unfold Rx.step
  cases hg : Rx.goes e with
  | true =>
    rw [if_pos rfl]
    obtain ⟨h1, hne⟩ := Rx.goes_iff hg
    have hp := ho.phase
    unfold Rx.phased Rx.place
    rcases (show e.phase = 0 ∨ e.phase = 1 ∨ e.phase = 2 ∨ e.phase = 3 ∨ e.phase = 4 ∨ e.phase = 5 by omega) with h3 | h3 | h3 | h3 | h3 | h3
    · have := xstep_0 p q F fv e R ho w h hl h1 hne h3
      simpa [h3] using this
    · have := xstep_1 p q F fv e R ho w h hl h1 hne h3
      simpa [h3] using this
    · have := xstep_2 p q F fv e R ho w h hl h1 hne h3
      simpa [h3] using this
    · have := xstep_3 p q F fv e R ho w h hl h1 hne h3
      simpa [h3] using this
    · have := xstep_4 p q F fv e R ho w h hl h1 hne h3
      simpa [h3] using this
    · have := xstep_5 p q F fv e R ho w h hl h1 hne h3
      simpa [h3] using this
  | false =>
    rw [if_neg (by decide)]
    exact (xstep_off p q F fv e R w h hg).mono fun r w' ⟨a, b⟩ => ⟨a, F, fv, b ▸ h, b ▸ Mv.refl _ _⟩
end Go.Proofs.Ytkegljcndhckeae
