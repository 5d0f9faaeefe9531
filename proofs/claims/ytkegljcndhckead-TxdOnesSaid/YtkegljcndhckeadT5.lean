import Derived.Test.YtkegljcndhckeadT4
namespace Go.Proofs.Ytkegljcndhckead
open Go.RowKit
set_option linter.unusedVariables false
theorem Goes.halt {p q : Nat} {F : List Nat} {fv : Value} {w w1 : World} {e : Tx.E} {R : Rm.Ram} (h : Goes p q F fv w e R w1) : Goes p q F fv w (Tx.halt e) R (w1.setCell ⟨q, 3, none⟩ (.int .i64 2)) := by
  obtain ⟨F1, fv1, hS, hM⟩ := h
  exact ⟨F1, fv1, hS.set 3 (.int .i64 2) (Tx.halt e) rfl rfl, hM.set_in (q_in q F fv) 3 (.int .i64 2)⟩
theorem Goes.after {p q : Nat} {F : List Nat} {fv : Value} {w w0 w1 : World} {e : Tx.E} {R : Rm.Ram} (h : Goes p q F fv w0 e R w1) (hb : Below w.heap.size w w0) : Goes p q F fv w e R w1 := by
  obtain ⟨F1, fv1, hS, hM⟩ := h
  exact ⟨F1, fv1, hS, (Mv.of_below hb).trans hM⟩
theorem Goes.state {p q : Nat} {F : List Nat} {fv : Value} {w w1 : World} {e : Tx.E} {R : Rm.Ram} (h : Goes p q F fv w e R w1) : w1.cell? ⟨q, 3, none⟩ = some (.int .i64 e.state) ∧ w1.frozen? ⟨q, 3, none⟩ = false := by
  obtain ⟨F1, fv1, hS, hM⟩ := h
  obtain ⟨-, -, -, c3, -⟩ := eng_cells hS
  exact ⟨c3, eng_free hS 3⟩
theorem tstep_off (p q : Nat) (F : List Nat) (fv : Value) (e : Tx.E) (R : Rm.Ram) (w : World) (h : SysF w p q F fv e R) (h1 : e.state ≠ 1) :
    Calls Try.prog 12 #[.pointer (some ⟨q, 0, none⟩)] w fun r w' => r = .returned (.tuple #[]) ∧ w = w' := by
  have ST := Lib.hid (tstate_ok p q F fv e R w h)
  have hb : (e.state != 1) = true := by simp [h1]
  obtain ⟨st, hst⟩ : ∃ st, e.state = st := ⟨_, rfl⟩
  rw [hst] at ST hb
  clear h h1 hst
  go_enter Try.func12, Try.ntmps12
  go_wp2_with fail
  refine ST.out.mono ?_
  rintro r w' ⟨rfl, rfl⟩
  go_wp2
  exact bodyPost_ret (v := .tuple #[]) (by simp [results, Try.results12, go_sem]) rfl ⟨rfl, rfl⟩
def stepFns (q : Nat) : List Value := [.func (.func 38) #[.pointer (some ⟨q, 0, none⟩)] #[], .func (.func 39) #[.pointer (some ⟨q, 0, none⟩)] #[], .func (.func 40) #[.pointer (some ⟨q, 0, none⟩)] #[], .func (.func 41) #[.pointer (some ⟨q, 0, none⟩)] #[], .func (.func 42) #[.pointer (some ⟨q, 0, none⟩)] #[], .func (.func 43) #[.pointer (some ⟨q, 0, none⟩)] #[], .func (.func 44) #[.pointer (some ⟨q, 0, none⟩)] #[]]
theorem tdata_ok (p q : Nat) (F : List Nat) (fv : Value) (e : Tx.E) (R : Rm.Ram) (ho : Tx.Ok e) (h3 : e.phase = 3) (w : World) (h : SysF w p q F fv e R) (hl : R.log.length < 1000000000) :
    Calls Try.prog 41 #[.pointer (some ⟨q, 0, none⟩)] w fun r w' => r = .returned (.bool (Tx.dataF e (Rm.rdV R (Tx.add e.d.at_ e.got)) (Rm.is R (Tx.add e.d.at_ e.got))).2) ∧
      Goes p q F fv w (Tx.dataF e (Rm.rdV R (Tx.add e.d.at_ e.got)) (Rm.is R (Tx.add e.d.at_ e.got))).1 (Rm.read R 2 (Tx.add e.d.at_ e.got)) w' := by
  cases hb : Rm.is R (Tx.add e.d.at_ e.got) with
  | false => exact tdata_no p q F fv e R ho w h hl hb
  | true => exact tdata_yes p q F fv e R ho h3 w h hl hb
theorem twait_ok2 (p q : Nat) (F : List Nat) (fv : Value) (e : Tx.E) (R : Rm.Ram) (w : World) (h : SysF w p q F fv e R) :
    Calls Try.prog 42 #[.pointer (some ⟨q, 0, none⟩)] w fun r w' => r = .returned (.bool ((e, true) : Tx.E × Bool).2) ∧ Goes p q F fv w ((e, true) : Tx.E × Bool).1 R w' :=
  (twait_ok q w).mono fun r w' ⟨h1, h2⟩ => ⟨h1, F, fv, h2 ▸ h, h2 ▸ Mv.refl _ _⟩
set_option maxHeartbeats 1000000 in
theorem tstep_0 (p q : Nat) (F : List Nat) (fv : Value) (e : Tx.E) (R : Rm.Ram) (ho : Tx.Ok e) (w : World) (h : SysF w p q F fv e R) (hl : R.log.length < 1000000000) (h1 : e.state = 1) (h3 : e.phase = 0) :
    Calls Try.prog 12 #[.pointer (some ⟨q, 0, none⟩)] w fun r w' => r = .returned (.tuple #[]) ∧ Goes p q F fv w (Tx.fin (Tx.fetchF e (Rm.rdV R e.at_) (Rm.is R e.at_))) (Rm.read R 2 e.at_) w' := by
  have hb0 : Below w.heap.size w (w.alloc (.cells (stepFns q).toArray 83)) := (Below.refl _ w).alloc (Nat.le_refl _) _
  have ph := fun W hs => tfetch_ok p q F fv e R ho W hs hl
  have ST := Lib.hid (tstate_ok p q F fv e R w h)
  rw [h1] at ST
  obtain ⟨c0, c1, c2, c3, c4, -⟩ := eng_cells h
  have hq := h.lt
  rw [h3] at c4
  obtain ⟨⟨e', b⟩, hx⟩ : ∃ x, (Tx.fetchF e (Rm.rdV R e.at_) (Rm.is R e.at_)) = x := ⟨_, rfl⟩
  rw [hx] at ph
  rw [hx]
  simp only at ph
  have PH := Lib.hid (ph _ (h.below hb0))
  have HB0 := Lib.hid hb0
  clear ph h ho hx hb0
  simp only [stepFns] at PH HB0
  go_enter Try.func12, Try.ntmps12
  go_wp2_with fail
  refine ST.out.mono ?_
  rintro r w' ⟨rfl, rfl⟩
  go_wp2_with fail
  refine PH.out.mono ?_
  rintro r w1 ⟨rfl, hG⟩
  obtain ⟨x3, y3⟩ := hG.state
  have HG := Lib.hid (hG.after HB0.out)
  clear hG
  cases b with
  | true =>
    go_wp2
    go_end0
    exact ⟨rfl, HG.out⟩
  | false =>
    go_wp2
    go_end0
    exact ⟨rfl, HG.out.halt⟩
set_option maxHeartbeats 1000000 in
theorem tstep_1 (p q : Nat) (F : List Nat) (fv : Value) (e : Tx.E) (R : Rm.Ram) (ho : Tx.Ok e) (w : World) (h : SysF w p q F fv e R) (hl : R.log.length < 1000000000) (h1 : e.state = 1) (h3 : e.phase = 1) :
    Calls Try.prog 12 #[.pointer (some ⟨q, 0, none⟩)] w fun r w' => r = .returned (.tuple #[]) ∧ Goes p q F fv w (Tx.fin (Tx.wherF e (Rm.rdV R (Tx.add e.at_ 4)) (Rm.is R (Tx.add e.at_ 4)))) (Rm.read R 2 (Tx.add e.at_ 4)) w' := by
  have hb0 : Below w.heap.size w (w.alloc (.cells (stepFns q).toArray 83)) := (Below.refl _ w).alloc (Nat.le_refl _) _
  have ph := fun W hs => twher_ok p q F fv e R ho W hs hl
  have ST := Lib.hid (tstate_ok p q F fv e R w h)
  rw [h1] at ST
  obtain ⟨c0, c1, c2, c3, c4, -⟩ := eng_cells h
  have hq := h.lt
  rw [h3] at c4
  obtain ⟨⟨e', b⟩, hx⟩ : ∃ x, (Tx.wherF e (Rm.rdV R (Tx.add e.at_ 4)) (Rm.is R (Tx.add e.at_ 4))) = x := ⟨_, rfl⟩
  rw [hx] at ph
  rw [hx]
  simp only at ph
  have PH := Lib.hid (ph _ (h.below hb0))
  have HB0 := Lib.hid hb0
  clear ph h ho hx hb0
  simp only [stepFns] at PH HB0
  go_enter Try.func12, Try.ntmps12
  go_wp2_with fail
  refine ST.out.mono ?_
  rintro r w' ⟨rfl, rfl⟩
  go_wp2_with fail
  refine PH.out.mono ?_
  rintro r w1 ⟨rfl, hG⟩
  obtain ⟨x3, y3⟩ := hG.state
  have HG := Lib.hid (hG.after HB0.out)
  clear hG
  cases b with
  | true =>
    go_wp2
    go_end0
    exact ⟨rfl, HG.out⟩
  | false =>
    go_wp2
    go_end0
    exact ⟨rfl, HG.out.halt⟩
set_option maxHeartbeats 1000000 in
theorem tstep_2 (p q : Nat) (F : List Nat) (fv : Value) (e : Tx.E) (R : Rm.Ram) (ho : Tx.Ok e) (w : World) (h : SysF w p q F fv e R) (hl : R.log.length < 1000000000) (h1 : e.state = 1) (h3 : e.phase = 2) :
    Calls Try.prog 12 #[.pointer (some ⟨q, 0, none⟩)] w fun r w' => r = .returned (.tuple #[]) ∧ Goes p q F fv w (Tx.fin (Tx.sizeF e (Rm.rdV R (Tx.add e.at_ 8)) (Rm.is R (Tx.add e.at_ 8)))) (Rm.read R 2 (Tx.add e.at_ 8)) w' := by
  have hb0 : Below w.heap.size w (w.alloc (.cells (stepFns q).toArray 83)) := (Below.refl _ w).alloc (Nat.le_refl _) _
  have ph := fun W hs => tsize_ok p q F fv e R ho W hs hl
  have ST := Lib.hid (tstate_ok p q F fv e R w h)
  rw [h1] at ST
  obtain ⟨c0, c1, c2, c3, c4, -⟩ := eng_cells h
  have hq := h.lt
  rw [h3] at c4
  obtain ⟨⟨e', b⟩, hx⟩ : ∃ x, (Tx.sizeF e (Rm.rdV R (Tx.add e.at_ 8)) (Rm.is R (Tx.add e.at_ 8))) = x := ⟨_, rfl⟩
  rw [hx] at ph
  rw [hx]
  simp only at ph
  have PH := Lib.hid (ph _ (h.below hb0))
  have HB0 := Lib.hid hb0
  clear ph h ho hx hb0
  simp only [stepFns] at PH HB0
  go_enter Try.func12, Try.ntmps12
  go_wp2_with fail
  refine ST.out.mono ?_
  rintro r w' ⟨rfl, rfl⟩
  go_wp2_with fail
  refine PH.out.mono ?_
  rintro r w1 ⟨rfl, hG⟩
  obtain ⟨x3, y3⟩ := hG.state
  have HG := Lib.hid (hG.after HB0.out)
  clear hG
  cases b with
  | true =>
    go_wp2
    go_end0
    exact ⟨rfl, HG.out⟩
  | false =>
    go_wp2
    go_end0
    exact ⟨rfl, HG.out.halt⟩
set_option maxHeartbeats 1000000 in
theorem tstep_3 (p q : Nat) (F : List Nat) (fv : Value) (e : Tx.E) (R : Rm.Ram) (ho : Tx.Ok e) (w : World) (h : SysF w p q F fv e R) (hl : R.log.length < 1000000000) (h1 : e.state = 1) (h3 : e.phase = 3) :
    Calls Try.prog 12 #[.pointer (some ⟨q, 0, none⟩)] w fun r w' => r = .returned (.tuple #[]) ∧ Goes p q F fv w (Tx.fin (Tx.dataF e (Rm.rdV R (Tx.add e.d.at_ e.got)) (Rm.is R (Tx.add e.d.at_ e.got)))) (Rm.read R 2 (Tx.add e.d.at_ e.got)) w' := by
  have hb0 : Below w.heap.size w (w.alloc (.cells (stepFns q).toArray 83)) := (Below.refl _ w).alloc (Nat.le_refl _) _
  have ph := fun W hs => tdata_ok p q F fv e R ho h3 W hs hl
  have ST := Lib.hid (tstate_ok p q F fv e R w h)
  rw [h1] at ST
  obtain ⟨c0, c1, c2, c3, c4, -⟩ := eng_cells h
  have hq := h.lt
  rw [h3] at c4
  obtain ⟨⟨e', b⟩, hx⟩ : ∃ x, (Tx.dataF e (Rm.rdV R (Tx.add e.d.at_ e.got)) (Rm.is R (Tx.add e.d.at_ e.got))) = x := ⟨_, rfl⟩
  rw [hx] at ph
  rw [hx]
  simp only at ph
  have PH := Lib.hid (ph _ (h.below hb0))
  have HB0 := Lib.hid hb0
  clear ph h ho hx hb0
  simp only [stepFns] at PH HB0
  go_enter Try.func12, Try.ntmps12
  go_wp2_with fail
  refine ST.out.mono ?_
  rintro r w' ⟨rfl, rfl⟩
  go_wp2_with fail
  refine PH.out.mono ?_
  rintro r w1 ⟨rfl, hG⟩
  obtain ⟨x3, y3⟩ := hG.state
  have HG := Lib.hid (hG.after HB0.out)
  clear hG
  cases b with
  | true =>
    go_wp2
    go_end0
    exact ⟨rfl, HG.out⟩
  | false =>
    go_wp2
    go_end0
    exact ⟨rfl, HG.out.halt⟩
set_option maxHeartbeats 1000000 in
theorem tstep_4 (p q : Nat) (F : List Nat) (fv : Value) (e : Tx.E) (R : Rm.Ram) (ho : Tx.Ok e) (w : World) (h : SysF w p q F fv e R) (hl : R.log.length < 1000000000) (h1 : e.state = 1) (h3 : e.phase = 4) :
    Calls Try.prog 12 #[.pointer (some ⟨q, 0, none⟩)] w fun r w' => r = .returned (.tuple #[]) ∧ Goes p q F fv w (Tx.fin ((e, true))) (R) w' := by
  have hb0 : Below w.heap.size w (w.alloc (.cells (stepFns q).toArray 83)) := (Below.refl _ w).alloc (Nat.le_refl _) _
  have ph := fun W hs => twait_ok2 p q F fv e R W hs
  have ST := Lib.hid (tstate_ok p q F fv e R w h)
  rw [h1] at ST
  obtain ⟨c0, c1, c2, c3, c4, -⟩ := eng_cells h
  have hq := h.lt
  rw [h3] at c4
  obtain ⟨⟨e', b⟩, hx⟩ : ∃ x, ((e, true)) = x := ⟨_, rfl⟩
  rw [hx] at ph
  rw [hx]
  simp only at ph
  have PH := Lib.hid (ph _ (h.below hb0))
  have HB0 := Lib.hid hb0
  clear ph h ho hx hb0
  simp only [stepFns] at PH HB0
  go_enter Try.func12, Try.ntmps12
  go_wp2_with fail
  refine ST.out.mono ?_
  rintro r w' ⟨rfl, rfl⟩
  go_wp2_with fail
  refine PH.out.mono ?_
  rintro r w1 ⟨rfl, hG⟩
  obtain ⟨x3, y3⟩ := hG.state
  have HG := Lib.hid (hG.after HB0.out)
  clear hG
  cases b with
  | true =>
    go_wp2
    go_end0
    exact ⟨rfl, HG.out⟩
  | false =>
    go_wp2
    go_end0
    exact ⟨rfl, HG.out.halt⟩
set_option maxHeartbeats 1000000 in
theorem tstep_5 (p q : Nat) (F : List Nat) (fv : Value) (e : Tx.E) (R : Rm.Ram) (ho : Tx.Ok e) (w : World) (h : SysF w p q F fv e R) (hl : R.log.length < 1000000000) (h1 : e.state = 1) (h3 : e.phase = 5) :
    Calls Try.prog 12 #[.pointer (some ⟨q, 0, none⟩)] w fun r w' => r = .returned (.tuple #[]) ∧ Goes p q F fv w (Tx.fin (Tx.stampF e (Rm.is R (Tx.add e.at_ 12)))) (Rm.write R 2 (Tx.add e.at_ 12) e.time) w' := by
  have hb0 : Below w.heap.size w (w.alloc (.cells (stepFns q).toArray 83)) := (Below.refl _ w).alloc (Nat.le_refl _) _
  have ph := fun W hs => tstamp_ok p q F fv e R ho W hs hl
  have ST := Lib.hid (tstate_ok p q F fv e R w h)
  rw [h1] at ST
  obtain ⟨c0, c1, c2, c3, c4, -⟩ := eng_cells h
  have hq := h.lt
  rw [h3] at c4
  obtain ⟨⟨e', b⟩, hx⟩ : ∃ x, (Tx.stampF e (Rm.is R (Tx.add e.at_ 12))) = x := ⟨_, rfl⟩
  rw [hx] at ph
  rw [hx]
  simp only at ph
  have PH := Lib.hid (ph _ (h.below hb0))
  have HB0 := Lib.hid hb0
  clear ph h ho hx hb0
  simp only [stepFns] at PH HB0
  go_enter Try.func12, Try.ntmps12
  go_wp2_with fail
  refine ST.out.mono ?_
  rintro r w' ⟨rfl, rfl⟩
  go_wp2_with fail
  refine PH.out.mono ?_
  rintro r w1 ⟨rfl, hG⟩
  obtain ⟨x3, y3⟩ := hG.state
  have HG := Lib.hid (hG.after HB0.out)
  clear hG
  cases b with
  | true =>
    go_wp2
    go_end0
    exact ⟨rfl, HG.out⟩
  | false =>
    go_wp2
    go_end0
    exact ⟨rfl, HG.out.halt⟩
set_option maxHeartbeats 1000000 in
theorem tstep_6 (p q : Nat) (F : List Nat) (fv : Value) (e : Tx.E) (R : Rm.Ram) (ho : Tx.Ok e) (w : World) (h : SysF w p q F fv e R) (hl : R.log.length < 1000000000) (h1 : e.state = 1) (h3 : e.phase = 6) :
    Calls Try.prog 12 #[.pointer (some ⟨q, 0, none⟩)] w fun r w' => r = .returned (.tuple #[]) ∧ Goes p q F fv w (Tx.fin (Tx.backF e (Rm.is R e.at_))) (Rm.write R 2 e.at_ (Tx.backD e).word) w' := by
  have hb0 : Below w.heap.size w (w.alloc (.cells (stepFns q).toArray 83)) := (Below.refl _ w).alloc (Nat.le_refl _) _
  have ph := fun W hs => trelease_ok p q F fv e R ho W hs hl
  have ST := Lib.hid (tstate_ok p q F fv e R w h)
  rw [h1] at ST
  obtain ⟨c0, c1, c2, c3, c4, -⟩ := eng_cells h
  have hq := h.lt
  rw [h3] at c4
  obtain ⟨⟨e', b⟩, hx⟩ : ∃ x, (Tx.backF e (Rm.is R e.at_)) = x := ⟨_, rfl⟩
  rw [hx] at ph
  rw [hx]
  simp only at ph
  have PH := Lib.hid (ph _ (h.below hb0))
  have HB0 := Lib.hid hb0
  clear ph h ho hx hb0
  simp only [stepFns] at PH HB0
  go_enter Try.func12, Try.ntmps12
  go_wp2_with fail
  refine ST.out.mono ?_
  rintro r w' ⟨rfl, rfl⟩
  go_wp2_with fail
  refine PH.out.mono ?_
  rintro r w1 ⟨rfl, hG⟩
  obtain ⟨x3, y3⟩ := hG.state
  have HG := Lib.hid (hG.after HB0.out)
  clear hG
  cases b with
  | true =>
    go_wp2
    go_end0
    exact ⟨rfl, HG.out⟩
  | false =>
    go_wp2
    go_end0
    exact ⟨rfl, HG.out.halt⟩
theorem tstep_ok (p q : Nat) (F : List Nat) (fv : Value) (e : Tx.E) (R : Rm.Ram) (ho : Tx.Ok e) (w : World) (h : SysF w p q F fv e R) (hl : R.log.length < 1000000000) :
    Calls Try.prog 12 #[.pointer (some ⟨q, 0, none⟩)] w fun r w' => r = .returned (.tuple #[]) ∧ Goes p q F fv w (Tx.step (e, R)).1 (Tx.step (e, R)).2 w' := by
  unfold Tx.step
  by_cases h1 : e.state = 1
  · rw [if_pos h1]
    have hp := ho.phase
    unfold Tx.phased Tx.place
    rcases (show e.phase = 0 ∨ e.phase = 1 ∨ e.phase = 2 ∨ e.phase = 3 ∨ e.phase = 4 ∨ e.phase = 5 ∨ e.phase = 6 by omega) with h3 | h3 | h3 | h3 | h3 | h3 | h3
    · have := tstep_0 p q F fv e R ho w h hl h1 h3
      rw [← Tx.fetch_fin] at this
      simpa [h3] using this
    · have := tstep_1 p q F fv e R ho w h hl h1 h3
      rw [← Tx.wher_fin] at this
      simpa [h3] using this
    · have := tstep_2 p q F fv e R ho w h hl h1 h3
      rw [← Tx.size_fin] at this
      simpa [h3] using this
    · have := tstep_3 p q F fv e R ho w h hl h1 h3
      rw [← Tx.data_fin] at this
      simpa [h3] using this
    · have := tstep_4 p q F fv e R ho w h hl h1 h3
      simpa [h3, Tx.fin] using this
    · have := tstep_5 p q F fv e R ho w h hl h1 h3
      rw [← Tx.stamp_fin] at this
      simpa [h3] using this
    · have := tstep_6 p q F fv e R ho w h hl h1 h3
      rw [← Tx.back_fin] at this
      simpa [h3] using this
  · rw [if_neg h1]
    exact (tstep_off p q F fv e R w h h1).mono fun r w' ⟨a, b⟩ => ⟨a, F, fv, b ▸ h, b ▸ Mv.refl _ _⟩
end Go.Proofs.Ytkegljcndhckead
