import Derived.Test.YtkegljcndhckeadT0
import Derived.StillTailTactics
namespace Go.Proofs.Ytkegljcndhckead
open Go.RowKit
set_option linter.unusedVariables false
theorem goes_ram {p q : Nat} {F F1 : List Nat} {fv : Value} {w w1 : World} {e : Tx.E} {R : Rm.Ram} (h : SysF w1 p q F1 fv e R) (hM : Mv F F1 w w1) : Goes p q F fv w e R w1 := ⟨F1, fv, h, hM.wide⟩
theorem tstate_nil (w : World) : Calls Try.prog 14 #[.pointer none] w fun r w' => r = .returned (.int .i64 0) ∧ w = w' := by
  go_enter Try.func14, Try.ntmps14
  go_wp2
  go_ret
  exact ⟨rfl, rfl⟩
theorem tplace_nil (w : World) : Calls Try.prog 16 #[.pointer none] w fun r w' => r = .returned (.int .u32 0) ∧ w = w' := by
  go_enter Try.func16, Try.ntmps16
  go_wp2
  go_ret
  exact ⟨rfl, rfl⟩
theorem tstart_nil (w : World) : Calls Try.prog 10 #[.pointer none] w fun r w' => r = .returned (.tuple #[]) ∧ w = w' := by
  go_enter Try.func10, Try.ntmps10
  go_wp2
  go_end0
  exact ⟨rfl, rfl⟩
theorem tstop_nil (w : World) : Calls Try.prog 11 #[.pointer none] w fun r w' => r = .returned (.tuple #[]) ∧ w = w' := by
  go_enter Try.func11, Try.ntmps11
  go_wp2
  go_end0
  exact ⟨rfl, rfl⟩
theorem tstep_nil (w : World) : Calls Try.prog 12 #[.pointer none] w fun r w' => r = .returned (.tuple #[]) ∧ w = w' := by
  go_enter Try.func12, Try.ntmps12
  go_wp2_with fail
  refine (tstate_nil _).mono ?_
  rintro r w' ⟨rfl, rfl⟩
  go_wp2
  exact bodyPost_ret (v := .tuple #[]) (by simp [results, Try.results12, go_sem]) rfl ⟨rfl, rfl⟩
theorem tready_nil (w : World) : Calls Try.prog 13 #[.pointer none] w fun r w' => r = .returned (.tuple #[.slice none 0 0, .bool false]) ∧ w = w' := by
  go_enter Try.func13, Try.ntmps13
  go_wp2_with (go_at_call 14; refine (tstate_nil _).mono ?_; rintro r w' ⟨rfl, rfl⟩)
  go_ret2
  exact ⟨rfl, rfl⟩
theorem tdone_nil (t : Int) (w : World) : Calls Try.prog 15 #[.pointer none, .int .u32 t] w fun r w' => r = .returned (.int .i64 6) ∧ w = w' := by
  go_enter Try.func15, Try.ntmps15
  go_wp2_with (go_at_call 14; refine (tstate_nil _).mono ?_; rintro r w' ⟨rfl, rfl⟩)
  go_ret
  exact ⟨rfl, rfl⟩
theorem tstate_ok (p q : Nat) (F : List Nat) (fv : Value) (e : Tx.E) (R : Rm.Ram) (w : World) (h : SysF w p q F fv e R) : Calls Try.prog 14 #[.pointer (some ⟨q, 0, none⟩)] w fun r w' => r = .returned (.int .i64 e.state) ∧ w = w' := by
  obtain ⟨c0, c1, c2, c3, -⟩ := eng_cells h
  clear h
  go_enter Try.func14, Try.ntmps14
  go_wp2
  go_ret
  exact ⟨rfl, rfl⟩
theorem tplace_ok (p q : Nat) (F : List Nat) (fv : Value) (e : Tx.E) (R : Rm.Ram) (w : World) (h : SysF w p q F fv e R) : Calls Try.prog 16 #[.pointer (some ⟨q, 0, none⟩)] w fun r w' => r = .returned (.int .u32 e.at_) ∧ w = w' := by
  obtain ⟨c0, c1, c2, -⟩ := eng_cells h
  clear h
  go_enter Try.func16, Try.ntmps16
  go_wp2
  go_ret
  exact ⟨rfl, rfl⟩
theorem tnew_ok (p : Nat) (F : List Nat) (R : Rm.Ram) (b : Int) (w : World) (h : RamAt w p F R) : Calls Try.prog 19 #[.pointer (some ⟨p, 0, none⟩), .int .u32 b] w fun r w' => r = .returned (.pointer (some ⟨w.heap.size, 0, none⟩)) ∧ SysF w' p w.heap.size F (.slice none 0 0) (Tx.new b) R ∧ Below w.heap.size w w' := by
  have HR := Lib.hid h
  clear h
  go_enter Try.func19, Try.ntmps19
  go_wp2
  go_ret
  have hb : Below w.heap.size w (w.alloc (.cells (ecells p (Tx.new b) (.slice none 0 0)).toArray 82)) := (Below.refl _ w).alloc (Nat.le_refl _) _
  exact ⟨rfl, ⟨HR.out.below hb, heap_alloc_new w _, World.ownsRow_nil _ _ _ _, fun hq => Nat.lt_irrefl _ (HR.out.lt _ hq), fun b hb => by simp [Value.ownBlock] at hb⟩, hb⟩
set_option maxHeartbeats 1000000 in
theorem twher_ok (p q : Nat) (F : List Nat) (fv : Value) (e : Tx.E) (R : Rm.Ram) (ho : Tx.Ok e) (w : World) (h : SysF w p q F fv e R) (hl : R.log.length < 1000000000) :
    Calls Try.prog 39 #[.pointer (some ⟨q, 0, none⟩)] w fun r w' => r = .returned (.bool (Tx.wherF e (Rm.rdV R (Tx.add e.at_ 4)) (Rm.is R (Tx.add e.at_ 4))).2) ∧
      Goes p q F fv w (Tx.wherF e (Rm.rdV R (Tx.add e.at_ 4)) (Rm.is R (Tx.add e.at_ 4))).1 (Rm.read R 2 (Tx.add e.at_ 4)) w' := by
  obtain ⟨c0, c1, c2, -⟩ := eng_cells h
  obtain ⟨a1, a2⟩ := ho.at_
  have RD := Lib.hid (eread_ok p q F fv e R ((e.at_ + 4) % 4294967296) (by omega) w h hl)
  have HS := Lib.hid h
  have hadd : Tx.add e.at_ 4 = (e.at_ + 4) % 4294967296 := rfl
  rw [hadd]
  clear h hadd
  go_enter Try.func39, Try.ntmps39
  go_wp2_with fail
  refine RD.out.mono ?_
  rintro r w1 ⟨rfl, F1, hS, hM⟩
  obtain ⟨d0, d1, d2, d3, d4, d5, d6, d7, d8, d9, d10, d11, d12, d13, d14, d15, d16, d17⟩ := eng_cells hS
  have f := eng_free hS
  have HS1 := Lib.hid hS; have HM1 := Lib.hid hM
  clear hS hM
  go_wp2
  go_ret
  refine ⟨rfl, F1, fv, ?_, (HM1.out.wide.set_in (q_in q F fv) _ _).set_in (q_in q F fv) _ _⟩
  exact (HS1.out.set 11 _ { e with d := { e.d with at_ := Rm.rdV R ((e.at_ + 4) % 4294967296) } } rfl rfl).set 4 _ _ rfl rfl
theorem twait_ok (q : Nat) (w : World) : Calls Try.prog 42 #[.pointer (some ⟨q, 0, none⟩)] w fun r w' => r = .returned (.bool true) ∧ w = w' := by
  go_enter Try.func42, Try.ntmps42
  go_wp2
  go_ret
  exact ⟨rfl, rfl⟩
set_option maxRecDepth 100000 in
set_option maxHeartbeats 1000000 in
theorem tstamp_ok (p q : Nat) (F : List Nat) (fv : Value) (e : Tx.E) (R : Rm.Ram) (ho : Tx.Ok e) (w : World) (h : SysF w p q F fv e R) (hl : R.log.length < 1000000000) :
    Calls Try.prog 43 #[.pointer (some ⟨q, 0, none⟩)] w fun r w' => r = .returned (.bool (Tx.stampF e (Rm.is R (Tx.add e.at_ 12))).2) ∧
      Goes p q F fv w (Tx.stampF e (Rm.is R (Tx.add e.at_ 12))).1 (Rm.write R 2 (Tx.add e.at_ 12) e.time) w' := by
  have hadd : Tx.add e.at_ 12 = (e.at_ + 12) % 4294967296 := rfl
  rw [hadd]
  obtain ⟨a1, a2⟩ := ho.at_
  have hS := h.set 4 (.int .i64 6) { e with phase := 6 } rfl rfl
  have hM := (((Mv.refl (blks q F fv) w).set_in (q_in q F fv) 4 (.int .i64 6)))
  have wr := fun W hs => ewrite_ok p q F fv { e with phase := 6 } R ((e.at_ + 12) % 4294967296) e.time (by omega) ho.time W hs hl
  obtain ⟨c0, c1, c2, c3, c4, c5, c6, c7, c8, c9, c10, c11, c12, c13, c14, c15, c16, c17⟩ := eng_cells h
  have f := eng_free h
  have HS := Lib.hid hS; have HM := Lib.hid hM; have WR := Lib.hid wr
  clear h hS hadd hM wr
  go_enter Try.func43, Try.ntmps43
  go_wp2
  generalize w.setCell ⟨q, 4, none⟩ (.int .i64 6) = W at HS HM ⊢
  clear c0 c1 c2 c3 c4 c5 c6 c7 c8 c9 c10 c11 c12 c13 c14 c15 c16 c17 f
  obtain ⟨c0, c1, c2, c3, c4, c5, c6, c7, c8, c9, c10, c11, c12, c13, c14, c15, c16, c17⟩ := eng_cells HS.out
  refine wp_region_still_tail 10 (by kernel_rfl) (by kernel_rfl) ?_
  simp only [List.take_succ_cons, List.take_zero, List.drop_succ_cons, List.drop_zero]
  iterate 10 still_step
  refine wpStill_nil ?_
  go_wp2_with fail
  refine (WR.out _ ?hs).mono ?_
  case hs => first | exact HS.out.drew | exact HS.out
  rintro r w1 ⟨rfl, F1, hS1, hM1⟩
  have HS1 := Lib.hid hS1; have HM1 := Lib.hid hM1
  clear hS1 hM1
  go_wp2
  go_ret
  exact ⟨rfl, F1, fv, HS1.out, HM.out.drew.trans HM1.out.wide⟩
set_option maxHeartbeats 1000000 in
theorem tsize_ok (p q : Nat) (F : List Nat) (fv : Value) (e : Tx.E) (R : Rm.Ram) (ho : Tx.Ok e) (w : World) (h : SysF w p q F fv e R) (hl : R.log.length < 1000000000) :
    Calls Try.prog 40 #[.pointer (some ⟨q, 0, none⟩)] w fun r w' => r = .returned (.bool (Tx.sizeF e (Rm.rdV R (Tx.add e.at_ 8)) (Rm.is R (Tx.add e.at_ 8))).2) ∧
      Goes p q F fv w (Tx.sizeF e (Rm.rdV R (Tx.add e.at_ 8)) (Rm.is R (Tx.add e.at_ 8))).1 (Rm.read R 2 (Tx.add e.at_ 8)) w' := by
  obtain ⟨c0, c1, c2, -⟩ := eng_cells h
  obtain ⟨a1, a2⟩ := ho.at_
  have hfl := ho.fl
  have RD := Lib.hid (eread_ok p q F fv e R ((e.at_ + 8) % 4294967296) (by omega) w h hl)
  have HS := Lib.hid h
  have hadd : Tx.add e.at_ 8 = (e.at_ + 8) % 4294967296 := rfl
  rw [hadd]
  obtain ⟨v1, v2⟩ := h.ram.fit.rdV ((e.at_ + 8) % 4294967296)
  have hsz : ∀ v b, Tx.sizeF e v b = if b = false ∨ v = 0 ∨ 2048 < v ∨ 1518 < (e.frame.length : Int) + v then (e, false) else ({ e with d := { e.d with size := v }, phase := 3 }, true) := fun _ _ => rfl
  have HSZ := Lib.hid hsz
  obtain ⟨A, c, rfl⟩ := own_form h.own
  obtain ⟨V, hV⟩ : ∃ V, Rm.rdV R ((e.at_ + 8) % 4294967296) = V := ⟨_, rfl⟩
  obtain ⟨b, hb⟩ : ∃ b, Rm.is R ((e.at_ + 8) % 4294967296) = b := ⟨_, rfl⟩
  rw [hV, hb] at RD
  rw [hV] at v1 v2
  rw [hV, hb]
  obtain ⟨n, hn⟩ : ∃ n, e.frame.length = n := ⟨_, rfl⟩
  have HN := Lib.hid hn
  rw [hn] at hfl
  clear h hadd hV hb hsz hn
  by_cases k : b = false ∨ V = 0 ∨ 2048 < V ∨ 1518 < (n : Int) + V
  · have hz := HSZ.out V b
    rw [HN.out, if_pos k] at hz
    rw [hz]
    clear hz
    cases b with
    | false =>
      clear k
      go_enter Try.func40, Try.ntmps40
      go_wp2_with fail
      refine RD.out.mono ?_
      rintro r w1 ⟨rfl, F1, hS, hM⟩
      have HS1 := Lib.hid hS; have HM1 := Lib.hid hM
      clear hS hM
      go_wp2
      go_ret
      exact ⟨rfl, goes_ram HS1.out HM1.out⟩
    | true =>
      have k : V = 0 ∨ 2048 < V ∨ (V ≠ 0 ∧ V ≤ 2048 ∧ 1518 < (n : Int) + V) := by
        rcases k with k | k | k | k
        · cases k
        · exact .inl k
        · exact .inr (.inl k)
        · by_cases a : V = 0
          · exact .inl a
          · by_cases b : 2048 < V
            · exact .inr (.inl b)
            · exact .inr (.inr ⟨a, by omega, k⟩)
      rcases k with rfl | k | ⟨k1, k2, k3⟩
      · go_enter Try.func40, Try.ntmps40
        go_wp2_with fail
        refine RD.out.mono ?_
        rintro r w1 ⟨rfl, F1, hS, hM⟩
        have HS1 := Lib.hid hS; have HM1 := Lib.hid hM
        clear hS hM
        go_wp2
        go_ret
        exact ⟨rfl, goes_ram HS1.out HM1.out⟩
      · go_enter Try.func40, Try.ntmps40
        go_wp2_with fail
        refine RD.out.mono ?_
        rintro r w1 ⟨rfl, F1, hS, hM⟩
        have HS1 := Lib.hid hS; have HM1 := Lib.hid hM
        clear hS hM
        go_wp2
        go_ret
        exact ⟨rfl, goes_ram HS1.out HM1.out⟩
      · have k0 : (V == 0) = false := by simp [k1]
        clear k1
        go_enter Try.func40, Try.ntmps40
        go_wp2_with fail
        refine RD.out.mono ?_
        rintro r w1 ⟨rfl, F1, hS, hM⟩
        have HS1 := Lib.hid hS; have HM1 := Lib.hid hM
        obtain ⟨d0, d1, d2, d3, d4, d5, d6, d7, d8, d9, d10, d11, d12, d13, d14, d15, d16, d17⟩ := eng_cells hS
        rw [HN.out] at d16
        clear hS hM
        go_wp2
        go_ret
        exact ⟨rfl, goes_ram HS1.out HM1.out⟩
  · have hz := HSZ.out V b
    rw [HN.out, if_neg k] at hz
    rw [hz]
    clear hz
    obtain rfl : b = true := by cases b with
      | true => rfl
      | false => exact absurd (.inl rfl) k
    have k0 : (V == 0) = false := by
      rw [beq_eq_false_iff_ne]; exact fun a => k (.inr (.inl a))
    have k2 : V ≤ 2048 := by
      by_cases a : 2048 < V
      · exact absurd (.inr (.inr (.inl a))) k
      · omega
    have k3 : (n : Int) + V ≤ 1518 := by
      by_cases a : 1518 < (n : Int) + V
      · exact absurd (.inr (.inr (.inr a))) k
      · omega
    clear k
    go_enter Try.func40, Try.ntmps40
    go_wp2_with fail
    refine RD.out.mono ?_
    rintro r w1 ⟨rfl, F1, hS, hM⟩
    have HS1 := Lib.hid hS; have HM1 := Lib.hid hM
    obtain ⟨d0, d1, d2, d3, d4, d5, d6, d7, d8, d9, d10, d11, d12, d13, d14, d15, d16, d17⟩ := eng_cells hS
    have f := eng_free hS
    rw [HN.out] at d16
    clear hS hM
    go_wp2
    go_ret
    refine ⟨rfl, F1, _, ?_, (HM1.out.wide.set_in (q_in q F _) _ _).set_in (q_in q F _) _ _⟩
    exact (HS1.out.set 12 (.int .i64 V) { e with d := { e.d with size := V } } rfl rfl).set 4 (.int .i64 3) { e with d := { e.d with size := V }, phase := 3 } rfl rfl
end Go.Proofs.Ytkegljcndhckead
