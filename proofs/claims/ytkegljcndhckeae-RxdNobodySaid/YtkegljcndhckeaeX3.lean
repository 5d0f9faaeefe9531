import Derived.Test.YtkegljcndhckeaeX2
import Derived.Test.YtkegljcndhckeaeWO
import Derived.Deep.RegionHeld3
namespace Go.Proofs.Ytkegljcndhckeae
open Go.RowKit
set_option linter.unusedVariables false
theorem addr_at (g o i : Nat) : (⟨g, o, none⟩ : Addr).add i = ⟨g, o + i, none⟩ := by unfold Addr.add; split <;> simp_all
/-- A part of a frame reads as it should. -/
theorem rd_part {w : World} {g c s n : Nat} {xs : List Int} (h : w.ownsRow 0 5 1 (.slice (some ⟨g, 0, none⟩) xs.length c) xs.length (nums .u8 xs)) (hn : s + n ≤ xs.length) :
    Rd w (.slice (some ⟨g, s, none⟩) n (c - s)) (nums .u8 ((xs.drop s).take n)) := by
  have hl : (nums .u8 ((xs.drop s).take n)).length = n := by rw [nums_len, List.length_take, List.length_drop]; omega
  obtain ⟨A, c', hv, h1, h2, h3⟩ := Rd.of_own h
  injection hv with hA _ hc
  subst hA hc
  rw [nums_len] at h1
  refine ⟨some ⟨g, s, none⟩, c - s, by rw [hl], by rw [hl]; omega, by unfold maxLen at *; omega, fun i u hu => ⟨_, rfl, ?_⟩⟩
  have hi : i < n := by
    rcases Nat.lt_or_ge i n with h | h
    · exact h
    · rw [List.getElem?_eq_none (by rw [hl]; exact h)] at hu; cases hu
  have hu2 : (nums .u8 xs)[s + i]? = some u := by
    rw [← hu]
    simp [nums, hi]
  obtain ⟨ad, ha, hc⟩ := h3 (s + i) u hu2
  injection ha with ha
  subst ha
  rw [show (⟨g, s, none⟩ : Addr).add i = (⟨g, 0, none⟩ : Addr).add (s + i) by rw [addr_at, addr_at, Nat.zero_add]]
  exact hc
set_option maxRecDepth 100000 in
theorem run_part (g s n L c : Nat) (h1 : s + n ≤ c) (h2 : 1 ≤ n) (W : World) : (Instr.slice 22 (.slice (some ⟨g, 0, none⟩) L c) (some (.int .i64 s)) (some (.int .i64 ((s : Int) + n))) none).run Try.prog W = .ok (.slice (some ⟨g, s, none⟩) n (c - s)) W := by
  have hcs : ¬ c = s := by omega
  have e1 : ((s : Int) + (n : Int)).toNat = s + n := by omega
  rw [run_slice_lh (P := Try.prog) W 22 (some ⟨g, 0, none⟩) L c Try.underlying22 .i64 .i64 s ((s : Int) + n) (by omega) (by omega) (by omega)]
  have hz : (sizeOf (Try.prog.elem 22)).run Try.prog W = .ok 1 W := by kernel_rfl
  rw [hz]
  simp [Result.andThen, sliced, e1, hcs, addr_at]
set_option maxRecDepth 100000 in
set_option maxHeartbeats 2000000 in
theorem xdata_ok (p q : Nat) (F : List Nat) (fv : Value) (e : Rx.E) (R : Rm.Ram) (ho : Rx.Ok e) (h3 : e.phase = 3) (hne : e.frame ≠ []) (w : World) (h : SysF w p q F fv e R) (hl : R.log.length < 1000000000) :
    Calls Try.prog 42 #[.pointer (some ⟨q, 0, none⟩)] w fun r w' => r = .returned (.bool (Rx.dataF e (Rm.is R (Rx.add e.d.at_ e.put))).2) ∧ Goes p q F fv w (Rx.dataF e (Rm.is R (Rx.add e.d.at_ e.put))).1 (Rm.write R 3 (Rx.add e.d.at_ e.put) (Rx.word e)) w' := by
  obtain ⟨c0, c1, c2, c3, c4, c5, c6, c7, c8, c9, c10, c11, c12, c13, c14, c15, c16, c17, c18⟩ := eng_cells h
  obtain ⟨a1, a2⟩ := ho.dat
  obtain ⟨g1, g2⟩ := ho.put
  obtain ⟨s1, s2⟩ := ho.dsize
  obtain ⟨p1, p2, p3⟩ := ho.part h3 hne
  have hfl := ho.fl
  have hwl := Rx.word_lt e ho
  obtain ⟨g, c, rfl, -, hgl⟩ := h.own.form (by cases hf : e.frame with | nil => exact absurd hf hne | cons => simp)
  have wr := fun W hs => ewrite_ok p q F (.slice (some ⟨g, 0, none⟩) e.frame.length c) e R ((e.d.at_ + e.put) % 4294967296) (Rx.word e) (by omega) hwl W hs hl
  have hadd : Rx.add e.d.at_ e.put = (e.d.at_ + e.put) % 4294967296 := rfl
  rw [hadd]
  obtain ⟨b, hb⟩ : ∃ b, Rm.is R ((e.d.at_ + e.put) % 4294967296) = b := ⟨_, rfl⟩
  rw [hb] at wr
  rw [hb]
  obtain ⟨s, hs⟩ := Int.eq_ofNat_of_zero_le ho.sent.1
  have hss := ho.sent.2
  have hcap : e.frame.length ≤ c ∧ c ≤ maxLen := by
    obtain ⟨A, c', hv, h1, h2, -⟩ := Rd.of_own h.own
    injection hv with _ _ hc
    subst hc
    rw [nums_len] at h1
    exact ⟨h1, h2⟩
  obtain ⟨n, hn⟩ := Int.eq_ofNat_of_zero_le (show 0 ≤ Rx.part e by omega)
  have hpart : Rx.part e = min 4 ((e.frame.length : Int) - e.sent) := rfl
  have HPN := Lib.hid hn
  rw [hs] at hpart p3 hss
  have HN := Lib.hid (hpart.symm.trans hn)
  rw [hn] at p1 p2 p3
  have hrd := fun W (hb : Below w.heap.size w W) => Rd.below (rd_part h.own (s := s) (n := n) (by omega)) hb
  have hword : Rx.word e = Wd.ofL ((e.frame.drop s).take n) := by unfold Rx.word; rw [hn, hs]; rfl
  have hby : Wd.Bytes ((e.frame.drop s).take n) := fun x hx => ho.fb x (List.mem_of_mem_drop (List.mem_of_mem_take hx))
  have WOF := Lib.hid (fun W hb => wof_ok _ _ W (hrd W hb) hby)
  rw [hword] at wr
  rw [hword]
  rw [hs] at c15
  have HSE := Lib.hid hs
  have WR := Lib.hid wr
  have HS := Lib.hid h
  have HARG := Lib.hid (show IntKind.u32.wrap (e.d.at_ + IntKind.u32.wrap e.put) = (e.d.at_ + e.put) % 4294967296 by rw [IntKind.wrap_u32, IntKind.wrap_u32]; omega)
  unfold maxLen at hcap
  obtain ⟨hc1, hc2⟩ := hcap
  obtain ⟨L, hL⟩ : ∃ L, e.frame.length = L := ⟨_, rfl⟩
  have HLL := Lib.hid hL
  rw [hL] at hc1 hfl p3 c17 HN HS WR ⊢
  clear h hadd hb wr hwl hs hn hpart hrd hword hby hL
  have hw4 : IntKind.i64.wrap ((L : Int) - s) = (L : Int) - s := IntWalk.i64_in _ (by omega)
  have hw5 : IntKind.i64.wrap ((s : Int) + n) = (s : Int) + n := IntWalk.i64_in _ (by omega)
  by_cases k4 : (4 : Int) ≤ L - s
  · obtain rfl : n = 4 := by have := HN.out; omega
    go_enter Try.func42, Try.ntmps42
    go_wp2
    go_quiet (fail)
    go_wp2
    generalize hW : w.drewN _ = W
    have hbW : Below w.heap.size w W := by rw [← hW]; exact below_drewN (Below.refl _ _) _
    have HBW := Lib.hid hbW
    have hSW := HS.out.below hbW
    clear c0 c1 c2 c3 c4 c5 c6 c7 c8 c9 c10 c11 c12 c13 c14 c15 c16 c17 c18 hW hbW
    obtain ⟨c0, c1, c2, c3, c4, c5, c6, c7, c8, c9, c10, c11, c12, c13, c14, c15, c16, c17, c18⟩ := eng_cells hSW
    rw [HSE.out] at c15
    have HSW := Lib.hid hSW
    clear hSW
    have hw6 : IntKind.i64.wrap ((s : Int) + 4) = (s : Int) + 4 := IntWalk.i64_in _ (by omega)
    have hsl := fun W => (show (Instr.slice 22 (.slice (some ⟨g, 0, none⟩) L c) (some (.int .i64 s)) (some (.int .i64 ((s : Int) + 4))) none).run Try.prog W = .ok (.slice (some ⟨g, s, none⟩) 4 (c - s)) W from run_part g s 4 L c (by omega) (by omega) W)
    go_region_held3 (fun w' => w'.cell? ⟨q, 11, none⟩ = some (.int .u32 e.d.at_) ∧ w'.cell? ⟨q, 14, none⟩ = some (.int .i64 e.put) ∧ w'.cell? ⟨q, 15, none⟩ = some (.int .i64 s) ∧ w'.cell? ⟨q, 17, none⟩ = some (.slice (some ⟨g, 0, none⟩) L c)) (go_keep) (first | (go_at_call 61; refine (WOF.out _ HBW.out.drew).mono ?_; rintro r w' ⟨rfl, rfl⟩) | (go_at_call 60; (try rw [HARG.out]); refine (WR.out _ HSW.out.drew).mono ?_; rintro r w1 ⟨rfl, F1, hS1, hM1⟩; obtain ⟨-, -, -, -, -, -, -, -, -, -, -, x11, -, -, x14, x15, -, x17, -⟩ := eng_cells hS1; rw [HSE.out] at x15; have HS1 := Lib.hid hS1; have HM1 := Lib.hid (Mv.trans (Mv.of_below (F := F) HBW.out.drew) hM1); clear hS1 hM1))
    clear c0 c1 c2 c3 c4 c5 c6 c7 c8 c9 c10 c11 c12 c13 c14 c15 c16 c17 c18 x11 x14 x15 x17
    obtain ⟨c0, c1, c2, c3, c4, c5, c6, c7, c8, c9, c10, c11, c12, c13, c14, c15, c16, c17, c18⟩ := eng_cells HS1.out
    have f := eng_free HS1.out
    rw [HSE.out] at c15
    have hse1 : (Rx.data1 e).sent = (s : Int) + 4 := by show e.sent + Rx.part e = _; rw [HPN.out, HSE.out]; try rfl
    have hd1 : Rx.data1 e = { e with sent := (s : Int) + 4, put := e.put + 4 } := by unfold Rx.data1; rw [HPN.out, HSE.out]; try rfl
    have HS2 := Lib.hid ((HS1.out.set 15 (.int .i64 ((s : Int) + 4)) { e with sent := (s : Int) + 4 } rfl rfl).set 14 (.int .i64 (e.put + 4)) { e with sent := (s : Int) + 4, put := e.put + 4 } rfl rfl)
    have HM2 := Lib.hid (((HM1.out.wide (q := q) (fv := .slice (some ⟨g, 0, none⟩) L c)).set_in (q_in q F (.slice (some ⟨g, 0, none⟩) L c)) 15 (.int .i64 ((s : Int) + 4))).set_in (q_in q F (.slice (some ⟨g, 0, none⟩) L c)) 14 (.int .i64 (e.put + 4)))
    have hdf : Rx.dataF e true = (if (Rx.data1 e).sent = (L : Int) then { Rx.data1 e with phase := 4 } else if (Rx.data1 e).put = e.d.size then { Rx.data1 e with phase := 5 } else Rx.data1 e, true) := by rw [← HLL.out]; rfl
    cases b with
    | false =>
      clear hse1 hd1 hdf
      go_wp2
      go_ret
      exact ⟨rfl, goes_ram HS1.out HM1.out⟩
    | true =>
      by_cases m1 : (s : Int) + 4 = (L : Int)
      · have m1' : ((s : Int) + 4 == (L : Int)) = true := by rw [beq_iff_eq]; exact m1
        rw [hse1, if_pos m1, hd1] at hdf
        have HDF := Lib.hid hdf
        clear hse1 hd1 hdf m1
        go_wp2
        go_quiet (fail)
        go_wp2
        go_ret
        rw [HDF.out]
        exact ⟨rfl, F1, _, (HS2.out.drewN _).set 4 (.int .i64 4) { e with sent := (s : Int) + 4, put := e.put + 4, phase := 4 } rfl rfl, (HM2.out.drewN _).set_in (q_in q F _) _ _⟩
      · have m1' : ((s : Int) + 4 == (L : Int)) = false := by rw [beq_eq_false_iff_ne]; exact m1
        rw [hse1, if_neg m1, hd1] at hdf
        by_cases m2 : e.put + 4 = e.d.size
        · have m2' : (e.put + 4 == e.d.size) = true := by rw [beq_iff_eq]; exact m2
          have hdf2 := hdf.trans (congrArg (fun x => (x, true)) (if_pos m2))
          have HDF := Lib.hid hdf2
          clear hse1 hd1 hdf hdf2 m1 m2
          go_wp2
          go_quiet (fail)
          go_wp2
          go_quiet (fail)
          go_wp2
          go_ret
          rw [HDF.out]
          exact ⟨rfl, F1, _, (HS2.out.drewN _).set 4 (.int .i64 5) { e with sent := (s : Int) + 4, put := e.put + 4, phase := 5 } rfl rfl, (HM2.out.drewN _).set_in (q_in q F _) _ _⟩
        · have m2' : (e.put + 4 == e.d.size) = false := by rw [beq_eq_false_iff_ne]; exact m2
          have hdf2 := hdf.trans (congrArg (fun x => (x, true)) (if_neg m2))
          have HDF := Lib.hid hdf2
          clear hse1 hd1 hdf hdf2 m1 m2
          go_wp2
          go_quiet (fail)
          go_wp2
          go_quiet (fail)
          go_wp2
          go_ret
          rw [HDF.out]
          exact ⟨rfl, F1, _, (HS2.out.drewN _).drewN _, (HM2.out.drewN _).drewN _⟩
  · have hn : (L : Int) - s = (n : Int) := by have := HN.out; omega
    have k5 : (n : Int) < 4 := by omega
    clear k4
    go_enter Try.func42, Try.ntmps42
    go_wp2
    go_quiet (fail)
    go_wp2
    generalize hW : w.drewN _ = W
    have hbW : Below w.heap.size w W := by rw [← hW]; exact below_drewN (Below.refl _ _) _
    have HBW := Lib.hid hbW
    have hSW := HS.out.below hbW
    clear c0 c1 c2 c3 c4 c5 c6 c7 c8 c9 c10 c11 c12 c13 c14 c15 c16 c17 c18 hW hbW
    obtain ⟨c0, c1, c2, c3, c4, c5, c6, c7, c8, c9, c10, c11, c12, c13, c14, c15, c16, c17, c18⟩ := eng_cells hSW
    rw [HSE.out] at c15
    have HSW := Lib.hid hSW
    clear hSW
    have hsl := run_part g s n L c (by omega) (by omega)
    go_region_held3 (fun w' => w'.cell? ⟨q, 11, none⟩ = some (.int .u32 e.d.at_) ∧ w'.cell? ⟨q, 14, none⟩ = some (.int .i64 e.put) ∧ w'.cell? ⟨q, 15, none⟩ = some (.int .i64 s) ∧ w'.cell? ⟨q, 17, none⟩ = some (.slice (some ⟨g, 0, none⟩) L c)) (go_keep) (first | (go_at_call 61; refine (WOF.out _ HBW.out.drew).mono ?_; rintro r w' ⟨rfl, rfl⟩) | (go_at_call 60; (try rw [HARG.out]); refine (WR.out _ HSW.out.drew).mono ?_; rintro r w1 ⟨rfl, F1, hS1, hM1⟩; obtain ⟨-, -, -, -, -, -, -, -, -, -, -, x11, -, -, x14, x15, -, x17, -⟩ := eng_cells hS1; rw [HSE.out] at x15; have HS1 := Lib.hid hS1; have HM1 := Lib.hid (Mv.trans (Mv.of_below (F := F) HBW.out.drew) hM1); clear hS1 hM1))
    clear c0 c1 c2 c3 c4 c5 c6 c7 c8 c9 c10 c11 c12 c13 c14 c15 c16 c17 c18 x11 x14 x15 x17
    obtain ⟨c0, c1, c2, c3, c4, c5, c6, c7, c8, c9, c10, c11, c12, c13, c14, c15, c16, c17, c18⟩ := eng_cells HS1.out
    have f := eng_free HS1.out
    rw [HSE.out] at c15
    have hse1 : (Rx.data1 e).sent = (s : Int) + (n : Int) := by show e.sent + Rx.part e = _; rw [HPN.out, HSE.out]; try rfl
    have hd1 : Rx.data1 e = { e with sent := (s : Int) + (n : Int), put := e.put + 4 } := by unfold Rx.data1; rw [HPN.out, HSE.out]; try rfl
    have HS2 := Lib.hid ((HS1.out.set 15 (.int .i64 ((s : Int) + (n : Int))) { e with sent := (s : Int) + (n : Int) } rfl rfl).set 14 (.int .i64 (e.put + 4)) { e with sent := (s : Int) + (n : Int), put := e.put + 4 } rfl rfl)
    have HM2 := Lib.hid (((HM1.out.wide (q := q) (fv := .slice (some ⟨g, 0, none⟩) L c)).set_in (q_in q F (.slice (some ⟨g, 0, none⟩) L c)) 15 (.int .i64 ((s : Int) + (n : Int)))).set_in (q_in q F (.slice (some ⟨g, 0, none⟩) L c)) 14 (.int .i64 (e.put + 4)))
    have hdf : Rx.dataF e true = (if (Rx.data1 e).sent = (L : Int) then { Rx.data1 e with phase := 4 } else if (Rx.data1 e).put = e.d.size then { Rx.data1 e with phase := 5 } else Rx.data1 e, true) := by rw [← HLL.out]; rfl
    cases b with
    | false =>
      clear hse1 hd1 hdf
      go_wp2
      go_ret
      exact ⟨rfl, goes_ram HS1.out HM1.out⟩
    | true =>
      have m1 : (s : Int) + (n : Int) = (L : Int) := by omega
      have m1' : ((s : Int) + (n : Int) == (L : Int)) = true := by rw [beq_iff_eq]; exact m1
      rw [hse1, if_pos m1, hd1] at hdf
      have HDF := Lib.hid hdf
      clear hse1 hd1 hdf m1
      go_wp2
      go_quiet (fail)
      go_wp2
      go_ret
      rw [HDF.out]
      exact ⟨rfl, F1, _, (HS2.out.drewN _).set 4 (.int .i64 4) { e with sent := (s : Int) + (n : Int), put := e.put + 4, phase := 4 } rfl rfl, (HM2.out.drewN _).set_in (q_in q F _) _ _⟩
end Go.Proofs.Ytkegljcndhckeae
