import Derived.Test.YtkegljcndhckeadT2
import Derived.Test.YtkegljcndhckeadWB
import Derived.Deep.RegionHeld3
import Derived.Deep.RegionLaw
namespace Go.Proofs.Ytkegljcndhckead
open Go.RowKit
set_option linter.unusedVariables false
theorem info_u8t : (Try.prog.info? 5).map (fun i => (i.zero, i.size, i.bytes)) = some (some (.int .u8 0), 1, 1) := by kernel_rfl
theorem tadd_eq (a b : Int) (hb : 0 ≤ b ∧ b ≤ 2048) : Tx.add a b = (a + b) % 4294967296 := rfl
/-- The frame has grown. -/
theorem SysF.grown {w w' : World} {p q : Nat} {F : List Nat} {fv fv' : Value} {e : Tx.E} {R : Rm.Ram} {xs : List Int} (h : SysF w p q F fv e R) (hown : w'.ownsRow 0 5 1 fv' xs.length (nums .u8 xs)) (hg : w.grownBy w' fv.ownBlock) (hat : fv'.ownBlock = fv.ownBlock ∨ ∃ b, fv'.ownBlock = some b ∧ w.heap.size ≤ b) :
    SysF (w'.setCell ⟨q, 16, none⟩ fv') p q F fv' { e with frame := xs } R := by
  have hq : w'.heap[q]? = some (.cells (ecells p e fv).toArray 82 (0, 0)) := (hg.block q h.lt (fun e' => h.frame_ne q e'.symm rfl)).trans h.raw
  have hne : ∀ g, fv'.ownBlock = some g → g ≠ q := fun g hg' e' => by
    subst e'
    rcases hat with hat | ⟨b, hb, hlt⟩
    · exact h.frame_ne g (hat ▸ hg') rfl
    · rw [hg'] at hb
      injection hb with hb
      have := h.lt
      omega
  refine ⟨(h.ram.grown hg h.fF).keep_of fun b hb => far_heap (fun e => h.qF (by rw [← e]; exact hb)) _ _, ?_, own_keep hown fun g hg' => far_heap (hne g hg') _ _, h.qF, fun b hb hin => ?_⟩
  · rw [set_heap hq]; rfl
  · rcases hat with hat | ⟨c, hc, hlt⟩
    · exact h.fF b (hat ▸ hb) hin
    · rw [hb] at hc
      injection hc with hc
      have := h.ram.lt b hin
      omega
theorem Mv.frame {w0 w w' : World} {q : Nat} {F0 F : List Nat} {fv0 fv fv' : Value} (h : Mv (blks q F0 fv0) (blks q F fv) w0 w) (hg : w.grownBy w' fv.ownBlock) (hat : fv'.ownBlock = fv.ownBlock ∨ ∃ b, fv'.ownBlock = some b ∧ w.heap.size ≤ b) (hf : ∀ b, fv.ownBlock = some b → b ∈ blks q F0 fv0 ∨ w0.heap.size ≤ b) :
    Mv (blks q F0 fv0) (blks q F fv') w0 w' := by
  refine ⟨hg.os.trans h.os, hg.tape.trans h.tape, hg.output.trans h.output, Nat.le_trans h.size hg.size, fun k hk hn => ?_, fun b hb => ?_⟩
  · refine (hg.block k (Nat.lt_of_lt_of_le hk h.size) (fun e => ?_)).trans (h.block k hk hn)
    rcases hf k e.symm with h' | h'
    · exact hn h'
    · omega
  · simp only [blks, List.mem_append, List.mem_cons, Option.mem_toList] at hb
    rcases hb with hb | hb | hb
    · exact h.new b (by simp [blks, hb])
    · exact h.new b (by simp [blks, hb])
    · rcases hat with hat | ⟨c, hc, hlt⟩
      · exact h.new b (by rw [hat] at hb; simp only [blks, List.mem_append, List.mem_cons, Option.mem_toList]; exact .inr (.inr hb))
      · rw [hb] at hc
        injection hc with hc
        have := h.size
        right; omega
/-- A call of a Go function of one argument, as a step of a region that draws its order: what it comes to is known. -/
theorem step_call1 {P : Program} {o : Oper} {ops : Array Oper} {a : Act} {w w1 : World} {K : Act → World → Prop} {Q : Exit → Act → World → Prop} {E : Prop} {v u : Value} {f : Nat} (hcf : ∀ us w, (callFunc f us).run P w = .ok (.enter f us) w) (hgd : o.guard = none) (x : Operand) (t : TypeId)
    (hop : o.op = .call { callee := .value (.func f), args := #[x], argTypes := #[t] }) (hx : a.eval x = u) (hc : Calls P f #[u] w fun e w' => e = .returned v ∧ w1 = w') (h : K (a.put o.dst v) w1) :
    if Region.wanted o (yielded ops a.tmps) = true then Oper.wp P o a w K Q else E := by
  have hw : Region.wanted o (yielded ops a.tmps) = true := by simp [Region.wanted, hgd]
  rw [if_pos hw]
  unfold Oper.wp execOp
  have hf : a.eval (.func f) = .func (.func f) #[] #[] := rfl
  simp only [hop, resolve, invoke, Sem.run_bind, List.map_toArray, List.map_cons, List.map_nil, hx, hf, Deferred.ofValue, Result.andThen_ok, Sem.run_pure]
  simp [hcf, Oper.upon]
  refine hc.mono fun e w' ⟨he, hw'⟩ => ?_
  subst he hw'
  exact h
theorem cf_bytes (us : Array Value) (w : World) : (callFunc 61 us).run Try.prog w = .ok (.enter 61 us) w := by kernel_rfl
/-- The append of a word's bytes to the frame. -/
theorem app_frame {W : World} {p q : Nat} {F : List Nat} {fv : Value} {e : Tx.E} {R : Rm.Ram} (h : SysF W p q F fv e R) (hfl : e.frame.length ≤ 1518) (V : Int) (n : Nat) (hn : n ≤ 4) :
    ∃ fv' w', (Builtin.append_ #[25, 25] 25 #[fv, .slice (some ⟨W.heap.size, 0, none⟩) n 4]).run Try.prog (W.alloc (.cells (nums .u8 (Wd.bytesL V)).toArray 5)).drew = .ok fv' w' ∧
      SysF (w'.setCell ⟨q, 16, none⟩ fv') p q F fv' { e with frame := e.frame ++ (Wd.bytesL V).take n } R ∧ Mv (blks q F fv) (blks q F fv') W (w'.setCell ⟨q, 16, none⟩ fv') ∧ w'.cell? ⟨q, 16, none⟩ = some fv ∧ w'.frozen? ⟨q, 16, none⟩ = false := by
  obtain ⟨i0, hi, hz0, hz1, hz2⟩ := info_parts info_u8t
  have hb : Below W.heap.size W (W.alloc (.cells (nums .u8 (Wd.bytesL V)).toArray 5)).drew := ((Below.refl _ W).alloc (Nat.le_refl _) _).drew
  have hS := h.below hb
  have hlen : (nums .u8 ((Wd.bytesL V).take n)).length = n * 1 := by rw [nums_len, List.length_take, Tx.bytesL_len]; omega
  have hnew : ∀ j u, (nums .u8 ((Wd.bytesL V).take n))[j]? = some u → ((W.alloc (.cells (nums .u8 (Wd.bytesL V)).toArray 5)).drew).cell? ((⟨W.heap.size, 0, none⟩ : Addr).add j) = some u := by
    intro j u hu
    refine World.news_of_block (w := W.alloc (.cells (nums .u8 (Wd.bytesL V)).toArray 5)) (cs := (nums .u8 (Wd.bytesL V)).toArray) (t := 5) (fr := (0, 0)) (heap_alloc_new W _) j u ?_
    rw [show nums .u8 ((Wd.bytesL V).take n) = (nums .u8 (Wd.bytesL V)).take n by simp [nums, List.map_take]] at hu
    rw [List.getElem?_take] at hu
    split at hu
    · simpa using hu
    · cases hu
  obtain ⟨fv', w', hrun, hown', hgrow, -, hat⟩ := run_append_own_at (P := Try.prog) _ 0 25 25 5 i0 _ 1 1 Try.underlying25 hi hz0 hz1 hz2 rfl (by decide) _ _ _ hS.own ⟨W.heap.size, 0, none⟩ n 4 (nums .u8 ((Wd.bytesL V).take n)) hlen hnew (nums_one _ _) (by simp only [maxLen]; omega) (by omega) (Nat.zero_le _)
  have hat' : fv'.ownBlock = fv.ownBlock ∨ ∃ b, fv'.ownBlock = some b ∧ ((W.alloc (.cells (nums .u8 (Wd.bytesL V)).toArray 5)).drew).heap.size ≤ b := by
    rcases hat with hat | hat
    · exact .inl hat
    · exact .inr ⟨_, hat, Nat.le_refl _⟩
  have hlx : (e.frame ++ (Wd.bytesL V).take n).length = e.frame.length + n := by rw [List.length_append, List.length_take, Tx.bytesL_len]; omega
  have hown2 : w'.ownsRow 0 5 1 fv' (e.frame ++ (Wd.bytesL V).take n).length (nums .u8 (e.frame ++ (Wd.bytesL V).take n)) := by
    rw [hlx, nums_app]
    exact hown'
  have hq : w'.heap[q]? = some (.cells (ecells p e fv).toArray 82 (0, 0)) := (hgrow.block q hS.lt (fun e' => hS.frame_ne q e'.symm rfl)).trans hS.raw
  refine ⟨fv', w', hrun, hS.grown hown2 hgrow hat', ?_, (cell_heap hq 16).trans rfl, free_heap hq 16⟩
  have hm : Mv (blks q F fv) (blks q F fv) W (W.alloc (.cells (nums .u8 (Wd.bytesL V)).toArray 5)).drew := Mv.of_below hb
  exact (hm.frame hgrow hat' (fun b hb => .inl (by simp [blks, hb]))).set_in (q_in q F fv) _ _
set_option maxRecDepth 100000 in
set_option maxHeartbeats 2000000 in
theorem tdata_no (p q : Nat) (F : List Nat) (fv : Value) (e : Tx.E) (R : Rm.Ram) (ho : Tx.Ok e) (w : World) (h : SysF w p q F fv e R) (hl : R.log.length < 1000000000) (hb : Rm.is R (Tx.add e.d.at_ e.got) = false) :
    Calls Try.prog 41 #[.pointer (some ⟨q, 0, none⟩)] w fun r w' => r = .returned (.bool false) ∧ Goes p q F fv w e (Rm.read R 2 (Tx.add e.d.at_ e.got)) w' := by
  obtain ⟨c0, c1, c2, c3, c4, c5, c6, c7, c8, c9, c10, c11, c12, c13, c14, c15, c16, c17⟩ := eng_cells h
  obtain ⟨a1, a2⟩ := ho.dat
  obtain ⟨g1, g2⟩ := ho.got
  have rd := fun W hs => eread_ok p q F fv e R ((e.d.at_ + e.got) % 4294967296) (by omega) W hs hl
  have hadd : Tx.add e.d.at_ e.got = (e.d.at_ + e.got) % 4294967296 := rfl
  rw [hadd] at hb
  rw [hb] at rd
  rw [hadd]
  have RD := Lib.hid rd
  have HS := Lib.hid h
  have HARG := Lib.hid (show IntKind.u32.wrap (e.d.at_ + IntKind.u32.wrap e.got) = (e.d.at_ + e.got) % 4294967296 by rw [IntKind.wrap_u32, IntKind.wrap_u32]; omega)
  clear h hadd rd hb
  go_enter Try.func41, Try.ntmps41
  go_wp2
  go_region_held3 (fun w' => w'.cell? ⟨q, 11, none⟩ = some (.int .u32 e.d.at_) ∧ w'.cell? ⟨q, 14, none⟩ = some (.int .i64 e.got)) (go_keep) ((go_at_call 59; rw [HARG.out]; refine (RD.out _ HS.out.drew).mono ?_; rintro r w1 ⟨rfl, F1, hS1, hM1⟩; obtain ⟨-, -, -, -, -, -, -, -, -, -, -, x11, -, -, x14, -, -, -⟩ := eng_cells hS1; have HG := Lib.hid (goes_ram hS1 ((Mv.refl F w).drew.trans hM1)); clear hS1 hM1))
  all_goals go_wp2
  all_goals go_ret
  all_goals exact ⟨rfl, HG.out⟩
set_option maxRecDepth 100000 in
set_option maxHeartbeats 2000000 in
theorem tdata_yes (p q : Nat) (F : List Nat) (fv : Value) (e : Tx.E) (R : Rm.Ram) (ho : Tx.Ok e) (h3 : e.phase = 3) (w : World) (h : SysF w p q F fv e R) (hl : R.log.length < 1000000000) (hb : Rm.is R (Tx.add e.d.at_ e.got) = true) :
    Calls Try.prog 41 #[.pointer (some ⟨q, 0, none⟩)] w fun r w' => r = .returned (.bool true) ∧ Goes p q F fv w (Tx.dataF e (Rm.rdV R (Tx.add e.d.at_ e.got)) true).1 (Rm.read R 2 (Tx.add e.d.at_ e.got)) w' := by
  obtain ⟨c0, c1, c2, c3, c4, c5, c6, c7, c8, c9, c10, c11, c12, c13, c14, c15, c16, c17⟩ := eng_cells h
  obtain ⟨a1, a2⟩ := ho.dat
  obtain ⟨g1, g2⟩ := ho.got
  obtain ⟨s1, s2⟩ := ho.dsize
  obtain ⟨p1, p2, p3⟩ := ho.part h3
  have hfl := ho.fl
  have rd := fun W hs => eread_ok p q F fv e R ((e.d.at_ + e.got) % 4294967296) (by omega) W hs hl
  have hadd : Tx.add e.d.at_ e.got = (e.d.at_ + e.got) % 4294967296 := rfl
  have hvf := h.ram.fit.rdV ((e.d.at_ + e.got) % 4294967296)
  rw [hadd] at hb
  rw [hb] at rd
  rw [hadd]
  obtain ⟨V, hV⟩ : ∃ V, Rm.rdV R ((e.d.at_ + e.got) % 4294967296) = V := ⟨_, rfl⟩
  rw [hV] at rd hvf
  rw [hV]
  have RD := Lib.hid rd
  have HS := Lib.hid h
  have HARG := Lib.hid (show IntKind.u32.wrap (e.d.at_ + IntKind.u32.wrap e.got) = (e.d.at_ + e.got) % 4294967296 by rw [IntKind.wrap_u32, IntKind.wrap_u32]; omega)
  have HVF := Lib.hid hvf
  have hpart : Tx.part e = min 4 (e.d.size - e.got) := rfl
  obtain ⟨n, hn⟩ := Int.eq_ofNat_of_zero_le (show 0 ≤ Tx.part e by omega)
  have HN := Lib.hid (hpart.symm.trans hn)
  have HPN := Lib.hid hn
  rw [hn] at p1 p2 p3
  obtain ⟨A, c, rfl⟩ := own_form h.own
  clear h hadd rd hb hV hvf hpart hn
  go_enter Try.func41, Try.ntmps41
  go_wp2
  go_region_held3 (fun w' => w'.cell? ⟨q, 11, none⟩ = some (.int .u32 e.d.at_) ∧ w'.cell? ⟨q, 14, none⟩ = some (.int .i64 e.got)) (go_keep) ((go_at_call 59; rw [HARG.out]; refine (RD.out _ HS.out.drew).mono ?_; rintro r w1 ⟨rfl, F1, hS1, hM1⟩; obtain ⟨-, -, -, -, -, -, -, -, -, -, -, x11, -, -, x14, -, -, -⟩ := eng_cells hS1; have HS1 := Lib.hid hS1; have HM1 := Lib.hid ((Mv.refl F w).drew.trans hM1); clear hS1 hM1))
  clear c0 c1 c2 c3 c4 c5 c6 c7 c8 c9 c10 c11 c12 c13 c14 c15 c16 c17 x11 x14
  obtain ⟨c0, c1, c2, c3, c4, c5, c6, c7, c8, c9, c10, c11, c12, c13, c14, c15, c16, c17⟩ := eng_cells HS1.out
  have hw4 : IntKind.i64.wrap (e.d.size - e.got) = e.d.size - e.got := IntWalk.i64_in _ (by omega)
  by_cases k4 : 4 ≤ e.d.size - e.got
  · obtain rfl : n = 4 := by have := HN.out; omega
    go_wp2
    go_quiet (fail)
    go_wp2
    generalize hW : w1.drewN _ = W
    have hS2 : SysF W p q F1 (.slice A e.frame.length c) e (Rm.read R 2 ((e.d.at_ + e.got) % 4294967296)) := by rw [← hW]; exact HS1.out.drewN _
    have hM2 : Mv (blks q F (.slice A e.frame.length c)) (blks q F1 (.slice A e.frame.length c)) w W := by rw [← hW]; exact HM1.out.wide.drewN _
    obtain ⟨fv', w5, hrun, hS5, hM5, x16, y16⟩ := app_frame hS2 (by omega) V 4 (by omega)
    obtain ⟨A', m', c', rfl⟩ : ∃ A' m' c', fv' = .slice A' m' c' := by
      obtain ⟨A', c', h⟩ := own_form hS5.own
      exact ⟨A', _, c', h⟩
    clear c0 c1 c2 c3 c4 c5 c6 c7 c8 c9 c10 c11 c12 c13 c14 c15 c16 c17 hW
    obtain ⟨c0, c1, c2, c3, c4, c5, c6, c7, c8, c9, c10, c11, c12, c13, c14, c15, c16, c17⟩ := eng_cells hS2
    have HRUN := Lib.hid hrun; have HS5 := Lib.hid hS5; have HM5 := Lib.hid (hM2.trans hM5)
    have HLQ := Lib.hid hS2.lt
    have hq2 : q < W.heap.size := hS2.lt
    clear hrun hS5 hM5 hS2 hM2
    go_region_law (first | (refine step_call1 cf_bytes rfl _ _ rfl (by rfl) (wbytes_ok V HVF.out _) ?_) | (refine step_app rfl _ _ 25 rfl _ _ (by rfl) (by rfl) HRUN.out ?_))
    all_goals
      generalize w5.setCell ⟨q, 16, none⟩ _ = W5 at HS5 HM5 ⊢
      clear c0 c1 c2 c3 c4 c5 c6 c7 c8 c9 c10 c11 c12 c13 c14 c15 c16 c17 x16 y16
      obtain ⟨c0, c1, c2, c3, c4, c5, c6, c7, c8, c9, c10, c11, c12, c13, c14, c15, c16, c17⟩ := eng_cells HS5.out
      have f := eng_free HS5.out
      have hS6 := (HS5.out.set 14 (.int .i64 (e.got + 4)) { e with frame := e.frame ++ (Wd.bytesL V).take 4, got := e.got + 4 } rfl rfl)
      have hM6 := HM5.out.set_in (q_in q F _) 14 (.int .i64 (e.got + 4))
      have HS6 := Lib.hid hS6; have HM6 := Lib.hid hM6
      have hd1 : Tx.data1 e V = { e with frame := e.frame ++ (Wd.bytesL V).take 4, got := e.got + 4 } := by unfold Tx.data1; rw [HPN.out]; rfl
      clear hS6 hM6
      by_cases kl : e.got + 4 < e.d.size
      · have hdd : (Tx.dataF e V true).1 = { e with frame := e.frame ++ (Wd.bytesL V).take 4, got := e.got + 4 } := by
          show (if (Tx.data1 e V).got < (Tx.data1 e V).d.size then Tx.data1 e V else _) = _
          rw [hd1]; exact if_pos kl
        have HDD := Lib.hid hdd
        clear hdd hd1
        go_wp2
        go_quiet (fail)
        go_wp2
        go_ret
        rw [HDD.out]
        exact ⟨rfl, F1, _, HS6.out.drewN _, HM6.out.drewN _⟩
      · have hdd : (Tx.dataF e V true).1 = { e with frame := e.frame ++ (Wd.bytesL V).take 4, got := e.got + 4, phase := if e.d.last then 4 else 6 } := by
          show (if (Tx.data1 e V).got < (Tx.data1 e V).d.size then Tx.data1 e V else { Tx.data1 e V with phase := if (Tx.data1 e V).d.last then 4 else 6 }) = _
          rw [hd1]; exact if_neg kl
        have HDD := Lib.hid hdd
        have kl2 : e.d.size ≤ e.got + 4 := by omega
        obtain ⟨la, hla⟩ : ∃ la, e.d.last = la := ⟨_, rfl⟩
        rw [hla] at c8
        have HLA := Lib.hid hla
        clear hdd hd1 kl
        cases la with
        | true =>
          go_wp2
          go_quiet (fail)
          go_wp2
          go_ret
          rw [HDD.out]
          refine ⟨rfl, F1, _, (HS6.out.drewN _).set 4 (.int .i64 4) _ ?_ rfl, (HM6.out.drewN _).set_in (q_in q F _) _ _⟩
          rw [HLA.out]; rfl
        | false =>
          go_wp2
          go_quiet (fail)
          go_wp2
          go_ret
          rw [HDD.out]
          refine ⟨rfl, F1, _, (HS6.out.drewN _).set 4 (.int .i64 6) _ ?_ rfl, (HM6.out.drewN _).set_in (q_in q F _) _ _⟩
          rw [HLA.out]; rfl
  · have hn : e.d.size - e.got = (n : Int) := by have := HN.out; omega
    have k5 : (n : Int) < 4 := by omega
    have hsz : e.d.size = e.got + n := by omega
    have HNN := Lib.hid hn
    clear hsz k4
    go_wp2
    go_quiet (fail)
    go_wp2
    generalize hW : w1.drewN _ = W
    have hS2 : SysF W p q F1 (.slice A e.frame.length c) e (Rm.read R 2 ((e.d.at_ + e.got) % 4294967296)) := by rw [← hW]; exact HS1.out.drewN _
    have hM2 : Mv (blks q F (.slice A e.frame.length c)) (blks q F1 (.slice A e.frame.length c)) w W := by rw [← hW]; exact HM1.out.wide.drewN _
    obtain ⟨fv', w5, hrun, hS5, hM5, x16, y16⟩ := app_frame hS2 (by omega) V n (by omega)
    obtain ⟨A', m', c', rfl⟩ : ∃ A' m' c', fv' = .slice A' m' c' := by
      obtain ⟨A', c', h⟩ := own_form hS5.own
      exact ⟨A', _, c', h⟩
    clear c0 c1 c2 c3 c4 c5 c6 c7 c8 c9 c10 c11 c12 c13 c14 c15 c16 c17 hW
    obtain ⟨c0, c1, c2, c3, c4, c5, c6, c7, c8, c9, c10, c11, c12, c13, c14, c15, c16, c17⟩ := eng_cells hS2
    have HRUN := Lib.hid hrun; have HS5 := Lib.hid hS5; have HM5 := Lib.hid (hM2.trans hM5)
    have HLQ := Lib.hid hS2.lt
    have hq2 : q < W.heap.size := hS2.lt
    clear hrun hS5 hM5 hS2 hM2
    go_region_law (first | (refine step_call1 cf_bytes rfl _ _ rfl (by rfl) (wbytes_ok V HVF.out _) ?_) | (refine step_app rfl _ _ 25 rfl _ _ (by rfl) (by rfl) HRUN.out ?_))
    all_goals
      generalize w5.setCell ⟨q, 16, none⟩ _ = W5 at HS5 HM5 ⊢
      clear c0 c1 c2 c3 c4 c5 c6 c7 c8 c9 c10 c11 c12 c13 c14 c15 c16 c17 x16 y16
      obtain ⟨c0, c1, c2, c3, c4, c5, c6, c7, c8, c9, c10, c11, c12, c13, c14, c15, c16, c17⟩ := eng_cells HS5.out
      have f := eng_free HS5.out
      have hS6 := (HS5.out.set 14 (.int .i64 (e.got + n)) { e with frame := e.frame ++ (Wd.bytesL V).take n, got := e.got + n } rfl rfl)
      have hM6 := HM5.out.set_in (q_in q F _) 14 (.int .i64 (e.got + n))
      have HS6 := Lib.hid hS6; have HM6 := Lib.hid hM6
      have hd1 : Tx.data1 e V = { e with frame := e.frame ++ (Wd.bytesL V).take n, got := e.got + n } := by unfold Tx.data1; rw [HPN.out]; rfl
      clear hS6 hM6
      have kl : ¬ (e.got + n < e.d.size) := by omega
      have hdd : (Tx.dataF e V true).1 = { e with frame := e.frame ++ (Wd.bytesL V).take n, got := e.got + n, phase := if e.d.last then 4 else 6 } := by
        show (if (Tx.data1 e V).got < (Tx.data1 e V).d.size then Tx.data1 e V else { Tx.data1 e V with phase := if (Tx.data1 e V).d.last then 4 else 6 }) = _
        rw [hd1]; exact if_neg kl
      have HDD := Lib.hid hdd
      have kl2 : e.d.size ≤ e.got + n := by omega
      obtain ⟨la, hla⟩ : ∃ la, e.d.last = la := ⟨_, rfl⟩
      rw [hla] at c8
      have HLA := Lib.hid hla
      clear hdd hd1 kl
      cases la with
      | true =>
        go_wp2
        go_quiet (fail)
        go_wp2
        go_ret
        rw [HDD.out]
        refine ⟨rfl, F1, _, (HS6.out.drewN _).set 4 (.int .i64 4) _ ?_ rfl, (HM6.out.drewN _).set_in (q_in q F _) _ _⟩
        rw [HLA.out]; rfl
      | false =>
        go_wp2
        go_quiet (fail)
        go_wp2
        go_ret
        rw [HDD.out]
        refine ⟨rfl, F1, _, (HS6.out.drewN _).set 4 (.int .i64 6) _ ?_ rfl, (HM6.out.drewN _).set_in (q_in q F _) _ _⟩
        rw [HLA.out]; rfl
end Go.Proofs.Ytkegljcndhckead
