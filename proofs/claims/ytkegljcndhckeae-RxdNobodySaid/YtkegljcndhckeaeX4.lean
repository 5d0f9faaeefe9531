import Derived.Test.YtkegljcndhckeaeX3
namespace Go.Proofs.Ytkegljcndhckeae
open Go.RowKit
set_option linter.unusedVariables false
theorem SysF.drop {w : World} {p q : Nat} {F : List Nat} {fv : Value} {e : Rx.E} {R : Rm.Ram} (h : SysF w p q F fv e R) : SysF (w.setCell ⟨q, 17, none⟩ (.slice none 0 0)) p q F (.slice none 0 0) { e with frame := [] } R := by
  refine ⟨h.ram.keep_of fun b hb => far_heap (fun e => h.qF (by rw [← e]; exact hb)) _ _, ?_, World.ownsRow_nil _ _ _ _, h.qF, fun b hb => by simp [Value.ownBlock] at hb, fun _ => rfl⟩
  rw [set_heap h.raw]
  rfl
theorem Mv.dropped {A : List Nat} {a c : World} {q : Nat} {F : List Nat} {fv : Value} (h : Mv A (blks q F fv) a c) : Mv A (blks q F (.slice none 0 0)) a c :=
  ⟨h.os, h.tape, h.output, h.size, h.block, fun b hb => h.new b (by
    simp only [blks, List.mem_append, List.mem_cons] at hb ⊢
    rcases hb with hb | hb | hb
    · exact .inl hb
    · exact .inr (.inl hb)
    · simp [Value.ownBlock] at hb)⟩
set_option maxRecDepth 100000 in
set_option maxHeartbeats 4000000 in
theorem xrelease_ok (p q : Nat) (F : List Nat) (fv : Value) (e : Rx.E) (R : Rm.Ram) (ho : Rx.Ok e) (w : World) (h : SysF w p q F fv e R) (hl : R.log.length < 1000000000) :
    Calls Try.prog 44 #[.pointer (some ⟨q, 0, none⟩)] w fun r w' => r = .returned (.bool (Rx.backF e (Rm.is R e.at_)).2) ∧
      Goes p q F fv w (Rx.backF e (Rm.is R e.at_)).1 (Rm.write R 3 e.at_ (Rx.backD e).word) w' := by
  obtain ⟨A, c, rfl⟩ := own_form h.own
  obtain ⟨c0, c1, c2, c3, c4, c5, c6, c7, c8, c9, c10, c11, c12, c13, c14, c15, c16, c17, c18⟩ := eng_cells h
  obtain ⟨s1, s2⟩ := ho.sent
  have hmay : (Rx.backD e).may = true := by simp [Ds.D.may, Rx.backD]; omega
  have DW := Lib.hid (fun w => dwords_ok (Rx.backD e) hmay w)
  have hwl := Rx.back_lt e ho
  have wr := fun W hs => ewrite_ok p q F (.slice A e.frame.length c) e R e.at_ (Rx.backD e).word ho.at_ hwl W hs hl
  have hws : (Rx.backD e).words = [((Rx.backD e).word : Int), 0, 0, 0] := rfl
  rw [hws] at DW
  obtain ⟨X, hX⟩ : ∃ X : Int, ((Rx.backD e).word : Int) = X := ⟨_, rfl⟩
  rw [hX] at DW wr
  rw [hX]
  simp only [Rx.backD, Ds.D.cells] at DW
  have WR := Lib.hid wr
  have HS := Lib.hid h
  obtain ⟨a1, a2⟩ := ho.at_
  have hbf : ∀ b, Rx.backF e b = if b then ({ e with at_ := if e.d.wrap then e.base else Rx.add e.at_ 16, inner := true, frame := if Rx.isLast e then [] else e.frame, phase := 0 }, true) else (e, false) := fun _ => rfl
  have HBF := Lib.hid hbf
  obtain ⟨b, hb⟩ : ∃ b, Rm.is R e.at_ = b := ⟨_, rfl⟩
  rw [hb] at WR
  rw [hb]
  have hfl := ho.fl
  obtain ⟨L, hL⟩ : ∃ L, e.frame.length = L := ⟨_, rfl⟩
  have hlast : (e.sent == (L : Int)) = Rx.isLast e := by unfold Rx.isLast; rw [hL]; rw [Bool.eq_iff_iff, beq_iff_eq, decide_eq_true_eq]
  rw [hL] at c17 HS WR hfl ⊢
  obtain ⟨la, hla⟩ : ∃ la, Rx.isLast e = la := ⟨_, rfl⟩
  rw [hla] at hlast DW HBF
  obtain ⟨inr, hin⟩ : ∃ i, e.inner = i := ⟨_, rfl⟩
  rw [hin] at c16 DW
  have HIN := Lib.hid hin
  clear hmay hwl wr hws hX h hbf hb hL hla hin
  go_enter Try.func44, Try.ntmps44
  go_wp2
  go_quiet (fail)
  go_wp2
  generalize hW : w.drewN _ = W
  have hbW : Below w.heap.size w W := by rw [← hW]; exact below_drewN (Below.refl _ _) _
  have HBW := Lib.hid hbW
  have hSW := HS.out.below hbW
  clear c0 c1 c2 c3 c4 c5 c6 c7 c8 c9 c10 c11 c12 c13 c14 c15 c16 c17 c18 hW hbW
  have HSW := Lib.hid hSW
  clear hSW
  have hnot : (!inr) = !inr := rfl
  go_region_held3 (fun w' => w'.cell? ⟨q, 6, none⟩ = some (.bool e.d.wrap) ∧ w'.cell? ⟨q, 16, none⟩ = some (.bool inr) ∧ w'.cell? ⟨q, 15, none⟩ = some (.int .i64 e.sent)) (first | (obtain ⟨-, -, -, -, -, -, z6, -, -, -, -, -, -, -, -, z15, z16, -, -⟩ := eng_cells HSW.out.drew; rw [HIN.out] at z16; exact ⟨z6, z16, z15⟩) | go_keep) ((go_at_call 48; refine (DW.out _).mono ?_; rintro r w1 ⟨g, hg, rfl, hrow, hbl⟩; have hS1 := HSW.out.drew.below hbl; obtain ⟨-, -, -, -, -, -, x6, -, -, -, -, -, -, -, -, x15, x16, -, -⟩ := eng_cells hS1; rw [HIN.out] at x16; have HS1 := Lib.hid hS1; have HROW := Lib.hid hrow; have HG := Lib.hid hg; have HBL := Lib.hid hbl; clear hS1 hrow hg hbl))
  clear x6 x15 x16
  obtain ⟨c0, c1, c2, c3, c4, c5, c6, c7, c8, c9, c10, c11, c12, c13, c14, c15, c16, c17, c18⟩ := eng_cells HS1.out
  have r0 : w1.cell? ⟨g, 0, none⟩ = some (.int .u32 X) := (cell_heap HROW.out 0).trans rfl
  have hgF : g ∉ F := fun hin => by have h1 := HG.out; have h2 := HSW.out.ram.lt g hin; have h3 : W.heap.size ≤ g := h1; omega
  have HGF := Lib.hid hgF
  have HM0 := Lib.hid (show Mv F F w w1 from ((Mv.of_below HBW.out).drew).trans (Mv.of_below HBL.out))
  clear hgF
  go_wp2
  go_region_held3 (fun w' => w'.cell? ⟨q, 2, none⟩ = some (.int .u32 e.at_) ∧ w'.cell? ⟨g, 0, none⟩ = some (.int .u32 X)) (go_keep) ((go_at_call 60; refine (WR.out _ HS1.out.drew).mono ?_; rintro r w2 ⟨rfl, F2, hS2, hM2⟩; have y0 := (cell_heap ((hM2.block g (lt_of_heap (w := w1.drew) HROW.out) HGF.out).trans HROW.out) 0); simp [nums] at y0; obtain ⟨-, -, y2, -, -, -, -, -, -, -, -, -, -, -, -, -, -, -, -⟩ := eng_cells hS2; have HS2 := Lib.hid hS2; have HM2 := Lib.hid ((HM0.out.drew.trans hM2).wide (q := q) (fv := .slice A L c)); clear hS2 hM2))
  clear c0 c1 c2 c3 c4 c5 c6 c7 c8 c9 c10 c11 c12 c13 c14 c15 c16 c17 c18 y0 y2 r0
  obtain ⟨c0, c1, c2, c3, c4, c5, c6, c7, c8, c9, c10, c11, c12, c13, c14, c15, c16, c17, c18⟩ := eng_cells HS2.out
  have f := eng_free HS2.out
  cases b with
  | false =>
    go_wp2
    go_ret
    rw [HBF.out]
    exact ⟨rfl, F2, _, HS2.out, HM2.out⟩
  | true =>
    have HBF2 := Lib.hid (HBF.out true)
    obtain ⟨wp, hwp⟩ : ∃ wp, e.d.wrap = wp := ⟨_, rfl⟩
    rw [hwp] at HBF2 c6
    have hS3 := HS2.out.set 2 (.int .u32 ((e.at_ + 16) % 4294967296)) { e with at_ := (e.at_ + 16) % 4294967296 } rfl rfl
    have HS3 := Lib.hid hS3
    have HM3 := Lib.hid (HM2.out.set_in (q_in q F (.slice A L c)) 2 (.int .u32 ((e.at_ + 16) % 4294967296)))
    clear hwp hS3
    cases wp with
    | true =>
      cases la with
      | true =>
        go_wp2
        go_ret
        rw [HBF2.out]
        exact ⟨rfl, F2, _, ((((HS3.out.set 2 (.int .u32 e.base) { e with at_ := e.base } rfl rfl).set 16 (.bool true) { e with at_ := e.base, inner := true } rfl rfl).drop).set 4 (.int .i64 0) { e with at_ := e.base, inner := true, frame := [], phase := 0 } rfl rfl), (((((HM3.out.set_in (q_in q F (.slice A L c)) 2 (.int .u32 e.base)).set_in (q_in q F (.slice A L c)) 16 (.bool true)).set_in (q_in q F (.slice A L c)) 17 (.slice none 0 0)).dropped).set_in (q_in q F (.slice A L c)) 4 (.int .i64 0))⟩
      | false =>
        go_wp2
        go_ret
        rw [HBF2.out]
        exact ⟨rfl, F2, _, ((((HS3.out.set 2 (.int .u32 e.base) { e with at_ := e.base } rfl rfl).set 16 (.bool true) { e with at_ := e.base, inner := true } rfl rfl)).set 4 (.int .i64 0) { e with at_ := e.base, inner := true, phase := 0 } rfl rfl), (((HM3.out.set_in (q_in q F (.slice A L c)) 2 (.int .u32 e.base)).set_in (q_in q F (.slice A L c)) 16 (.bool true)).set_in (q_in q F (.slice A L c)) 4 (.int .i64 0))⟩
    | false =>
      cases la with
      | true =>
        go_wp2
        go_ret
        rw [HBF2.out]
        exact ⟨rfl, F2, _, (((HS3.out.set 16 (.bool true) { e with at_ := (e.at_ + 16) % 4294967296, inner := true } rfl rfl).drop).set 4 (.int .i64 0) { e with at_ := (e.at_ + 16) % 4294967296, inner := true, frame := [], phase := 0 } rfl rfl), ((((HM3.out.set_in (q_in q F (.slice A L c)) 16 (.bool true)).set_in (q_in q F (.slice A L c)) 17 (.slice none 0 0)).dropped).set_in (q_in q F (.slice A L c)) 4 (.int .i64 0))⟩
      | false =>
        go_wp2
        go_ret
        rw [HBF2.out]
        exact ⟨rfl, F2, _, (((HS3.out.set 16 (.bool true) { e with at_ := (e.at_ + 16) % 4294967296, inner := true } rfl rfl)).set 4 (.int .i64 0) { e with at_ := (e.at_ + 16) % 4294967296, inner := true, phase := 0 } rfl rfl), ((HM3.out.set_in (q_in q F (.slice A L c)) 16 (.bool true)).set_in (q_in q F (.slice A L c)) 4 (.int .i64 0))⟩
end Go.Proofs.Ytkegljcndhckeae
