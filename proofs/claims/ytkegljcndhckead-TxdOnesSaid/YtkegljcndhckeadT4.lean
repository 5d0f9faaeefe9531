import Derived.Test.YtkegljcndhckeadT3
namespace Go.Proofs.Ytkegljcndhckead
open Go.RowKit
set_option linter.unusedVariables false
theorem SysF.drop {w : World} {p q : Nat} {F : List Nat} {fv : Value} {e : Tx.E} {R : Rm.Ram} (h : SysF w p q F fv e R) : SysF (w.setCell ⟨q, 16, none⟩ (.slice none 0 0)) p q F (.slice none 0 0) { e with frame := [] } R := by
  refine ⟨h.ram.keep_of fun b hb => far_heap (fun e => h.qF (by rw [← e]; exact hb)) _ _, ?_, World.ownsRow_nil _ _ _ _, h.qF, fun b hb => by simp [Value.ownBlock] at hb⟩
  rw [set_heap h.raw]
  rfl
theorem Mv.dropped {A : List Nat} {a c : World} {q : Nat} {F : List Nat} {fv : Value} (h : Mv A (blks q F fv) a c) : Mv A (blks q F (.slice none 0 0)) a c :=
  ⟨h.os, h.tape, h.output, h.size, h.block, fun b hb => h.new b (by
    simp only [blks, List.mem_append, List.mem_cons] at hb ⊢
    rcases hb with hb | hb | hb
    · exact .inl hb
    · exact .inr (.inl hb)
    · simp [Value.ownBlock] at hb)⟩
set_option maxRecDepth 100000 in
set_option maxHeartbeats 4000000 in
theorem trelease_ok (p q : Nat) (F : List Nat) (fv : Value) (e : Tx.E) (R : Rm.Ram) (ho : Tx.Ok e) (w : World) (h : SysF w p q F fv e R) (hl : R.log.length < 1000000000) :
    Calls Try.prog 44 #[.pointer (some ⟨q, 0, none⟩)] w fun r w' => r = .returned (.bool (Tx.backF e (Rm.is R e.at_)).2) ∧
      Goes p q F fv w (Tx.backF e (Rm.is R e.at_)).1 (Rm.write R 2 e.at_ (Tx.backD e).word) w' := by
  obtain ⟨c0, c1, c2, c3, c4, c5, c6, c7, c8, c9, c10, c11, c12, c13, c14, c15, c16, c17⟩ := eng_cells h
  obtain ⟨s1, s2⟩ := ho.dsize
  have hmay : (Tx.backD e).may = true := by simp [Ds.D.may, Tx.backD]; omega
  have DW := Lib.hid (fun w => dwords_ok (Tx.backD e) hmay w)
  have hwl := Tx.word_lt e ho
  have wr := fun W hs => ewrite_ok p q F fv e R e.at_ (Tx.backD e).word ho.at_ hwl W hs hl
  have hws : (Tx.backD e).words = [((Tx.backD e).word : Int), 0, 0, 0] := rfl
  rw [hws] at DW
  obtain ⟨X, hX⟩ : ∃ X : Int, ((Tx.backD e).word : Int) = X := ⟨_, rfl⟩
  rw [hX] at DW wr
  rw [hX]
  simp only [Tx.backD, Ds.D.cells] at DW
  have WR := Lib.hid wr
  have HS := Lib.hid h
  obtain ⟨a1, a2⟩ := ho.at_
  have hbf : ∀ b, Tx.backF e b = if b then ({ e with at_ := if e.d.wrap then e.base else Tx.add e.at_ 16, inner := !e.d.last, frame := if e.d.last then [] else e.frame, phase := 0 }, true) else (e, false) := fun _ => rfl
  have HBF := Lib.hid hbf
  obtain ⟨b, hb⟩ : ∃ b, Rm.is R e.at_ = b := ⟨_, rfl⟩
  rw [hb] at WR
  rw [hb]
  clear hmay hwl wr hws hX h hbf hb
  go_enter Try.func44, Try.ntmps44
  go_wp2
  go_region_held3 (fun w' => w'.cell? ⟨q, 6, none⟩ = some (.bool e.d.wrap) ∧ w'.cell? ⟨q, 7, none⟩ = some (.bool e.d.first) ∧ w'.cell? ⟨q, 8, none⟩ = some (.bool e.d.last) ∧ w'.cell? ⟨q, 12, none⟩ = some (.int .i64 e.d.size)) (go_keep) ((go_at_call 58; refine (DW.out _).mono ?_; rintro r w1 ⟨g, hg, rfl, hrow, hbl⟩; have hS1 := HS.out.drew.below hbl; obtain ⟨-, -, -, -, -, -, x6, x7, x8, -, -, -, x12, -, -, -, -, -⟩ := eng_cells hS1; have HS1 := Lib.hid hS1; have HROW := Lib.hid hrow; have HG := Lib.hid hg; have HBL := Lib.hid hbl; clear hS1 hrow hg hbl))
  clear c0 c1 c2 c3 c4 c5 c6 c7 c8 c9 c10 c11 c12 c13 c14 c15 c16 c17 x6 x7 x8 x12
  obtain ⟨c0, c1, c2, c3, c4, c5, c6, c7, c8, c9, c10, c11, c12, c13, c14, c15, c16, c17⟩ := eng_cells HS1.out
  have r0 : w1.cell? ⟨g, 0, none⟩ = some (.int .u32 X) := (cell_heap HROW.out 0).trans rfl
  have hgF : g ∉ F := fun hin => by have h1 := HG.out; have h2 := HS.out.ram.lt g hin; have h3 : w.heap.size ≤ g := h1; omega
  have HGF := Lib.hid hgF
  have HM0 := Lib.hid (show Mv F F w w1 from (Mv.refl F w).drew.trans (Mv.of_below HBL.out))
  clear hgF
  go_wp2
  go_region_held3 (fun w' => w'.cell? ⟨q, 2, none⟩ = some (.int .u32 e.at_) ∧ w'.cell? ⟨g, 0, none⟩ = some (.int .u32 X)) (go_keep) ((go_at_call 62; refine (WR.out _ HS1.out.drew).mono ?_; rintro r w2 ⟨rfl, F2, hS2, hM2⟩; have y0 := (cell_heap ((hM2.block g (lt_of_heap (w := w1.drew) HROW.out) HGF.out).trans HROW.out) 0); simp [nums] at y0; obtain ⟨-, -, y2, -, -, -, -, -, -, -, -, -, -, -, -, -, -, -⟩ := eng_cells hS2; have HS2 := Lib.hid hS2; have HM2 := Lib.hid ((HM0.out.drew.trans hM2).wide (q := q) (fv := fv)); clear hS2 hM2))
  clear c0 c1 c2 c3 c4 c5 c6 c7 c8 c9 c10 c11 c12 c13 c14 c15 c16 c17 y0 y2 r0
  obtain ⟨c0, c1, c2, c3, c4, c5, c6, c7, c8, c9, c10, c11, c12, c13, c14, c15, c16, c17⟩ := eng_cells HS2.out
  have f := eng_free HS2.out
  cases b with
  | false =>
    go_wp2
    go_ret
    rw [HBF.out]
    exact ⟨rfl, F2, fv, HS2.out, HM2.out⟩
  | true =>
    have HBF2 := Lib.hid (HBF.out true)
    obtain ⟨A, c, hfv⟩ := own_form HS2.out.own
    obtain ⟨wp, hwp⟩ : ∃ wp, e.d.wrap = wp := ⟨_, rfl⟩
    obtain ⟨la, hla⟩ : ∃ la, e.d.last = la := ⟨_, rfl⟩
    rw [hwp, hla] at HBF2
    rw [hwp] at c6
    rw [hla] at c8
    have hS3 := HS2.out.set 2 (.int .u32 ((e.at_ + 16) % 4294967296)) { e with at_ := (e.at_ + 16) % 4294967296 } rfl rfl
    have HS3 := Lib.hid hS3
    have HM3 := Lib.hid (HM2.out.set_in (q_in q F fv) 2 (.int .u32 ((e.at_ + 16) % 4294967296)))
    clear hfv hwp hla hS3
    cases wp with
    | true =>
      cases la with
      | true =>
        go_wp2
        go_ret
        rw [HBF2.out]
        exact ⟨rfl, F2, _, ((((HS3.out.set 2 (.int .u32 e.base) { e with at_ := e.base } rfl rfl).set 15 (.bool false) { e with at_ := e.base, inner := false } rfl rfl).drop).set 4 (.int .i64 0) { e with at_ := e.base, inner := false, frame := [], phase := 0 } rfl rfl), (((((HM3.out.set_in (q_in q F fv) 2 (.int .u32 e.base)).set_in (q_in q F fv) 15 (.bool false)).set_in (q_in q F fv) 16 (.slice none 0 0)).dropped).set_in (q_in q F fv) 4 (.int .i64 0))⟩
      | false =>
        go_wp2
        go_ret
        rw [HBF2.out]
        exact ⟨rfl, F2, _, ((((HS3.out.set 2 (.int .u32 e.base) { e with at_ := e.base } rfl rfl).set 15 (.bool true) { e with at_ := e.base, inner := true } rfl rfl)).set 4 (.int .i64 0) { e with at_ := e.base, inner := true, phase := 0 } rfl rfl), (((HM3.out.set_in (q_in q F fv) 2 (.int .u32 e.base)).set_in (q_in q F fv) 15 (.bool true)).set_in (q_in q F fv) 4 (.int .i64 0))⟩
    | false =>
      cases la with
      | true =>
        go_wp2
        go_ret
        rw [HBF2.out]
        exact ⟨rfl, F2, _, (((HS3.out.set 15 (.bool false) { e with at_ := (e.at_ + 16) % 4294967296, inner := false } rfl rfl).drop).set 4 (.int .i64 0) { e with at_ := (e.at_ + 16) % 4294967296, inner := false, frame := [], phase := 0 } rfl rfl), ((((HM3.out.set_in (q_in q F fv) 15 (.bool false)).set_in (q_in q F fv) 16 (.slice none 0 0)).dropped).set_in (q_in q F fv) 4 (.int .i64 0))⟩
      | false =>
        go_wp2
        go_ret
        rw [HBF2.out]
        exact ⟨rfl, F2, _, (((HS3.out.set 15 (.bool true) { e with at_ := (e.at_ + 16) % 4294967296, inner := true } rfl rfl)).set 4 (.int .i64 0) { e with at_ := (e.at_ + 16) % 4294967296, inner := true, phase := 0 } rfl rfl), ((HM3.out.set_in (q_in q F fv) 15 (.bool true)).set_in (q_in q F fv) 4 (.int .i64 0))⟩
end Go.Proofs.Ytkegljcndhckead
