import Derived.Test.YtkegljcndhckeadT7
namespace Go.Proofs.Ytkegljcndhckead
open Go.RowKit
set_option linter.unusedVariables false
def shD : Ds.D := ⟨true, false, true, true, false, 0, 64, 6, 0⟩
def sh0 : Tx.E × Rm.Ram := (Tx.start (Tx.new 0), (Ds.stK (Rm.blank 32) 1 0 shD 4).1)
def sh5 : Tx.E × Rm.Ram := Tx.steps sh0 5
def sh7 : Tx.E × Rm.Ram := Tx.steps (Tx.done sh5.1 9, sh5.2) 2
theorem tshown_pure : (Ds.stK (Rm.blank 32) 1 0 shD 4).2 = 0 ∧ sh0.2.log.length = 0 ∧ Tx.isReady sh5.1 = true ∧ sh5.1.frame.length = 6 ∧ Tx.doneE sh5.1 = 0 ∧ Ds.loadD sh7.2 1 0 = ⟨false, false, true, true, false, 6, 64, 6, 9⟩ ∧ Ds.loadE sh7.2 1 0 = 0 := by decide +kernel
/-- The engine's steps in a loop. -/
theorem gsteps {p q : Nat} {F : List Nat} {fv : Value} {w wr : World} {s : Tx.E × Rm.Ram} (ho : Tx.Ok s.1) (hf : Rm.Fit s.2) (hl : s.2.log.length < 900000000) (k : Nat) (hk : k < 100000) (h : Goes p q F fv w (Tx.steps s k).1 (Tx.steps s k).2 wr) :
    Calls Try.prog 12 #[.pointer (some ⟨q, 0, none⟩)] wr fun r w' => r = .returned (.tuple #[]) ∧ Goes p q F fv w (Tx.steps s (k + 1)).1 (Tx.steps s (k + 1)).2 w' := by
  obtain ⟨h1, h2, h3⟩ := Tx.steps_ok ho hf k
  exact gstep h h1 (by omega)
theorem sh0_ok : Tx.Ok sh0.1 := (Tx.Ok.new 0 (by omega)).start
theorem fit_st {R : Rm.Ram} (h : Rm.Fit R) (who a : Int) (d : Ds.D) (hm : d.may = true) (hf1 : 0 ≤ d.at_ ∧ d.at_ < 4294967296) (hf2 : 0 ≤ d.stamp ∧ d.stamp < 4294967296) (k : Nat) : Rm.Fit (Ds.stK R who a d k).1 := by
  induction k with
  | zero => exact h
  | succ k ih =>
    show Rm.Fit (Ds.stStep who a d k (Ds.stK R who a d k)).1
    unfold Ds.stStep
    split
    · exact ih.write _ _ _ (words_fit d hm hf1 hf2 _ (by omega))
    · exact ih
theorem sh0_fit : Rm.Fit sh0.2 := fit_st (Rm.Fit.blank 32) 1 0 shD (by decide) (by decide) (by decide) 4
set_option maxHeartbeats 4000000 in
theorem tshown_ok (w : World) : Calls Try.prog 9 #[] w fun e w' => e = .returned (.bool true) ∧ Below w.heap.size w w' := by
  obtain ⟨p1, p2, p3, p4, p5, p6, p7⟩ := tshown_pure
  have P1 := Lib.hid p1; have P3 := Lib.hid p3; have P4 := Lib.hid p4; have P5 := Lib.hid p5; have P6 := Lib.hid p6; have P7 := Lib.hid p7; have P2 := Lib.hid p2
  have GS := Lib.hid (fun p q F fv w wr k hk h => gsteps (p := p) (q := q) (F := F) (fv := fv) (w := w) (wr := wr) (s := sh0) sh0_ok sh0_fit (by rw [P2.out]; decide) k hk h)
  have OK5 := Lib.hid (Tx.steps_ok sh0_ok sh0_fit 5)
  clear p1 p2 p3 p4 p5 p6 p7
  go_enter Try.func9, Try.ntmps9
  go_wp2_with fail
  refine (rnew_ok 32 (by omega) _).mono ?_
  rintro e w1 ⟨rfl, hR, hb⟩
  have HB := Lib.hid hb
  have HR := Lib.hid hR
  clear hb hR
  go_wp2_with fail
  refine (store_ok _ _ _ 1 0 (by decide) shD (by decide) (by decide) (by decide) _ HR.out (by decide)).mono ?_
  rintro e w2 ⟨rfl, F2, hR2, hM2⟩
  have HM2 := Lib.hid hM2; have HR2 := Lib.hid hR2
  clear hM2 hR2
  go_wp2_with fail
  refine (tnew_ok _ _ _ 0 _ HR2.out).mono ?_
  rintro e w3 ⟨rfl, hS, hb3⟩
  have HS := Lib.hid hS; have HB3 := Lib.hid hb3
  have HGE := Lib.hid (show ∀ b ∈ blks w2.heap.size F2 (.slice none 0 0), w.heap.size ≤ b from fun b hb => by
    have h2 := HM2.out.size; have h1 := HB.out.size
    simp [blks, Value.ownBlock] at hb
    rcases hb with hb | hb
    · rcases HM2.out.new b hb with h | h
      · simp at h; omega
      · omega
    · omega)
  clear hS hb3
  go_wp2_with fail
  refine (gstart (Goes.start HS.out)).mono ?_
  rintro e w4 ⟨rfl, hG⟩
  have HG := Lib.hid (show Goes _ _ _ _ w3 (Tx.steps sh0 0).1 (Tx.steps sh0 0).2 w4 from hG)
  clear hG
  go_wp2
  go_loopw [4] (fun i wr => ∃ k : Nat, k ≤ 5 ∧ i = .int .i64 k ∧ Hid (Goes (w.heap.size + 1) w2.heap.size F2 (.slice none 0 0) w3 (Tx.steps sh0 k).1 (Tx.steps sh0 k).2 wr)) (fun i _ => 5 - (intOf i).toNat)
  case atStart => exact ⟨0, by omega, rfl, HG⟩
  case round =>
    obtain ⟨k, hk, rfl, HS⟩ := hrel
    by_cases hlt : (k : Int) < 5
    · go_wp2_with fail
      refine (GS.out _ _ _ _ _ _ k (by omega) HS.out).mono ?_
      rintro e w5 ⟨rfl, hG5⟩
      have HG5 := Lib.hid hG5
      clear hG5
      go_wp2
      go_roundw
      case rel => exact ⟨k + 1, by omega, by go_num, HG5⟩
      case measure => simp [intOf]; omega
    · obtain rfl : k = 5 := by omega
      have HS5 := Lib.hid (show Goes (w.heap.size + 1) w2.heap.size F2 (.slice none 0 0) w3 sh5.1 sh5.2 wr from HS.out)
      go_wp2_with fail
      refine (gready HS5.out OK5.out.1).mono ?_
      rintro e w5 ⟨v, rfl, hrd, hb5⟩
      rw [P3.out] at hrd ⊢
      obtain ⟨A, c, rfl, -⟩ := hrd
      rw [if_pos rfl, nums_len, P4.out]
      have HS6 := Lib.hid (HS5.out.below hb5)
      have okd := Lib.hid (Tx.Ok.done OK5.out.1 9 (by omega))
      have OK2 := Lib.hid (fun k => Tx.steps_ok (s := (Tx.done sh5.1 9, sh5.2)) okd.out OK5.out.2.1 k)
      have HL5 := Lib.hid (show sh5.2.log.length < 1000 by have := OK5.out.2.2; rw [P2.out] at this; exact Nat.lt_of_le_of_lt this (by decide))
      clear hb5
      go_wp2_with fail
      refine (gdone HS6.out 9).mono ?_
      rintro e w6 ⟨rfl, hG6⟩
      rw [P5.out]
      have HG6 := Lib.hid hG6
      clear hG6
      go_wp2_with fail
      refine (gstep HG6.out okd.out (Nat.lt_trans HL5.out (by decide))).mono ?_
      rintro e w7 ⟨rfl, hG7⟩
      have HG7 := Lib.hid (show Goes (w.heap.size + 1) w2.heap.size F2 (.slice none 0 0) w3 (Tx.steps (Tx.done sh5.1 9, sh5.2) 1).1 (Tx.steps (Tx.done sh5.1 9, sh5.2) 1).2 w7 from hG7)
      clear hG7
      go_wp2_with fail
      refine (gstep HG7.out (OK2.out 1).1 (Nat.lt_of_le_of_lt (OK2.out 1).2.2 (by have := HL5.out; show sh5.2.log.length + 1 < _; omega))).mono ?_
      rintro e w8 ⟨rfl, hG8⟩
      have HG8 := Lib.hid (show Goes (w.heap.size + 1) w2.heap.size F2 (.slice none 0 0) w3 sh7.1 sh7.2 w8 from hG8)
      clear hG8
      go_wp2_with fail
      have hld := gload HG8.out 1 0 (by decide) (Nat.lt_of_le_of_lt (OK2.out 2).2.2 (by have := HL5.out; show sh5.2.log.length + 2 < _; omega))
      rw [P6.out, P7.out] at hld
      simp only [Ds.D.cells] at hld
      refine hld.mono ?_
      clear hld
      rintro e w9 ⟨rfl, hG9⟩
      have HEND := Lib.hid (hG9.end w.heap.size (by have h1 := HB.out.size; have h2 := HM2.out.size; have h3 := HB3.out.size; omega) HGE.out)
      have HBE := Lib.hid (HB.out.trans ((HM2.out.below HB.out.size (by intro k hk; simp at hk; omega)).trans ((HB3.out.mono (by have h1 := HB.out.size; have h2 := HM2.out.size; omega)).trans HEND.out)))
      clear hG9
      go_wp2
      go_ret
      exact ⟨rfl, HBE.out.alloc HBE.out.size _⟩
end Go.Proofs.Ytkegljcndhckead
