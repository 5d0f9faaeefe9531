import Derived.Test.YtkegljcndhckeaeX7
import Derived.Test.YtkegljcndhckeaeDLay
namespace Go.Proofs.Ytkegljcndhckeae
open Go.RowKit
set_option linter.unusedVariables false
def xsR : Rm.Ram := (Ds.lyK (Rm.blank 4096) 0 4 2048 4 true 4).1
def xs0 : Rx.E := Rx.start (Rx.new 0)
def xs1 : Rx.E × Rm.Ram := (Rx.give xs0 [1, 2, 3, 4, 5, 6] 9, xsR)
def xs11 : Rx.E × Rm.Ram := Rx.steps xs1 11
def xs12 : Rm.Ram := (Ds.ldK xs11.2 1 0 4).1
set_option maxRecDepth 100000 in
theorem xshown_pure : xsR.log.length = 0 ∧ Rx.giveE xs0 [1, 2, 3, 4, 5, 6] = 0 ∧ Ds.loadE xs11.2 1 0 = 0 ∧ Ds.loadE xs12 1 16 = 0 ∧ Rx.isFree xs11.1 = true ∧
    Ds.loadD xs11.2 1 0 = ⟨false, false, true, false, false, 4, 2048, 4, 0⟩ ∧ Ds.loadD xs12 1 16 = ⟨false, false, false, true, false, 6, 2052, 4, 9⟩ ∧ xs12.log.length = 0 := by decide +kernel
theorem lay_four (n : Nat) (size : Int) (own : Bool) (hn : n ≤ 64) : (Ds.lyK (Rm.blank 4096) 0 n 2048 size own n).2 = 0 ∧ (Ds.lyK (Rm.blank 4096) 0 n 2048 size own n).1.keep = false ∧ (Ds.lyK (Rm.blank 4096) 0 n 2048 size own n).1.log = [] := by
  have hl : (Rm.blank 4096).ws.length = 4096 := List.length_replicate ..
  obtain ⟨h1, h2, h3, h4, h5⟩ := Ds.ly_all (Rm.blank 4096) 0 n 2048 size own (by omega) (by omega) n (Nat.le_refl n)
  exact ⟨h1, h3, h4 rfl⟩
set_option maxRecDepth 20000 in
theorem xlaid_ok (n : Nat) (size : Int) (own : Bool) (hn : 2 ≤ n ∧ n ≤ 64) (hs : 4 ≤ size ∧ size ≤ 2048) (hs4 : size % 4 = 0) (w : World) :
    Calls Try.prog 23 #[.int .i64 n, .int .i64 size, .bool own] w fun e w' => e = .returned (.pointer (some ⟨w.heap.size + 1, 0, none⟩)) ∧
      ∃ F, RamAt w' (w.heap.size + 1) F (Ds.lyK (Rm.blank 4096) 0 n 2048 size own n).1 ∧ Below w.heap.size w w' ∧ ∀ b ∈ F, w.heap.size ≤ b := by
  have H0 := Lib.hid (lay_four n size own hn.2).1
  have HN := Lib.hid hn
  have HS := Lib.hid hs
  have HS4 := Lib.hid hs4
  clear hn hs hs4
  go_enter Try.func23, Try.ntmps23
  go_wp2_with fail
  refine (rnew_ok 4096 (by omega) _).mono ?_
  rintro e w1 ⟨rfl, hR, hb⟩
  have HB := Lib.hid hb
  have HR := Lib.hid (show RamAt w1 _ _ (Rm.blank 4096) from hR)
  clear hb hR
  go_wp2_with fail
  refine (lay_ok _ _ _ 0 n 2048 size own (by decide) (by decide) HN.out HS.out HS4.out _ HR.out (by decide)).mono ?_
  rintro e w2 ⟨rfl, F2, hR2, hM2⟩
  rw [H0.out]
  have HR2 := Lib.hid hR2
  have HE := Lib.hid (hM2.below HB.out.size (by intro k hk; simp at hk; omega))
  have HG := Lib.hid (hM2.ge HB.out.size (by intro k hk; simp at hk; omega))
  clear hR2 hM2
  go_wp2
  go_ret
  exact ⟨rfl, F2, HR2.out, HB.out.trans HE.out, HG.out⟩
theorem xsteps {p q : Nat} {F : List Nat} {fv : Value} {w wr : World} {s : Rx.E × Rm.Ram} (ho : Rx.Ok s.1) (hf : Rm.Fit s.2) (hl : s.2.log.length < 900000000) (k : Nat) (hk : k < 100000) (h : Goes p q F fv w (Rx.steps s k).1 (Rx.steps s k).2 wr) :
    Calls Try.prog 12 #[.pointer (some ⟨q, 0, none⟩)] wr fun r w' => r = .returned (.tuple #[]) ∧ Goes p q F fv w (Rx.steps s (k + 1)).1 (Rx.steps s (k + 1)).2 w' := by
  obtain ⟨h1, h2, h3⟩ := Rx.steps_ok ho hf k
  exact gstep h h1 (by omega)
theorem xfit_st {R : Rm.Ram} (h : Rm.Fit R) (who a : Int) (d : Ds.D) (hm : d.may = true) (hf1 : 0 ≤ d.at_ ∧ d.at_ < 4294967296) (hf2 : 0 ≤ d.stamp ∧ d.stamp < 4294967296) (k : Nat) : Rm.Fit (Ds.stK R who a d k).1 := by
  induction k with
  | zero => exact h
  | succ k ih =>
    show Rm.Fit (Ds.stStep who a d k (Ds.stK R who a d k)).1
    unfold Ds.stStep
    split
    · exact ih.write _ _ _ (words_fit d hm hf1 hf2 _ (by omega))
    · exact ih
theorem xfit_ly {R : Rm.Ram} (h : Rm.Fit R) (a n bufs size : Int) (own : Bool) (hb : 0 ≤ bufs ∧ bufs < 4294967296) (hs : 4 ≤ size ∧ size ≤ 2048) (k : Nat) : Rm.Fit (Ds.lyK R a n bufs size own k).1 := by
  induction k with
  | zero => exact h
  | succ k ih =>
    show Rm.Fit (Ds.lyStep a n bufs size own k (Ds.lyK R a n bufs size own k)).1
    unfold Ds.lyStep
    split
    · exact xfit_st ih _ _ _ (lyD_may n bufs size own k hs) (by simp only [Ds.lyD]; omega) (by simp only [Ds.lyD]; omega) _
    · exact ih
theorem xs0_ok : Rx.Ok xs0 := (Rx.Ok.new 0 (by omega)).start
theorem xs1_ok : Rx.Ok xs1.1 := Rx.Ok.give xs0_ok [1, 2, 3, 4, 5, 6] 9 (by unfold Wd.Bytes; decide) (by omega)
theorem xs1_snd : xs1.2 = xsR := by unfold xs1; dsimp only
theorem xs1_fit : Rm.Fit xs1.2 := by
  rw [xs1_snd]
  unfold xsR
  exact xfit_ly (Rm.Fit.blank 4096) 0 4 2048 4 true (by omega) (by omega) 4
set_option maxHeartbeats 4000000 in
theorem xshown_ok (w : World) : Calls Try.prog 9 #[] w fun e w' => e = .returned (.bool true) ∧ Below w.heap.size w w' := by
  obtain ⟨p1, p2, p3, p4, p5, p6, p7, p8⟩ := xshown_pure
  have P1 := Lib.hid p1; have P3 := Lib.hid p3; have P4 := Lib.hid p4; have P5 := Lib.hid p5; have P6 := Lib.hid p6; have P7 := Lib.hid p7; have P2 := Lib.hid p2; have P8 := Lib.hid p8
  have GS := Lib.hid (fun p q F fv w wr k hk h => xsteps (p := p) (q := q) (F := F) (fv := fv) (w := w) (wr := wr) (s := xs1) xs1_ok xs1_fit (by rw [xs1_snd, P1.out]; decide) k hk h)
  have OK11 := Lib.hid (Rx.steps_ok xs1_ok xs1_fit 11)
  clear p1 p2 p3 p4 p5 p6 p7 p8
  go_enter Try.func9, Try.ntmps9
  go_wp2_with fail
  refine (xlaid_ok 4 4 true (by decide) (by decide) (by decide) _).mono ?_
  rintro e w2 ⟨rfl, F2, hR, hb, hg⟩
  have HB := Lib.hid hb
  have HR2 := Lib.hid (show RamAt w2 _ F2 xsR from hR)
  have HG2 := Lib.hid hg
  clear hb hR hg
  go_wp2_with fail
  refine (xnew_ok _ _ _ 0 _ HR2.out).mono ?_
  rintro e w3 ⟨rfl, hS, hb3⟩
  have HS := Lib.hid hS; have HB3 := Lib.hid hb3
  have HGE := Lib.hid (show ∀ b ∈ blks w2.heap.size F2 (.slice none 0 0), w.heap.size ≤ b from fun b hb => by
    have h1 := HB.out.size
    simp [blks, Value.ownBlock] at hb
    rcases hb with hb | hb
    · exact HG2.out b hb
    · omega)
  clear hS hb3
  go_wp2_with fail
  refine (gstart (Goes.start HS.out)).mono ?_
  rintro e w4 ⟨rfl, hG⟩
  have HG := Lib.hid (show Goes _ _ _ _ w3 xs0 xsR w4 from hG)
  clear hG
  go_wp2_with fail
  have hrd := Rd.new w4 (nums .u8 [1, 2, 3, 4, 5, 6]) 5 (by decide)
  refine (gput (HG.out.below (Below.alloc (Below.refl _ _) (Nat.le_refl _) _)) _ [1, 2, 3, 4, 5, 6] 9 hrd).mono ?_
  clear hrd
  rintro e w5 ⟨rfl, hG5⟩
  rw [P2.out]
  have HG5 := Lib.hid (show Goes _ _ _ _ w3 (Rx.steps xs1 0).1 (Rx.steps xs1 0).2 w5 by unfold Rx.steps xs1; dsimp only; exact hG5)
  clear hG5
  go_wp2
  go_loopw [4] (fun i wr => ∃ k : Nat, k ≤ 11 ∧ i = .int .i64 k ∧ Hid (Goes (w.heap.size + 1) w2.heap.size F2 (.slice none 0 0) w3 (Rx.steps xs1 k).1 (Rx.steps xs1 k).2 wr)) (fun i _ => 11 - (intOf i).toNat)
  case atStart => exact ⟨0, by omega, rfl, HG5⟩
  case round =>
    obtain ⟨k, hk, rfl, HS⟩ := hrel
    by_cases hlt : (k : Int) < 11
    · go_wp2_with fail
      refine (GS.out _ _ _ _ _ _ k (by omega) HS.out).mono ?_
      rintro e w5 ⟨rfl, hG5⟩
      have HG5 := Lib.hid hG5
      clear hG5
      go_wp2
      go_roundw
      case rel => exact ⟨k + 1, by omega, by go_num, HG5⟩
      case measure => simp [intOf]; omega
    · obtain rfl : k = 11 := by omega
      have HS5 := Lib.hid (show Goes (w.heap.size + 1) w2.heap.size F2 (.slice none 0 0) w3 xs11.1 xs11.2 wr by unfold xs11; exact HS.out)
      have HL5 := Lib.hid (show xs11.2.log.length < 1000 by unfold xs11; have := OK11.out.2.2; rw [xs1_snd, P1.out] at this; exact Nat.lt_of_le_of_lt this (by decide))
      go_wp2_with fail
      have hld := gload HS5.out 1 0 (by decide) (Nat.lt_trans HL5.out (by decide))
      rw [P6.out, P3.out] at hld
      simp only [Ds.D.cells] at hld
      refine hld.mono ?_
      clear hld
      rintro e w9 ⟨rfl, hG9⟩
      have HG9 := Lib.hid (show Goes (w.heap.size + 1) w2.heap.size F2 (.slice none 0 0) w3 xs11.1 xs12 w9 by unfold xs12; exact hG9)
      clear hG9
      have ⟨F9, fv9, hS9, hM9⟩ := HG9.out
      have HS9 := Lib.hid hS9; have HM9 := Lib.hid hM9
      clear hS9 hM9 HG9
      have HL9 := Lib.hid (show Below w9.heap.size w9 (w9.alloc (.cells (Ds.D.cells ⟨false, false, true, false, false, 4, 2048, 4, 0⟩).toArray 38)) from Below.alloc (Below.refl _ _) (Nat.le_refl _) _)
      have HA := Lib.hid (DescAt.new w9 ⟨false, false, true, false, false, 4, 2048, 4, 0⟩)
      have hld := load_ok _ _ _ 1 16 (by decide) _ (HS9.out.below HL9.out).ram (by rw [P8.out]; decide)
      rw [P7.out, P4.out] at hld
      simp only [Ds.D.cells] at hld HA HL9
      go_wp2_with fail
      refine hld.mono ?_
      clear hld
      rintro e w10 ⟨rfl, F10, hR10, hM10⟩
      have HG10 := Lib.hid (Goes.ram (HS9.out.below HL9.out) (HM9.out.trans (Mv.of_below HL9.out)) hR10 hM10)
      have HA1 := Lib.hid (show DescAt w10 w9.heap.size ⟨false, false, true, false, false, 4, 2048, 4, 0⟩ from (hM10.block w9.heap.size (lt_of_heap HA.out) (fun c => absurd (HS9.out.ram.lt _ c) (Nat.lt_irrefl _))).trans HA.out)
      clear hR10 hM10 HA
      have hb10 : Below w10.heap.size w10 (w10.alloc (.cells (Ds.D.cells ⟨false, false, false, true, false, 6, 2052, 4, 9⟩).toArray 38)) := Below.alloc (Below.refl _ _) (Nat.le_refl _) _
      have HG11 := Lib.hid (HG10.out.below hb10)
      obtain ⟨a0, a1, a2, a3, a4, a5, a6, a7, a8⟩ := desc_cells (HA1.out.below hb10)
      obtain ⟨b0, b1, b2, b3, b4, b5, b6, b7, b8⟩ := desc_cells (DescAt.new w10 ⟨false, false, false, true, false, 6, 2052, 4, 9⟩)
      simp only [Ds.D.cells] at *
      clear hb10
      go_wp2_with fail
      refine (gfree HG11.out).mono ?_
      rintro e w11 ⟨rfl, rfl⟩
      rw [P5.out]
      have HEND := Lib.hid (HG11.out.end w.heap.size (by have h1 := HB.out.size; have h3 := HB3.out.size; omega) HGE.out)
      have HBE := Lib.hid (HB.out.trans ((HB3.out.mono HB.out.size).trans HEND.out))
      go_wp2
      go_ret
      exact ⟨rfl, HBE.out⟩
end Go.Proofs.Ytkegljcndhckeae
