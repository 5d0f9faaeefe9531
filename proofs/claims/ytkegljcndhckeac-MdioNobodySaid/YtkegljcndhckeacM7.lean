import Derived.Test.YtkegljcndhckeacM6
namespace Go.Proofs.Ytkegljcndhckeac
open Go.RowKit
set_option linter.unusedVariables false
theorem Md.send_frame (s : Md.S) (w op phy reg v : Nat) (hw : Md.IsFrame w op phy reg v) (h0 : s.ph = 0) (h1 : 0 ≤ s.ones ∧ s.ones ≤ 32) (hout : 0 ≤ s.regs.getD reg 0 ∧ s.regs.getD reg 0 < 65536) :
    Md.send s w = (if (phy : Int) = s.addr ∧ op = 1 then { s with ph := 0, ones := 0, bits := 32, got := w, reg := (reg : Int), out := s.regs.getD reg 0, regs := s.regs.set reg v, to := (reg : Int), v := (v : Int), took := true }
      else { s with ph := 0, ones := 0, bits := 32, got := w, reg := (reg : Int), out := s.regs.getD reg 0 }, if (phy : Int) = s.addr ∧ op ≠ 1 then (s.regs.getD reg 0).toNat else 65535) := by
  unfold Md.send
  rw [Md.ones_idle s h0 h1 32]
  exact Md.sends_all { s with ones := min (s.ones + ((32 : Nat) : Int)) 32 } w op phy reg v hw h0 (by simp only; omega) hout
theorem mshown_1 : (Md.frameN 2 1 2 0 : Int) = 1619656704 := by decide
theorem mshown_2 : (Md.send (Md.send (Md.new 1) (Md.frameN 1 1 4 7)).1 (Md.frameN 2 1 4 0)).2 = 7 ∧ (Md.send (Md.send (Md.send (Md.new 1) (Md.frameN 1 1 4 7)).1 (Md.frameN 2 1 4 0)).1 (Md.frameN 2 2 4 0)).2 = 65535 := by decide +kernel
set_option maxHeartbeats 1000000 in
theorem mshown_ok (w : World) : Calls Try.prog 9 #[] w fun e w' => e = .returned (.bool true) ∧ Below w.heap.size w w' := by
  have M1 := Lib.hid mshown_1; have M2 := Lib.hid mshown_2
  go_enter Try.func9, Try.ntmps9
  go_wp2_with fail
  refine (frame_ok false 1 2 0 (by decide) (by decide) (by decide) _).mono ?_
  rintro e w' ⟨rfl, rfl⟩
  rw [show Md.opN false = 2 from rfl, M1.out]
  go_wp2_with fail
  refine (mnew_ok 1 (by decide) _).mono ?_
  rintro e w1 ⟨rfl, hS, hb⟩
  have HB := Lib.hid hb
  have HS := Lib.hid hS
  have HO := Lib.hid (Md.Ok.new 1 (by decide))
  clear hb hS
  go_wp2_with fail
  refine (mwrite_ok w.heap.size _ 1 4 7 (by decide) (by decide) (by decide) _ HS.out HO.out).mono ?_
  rintro e w2 ⟨rfl, hS, hM⟩
  have HM := Lib.hid hM
  replace HS := Lib.hid hS
  replace HO := Lib.hid (HO.out.send (Md.frameN 1 1 4 7))
  clear hS hM
  go_wp2_with fail
  refine (mread_ok w.heap.size _ 1 4 (by decide) (by decide) _ HS.out HO.out).mono ?_
  rintro e w3 ⟨rfl, hS, hM⟩
  replace HM := Lib.hid (HM.out.trans hM)
  replace HS := Lib.hid hS
  replace HO := Lib.hid (HO.out.send (Md.frameN 2 1 4 0))
  rw [M2.out.1]
  clear hS hM
  go_wp2_with fail
  refine (mread_ok w.heap.size _ 2 4 (by decide) (by decide) _ HS.out HO.out).mono ?_
  rintro e w4 ⟨rfl, hS, hM⟩
  replace HM := Lib.hid (HM.out.trans hM)
  rw [M2.out.2]
  clear hS hM
  go_wp2
  go_ret
  exact ⟨rfl, HB.out.trans (HM.out.below HB.out.size (by intro k hk; simp at hk; omega))⟩
end Go.Proofs.Ytkegljcndhckeac
