import Derived.Test.YtkegljcndhckeacM1
namespace Go.Proofs.Ytkegljcndhckeac
open Go.RowKit
set_option linter.unusedVariables false
theorem and3 (g : Nat) (h : g < 4294967296) : bits .and .u32 (g : Int) 3 = ((g % 4 : Nat) : Int) := by
  rw [show (3 : Int) = ((3 : Nat) : Int) from rfl, u32_and_nat _ _ h (by decide), show g &&& 3 = g % 4 from Nat.and_two_pow_sub_one_eq_mod g 2]
theorem and31 (g : Nat) (h : g < 4294967296) : bits .and .u32 (g : Int) 31 = ((g % 32 : Nat) : Int) := by
  rw [show (31 : Int) = ((31 : Nat) : Int) from rfl, u32_and_nat _ _ h (by decide), show g &&& 31 = g % 32 from Nat.and_two_pow_sub_one_eq_mod g 5]
theorem and1 (g : Nat) (h : g < 4294967296) : bits .and .u32 (g : Int) 1 = ((g % 2 : Nat) : Int) := by
  rw [show (1 : Int) = ((1 : Nat) : Int) from rfl, u32_and_nat _ _ h (by decide), show g &&& 1 = g % 2 from Nat.and_two_pow_sub_one_eq_mod g 1]
set_option maxHeartbeats 400000 in
theorem head_2 (p : Nat) (s s1 : Md.S) (i : Nat) (hi : i < 2) (w : World) (h : SlaveAt w p s) (hb : s.bits < 32) (hs1 : Md.push s i = s1) (h2 : s1.bits = 2) :
    Calls Try.prog 33 #[.pointer (some ⟨p, 0, none⟩), .int .i64 i] w fun e w' => Turns p w e (.returned (.int .i64 1)) (Md.head1 s1 i) w' := by
  have hg : s1.got < 4294967296 := by rw [← hs1]; exact Nat.mod_lt _ (by decide)
  have PU := Lib.hid (push_ok p s i hi w h hb)
  have HS1 := Lib.hid hs1
  have hd : i = 0 → Md.head1 s1 0 = { s1 with ones := (0 : Nat), ph := 0 } := fun _ => by unfold Md.head1; rw [if_pos (by simp [Md.endB, h2])]
  have hd2 : i = 1 → Md.head1 s1 1 = s1 := fun _ => by unfold Md.head1; rw [if_neg (by simp [Md.endB, h2]), if_neg (by omega)]
  have HD0 := Lib.hid hd; have HD1 := Lib.hid hd2; have H2 := Lib.hid h2
  clear hd hd2 h2 hg
  clear h hb hs1
  go_enter Try.func33, Try.ntmps33
  go_wp2_with fail
  refine PU.out.mono ?_
  rintro e w1 ⟨rfl, hS, hM⟩
  rw [HS1.out] at hS
  obtain ⟨c0, c33, c34, c35, c36, c37, c38, c39, c40, c41⟩ := slave_cells hS
  have f := hS.free
  have HM := Lib.hid hM
  have HR := Lib.hid (fun r hr => slave_reg hS r hr)
  have HOV := Lib.hid (fun i hi => over_ok p s1 i hi w1 hS)
  have HFIT := Lib.hid hS.fit.reads
  obtain ⟨⟨cs, hh, hk⟩, -⟩ := id hS
  have HH := Lib.hid (And.intro hh hk)
  have HS := Lib.hid hS
  clear hh hk hM hS
  rw [H2.out] at c35
  rcases (show i = 0 ∨ i = 1 by omega) with rfl | rfl
  · have HD := Lib.hid (HD0.out rfl)
    go_wp2_with (go_at_call 36; refine (HOV.out _ (by omega)).mono ?_; rintro e w2 ⟨rfl, hS2, hM2⟩)
    go_ret
    exact ⟨rfl, by rw [HD.out]; exact hS2, HM.out.trans hM2⟩
  · have HD := Lib.hid (HD1.out rfl)
    go_wp2
    go_ret
    exact ⟨rfl, by rw [HD.out]; exact HS.out, HM.out⟩
set_option maxHeartbeats 400000 in
theorem head_4 (p : Nat) (s s1 : Md.S) (i : Nat) (hi : i < 2) (w : World) (h : SlaveAt w p s) (hb : s.bits < 32) (hs1 : Md.push s i = s1) (h4 : s1.bits = 4) :
    Calls Try.prog 33 #[.pointer (some ⟨p, 0, none⟩), .int .i64 i] w fun e w' => Turns p w e (.returned (.int .i64 1)) (Md.head1 s1 i) w' := by
  have hg : s1.got < 4294967296 := by rw [← hs1]; exact Nat.mod_lt _ (by decide)
  have PU := Lib.hid (push_ok p s i hi w h hb)
  have HS1 := Lib.hid hs1
  have hd : s1.got % 4 ≠ 1 → s1.got % 4 ≠ 2 → Md.head1 s1 i = { s1 with ones := i, ph := 0 } := fun a b => by unfold Md.head1; rw [if_pos (by simp [Md.endB, h4, a, b])]
  have hd2 : (s1.got % 4 = 1 ∨ s1.got % 4 = 2) → Md.head1 s1 i = s1 := fun a => by unfold Md.head1; rw [if_neg (by simp [Md.endB, h4]; omega), if_neg (by omega)]
  have HD0 := Lib.hid hd; have HD1 := Lib.hid hd2; have H4 := Lib.hid h4
  have e4 := and3 s1.got hg
  have E4 := Lib.hid e4
  clear hd hd2 h4 hg e4
  clear h hb hs1
  go_enter Try.func33, Try.ntmps33
  go_wp2_with fail
  refine PU.out.mono ?_
  rintro e w1 ⟨rfl, hS, hM⟩
  rw [HS1.out] at hS
  obtain ⟨c0, c33, c34, c35, c36, c37, c38, c39, c40, c41⟩ := slave_cells hS
  have f := hS.free
  have HM := Lib.hid hM
  have HR := Lib.hid (fun r hr => slave_reg hS r hr)
  have HOV := Lib.hid (fun i hi => over_ok p s1 i hi w1 hS)
  have HFIT := Lib.hid hS.fit.reads
  obtain ⟨⟨cs, hh, hk⟩, -⟩ := id hS
  have HH := Lib.hid (And.intro hh hk)
  have HS := Lib.hid hS
  clear hh hk hM hS
  rw [H4.out] at c35
  rcases (show s1.got % 4 = 0 ∨ s1.got % 4 = 1 ∨ s1.got % 4 = 2 ∨ s1.got % 4 = 3 by omega) with q | q | q | q
  · have HD := Lib.hid (HD0.out (by omega) (by omega))
    have e4 : bits .and .u32 (s1.got : Int) 3 = 0 := by rw [E4.out, q]; rfl
    clear q
    go_wp2_with (go_at_call 36; refine (HOV.out _ (by omega)).mono ?_; rintro e w2 ⟨rfl, hS2, hM2⟩)
    go_ret
    exact ⟨rfl, by rw [HD.out]; exact hS2, HM.out.trans hM2⟩
  · have HD := Lib.hid (HD1.out (by omega))
    have e4 : bits .and .u32 (s1.got : Int) 3 = 1 := by rw [E4.out, q]; rfl
    clear q
    go_wp2
    go_ret
    exact ⟨rfl, by rw [HD.out]; exact HS.out, HM.out⟩
  · have HD := Lib.hid (HD1.out (by omega))
    have e4 : bits .and .u32 (s1.got : Int) 3 = 2 := by rw [E4.out, q]; rfl
    clear q
    go_wp2
    go_ret
    exact ⟨rfl, by rw [HD.out]; exact HS.out, HM.out⟩
  · have HD := Lib.hid (HD0.out (by omega) (by omega))
    have e4 : bits .and .u32 (s1.got : Int) 3 = 3 := by rw [E4.out, q]; rfl
    clear q
    go_wp2_with (go_at_call 36; refine (HOV.out _ (by omega)).mono ?_; rintro e w2 ⟨rfl, hS2, hM2⟩)
    go_ret
    exact ⟨rfl, by rw [HD.out]; exact hS2, HM.out.trans hM2⟩
set_option maxHeartbeats 400000 in
theorem head_14 (p : Nat) (s s1 : Md.S) (i : Nat) (hi : i < 2) (w : World) (h : SlaveAt w p s) (hb : s.bits < 32) (hs1 : Md.push s i = s1) (h14 : s1.bits = 14) :
    Calls Try.prog 33 #[.pointer (some ⟨p, 0, none⟩), .int .i64 i] w fun e w' => Turns p w e (.returned (.int .i64 1)) (Md.head1 s1 i) w' := by
  have hg : s1.got < 4294967296 := by rw [← hs1]; exact Nat.mod_lt _ (by decide)
  have PU := Lib.hid (push_ok p s i hi w h hb)
  have HS1 := Lib.hid hs1
  have hd : Md.head1 s1 i = { s1 with reg := (s1.got % 32 : Nat), out := s1.regs.getD (s1.got % 32) 0, ph := 2 } := by unfold Md.head1; rw [if_neg (by simp [Md.endB, h14]), if_pos h14]
  have HD := Lib.hid hd; have H14 := Lib.hid h14
  have e31 := and31 s1.got hg
  have hr : s1.got % 32 < 32 := by omega
  obtain ⟨r, hrr⟩ : ∃ r, s1.got % 32 = r := ⟨_, rfl⟩
  rw [hrr] at hd e31 hr HD
  have RR := Lib.hid hrr
  clear hd h14 hg hrr
  clear h hb hs1
  go_enter Try.func33, Try.ntmps33
  go_wp2_with fail
  refine PU.out.mono ?_
  rintro e w1 ⟨rfl, hS, hM⟩
  rw [HS1.out] at hS
  obtain ⟨c0, c33, c34, c35, c36, c37, c38, c39, c40, c41⟩ := slave_cells hS
  have f := hS.free
  have HM := Lib.hid hM
  have HR := Lib.hid (fun r hr => slave_reg hS r hr)
  have HOV := Lib.hid (fun i hi => over_ok p s1 i hi w1 hS)
  have HFIT := Lib.hid hS.fit.reads
  obtain ⟨⟨cs, hh, hk⟩, -⟩ := id hS
  have HH := Lib.hid (And.intro hh hk)
  have HS := Lib.hid hS
  clear hh hk hM hS
  rw [H14.out] at c35
  rw [RR.out] at HFIT
  have hcr := HR.out r hr
  have b0 : (0 : Int) ≤ (r : Int) := by omega
  have b1 : (r : Int) < 32 := by omega
  go_wp2
  go_region
  all_goals go_wp2
  all_goals go_ret
  all_goals exact ⟨rfl, by rw [HD.out]; exact ⟨⟨_, at_set (at_set (at_set HH.out (HH.out.2.reg_ r)) ((HH.out.2.reg_ r).out_ _)) (((HH.out.2.reg_ r).out_ _).next 2)⟩, by simpa using HFIT.out⟩, HM.out.trans (mv_drew (mv_set (mv_set (mv_set (Mv.refl _ _) _ _) _ _) _ _))⟩
set_option maxHeartbeats 400000 in
theorem head_else (p : Nat) (s s1 : Md.S) (i : Nat) (hi : i < 2) (w : World) (h : SlaveAt w p s) (hb : s.bits < 32) (hs1 : Md.push s i = s1) (h2 : ¬ s1.bits = 2) (h4 : ¬ s1.bits = 4) (h14 : ¬ s1.bits = 14) :
    Calls Try.prog 33 #[.pointer (some ⟨p, 0, none⟩), .int .i64 i] w fun e w' => Turns p w e (.returned (.int .i64 1)) (Md.head1 s1 i) w' := by
  have hg : s1.got < 4294967296 := by rw [← hs1]; exact Nat.mod_lt _ (by decide)
  have PU := Lib.hid (push_ok p s i hi w h hb)
  have HS1 := Lib.hid hs1
  have hd : Md.head1 s1 i = s1 := by unfold Md.head1; rw [if_neg (by simp [Md.endB, h2, h4]), if_neg h14]
  have HD := Lib.hid hd
  have n2 : (s1.bits == 2) = false := by simp [h2]
  have n4 : (s1.bits == 4) = false := by simp [h4]
  have n14 : (s1.bits == 14) = false := by simp [h14]
  clear hd h2 h4 h14 hg
  clear h hb hs1
  go_enter Try.func33, Try.ntmps33
  go_wp2_with fail
  refine PU.out.mono ?_
  rintro e w1 ⟨rfl, hS, hM⟩
  rw [HS1.out] at hS
  obtain ⟨c0, c33, c34, c35, c36, c37, c38, c39, c40, c41⟩ := slave_cells hS
  have f := hS.free
  have HM := Lib.hid hM
  have HR := Lib.hid (fun r hr => slave_reg hS r hr)
  have HOV := Lib.hid (fun i hi => over_ok p s1 i hi w1 hS)
  have HFIT := Lib.hid hS.fit.reads
  obtain ⟨⟨cs, hh, hk⟩, -⟩ := id hS
  have HH := Lib.hid (And.intro hh hk)
  have HS := Lib.hid hS
  clear hh hk hM hS
  go_wp2
  go_ret
  exact ⟨rfl, by rw [HD.out]; exact HS.out, HM.out⟩
end Go.Proofs.Ytkegljcndhckeac
