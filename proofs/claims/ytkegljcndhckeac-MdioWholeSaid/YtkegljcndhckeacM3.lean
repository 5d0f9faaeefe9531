import Derived.Test.YtkegljcndhckeacM2
namespace Go.Proofs.Ytkegljcndhckeac
open Go.RowKit
set_option linter.unusedVariables false
theorem head_ok (p : Nat) (s : Md.S) (i : Nat) (hi : i < 2) (w : World) (h : SlaveAt w p s) (hb : s.bits < 32) :
    Calls Try.prog 33 #[.pointer (some ⟨p, 0, none⟩), .int .i64 i] w fun e w' => Turns p w e (.returned (.int .i64 1)) (Md.head s i) w' := by
  unfold Md.head
  by_cases h2 : (Md.push s i).bits = 2
  · exact head_2 p s _ i hi w h hb rfl h2
  by_cases h4 : (Md.push s i).bits = 4
  · exact head_4 p s _ i hi w h hb rfl h4
  by_cases h14 : (Md.push s i).bits = 14
  · exact head_14 p s _ i hi w h hb rfl h14
  exact head_else p s _ i hi w h hb rfl h2 h4 h14
theorem tup2 {a b a' b' : Value} (h : a = a') (k : b = b') : Ending.returned (.tuple #[a, b]) = .returned (.tuple #[a', b']) := by rw [h, k]
theorem beq_cast (x n : Nat) : ((x : Int) == (n : Int)) = decide (x = n) := by rw [Bool.eq_iff_iff, beq_iff_eq, decide_eq_true_eq]; omega
theorem shr_nat (g k : Nat) : (g : Int) / 2 ^ k = ((g / 2 ^ k : Nat) : Int) := by rw [Int.natCast_ediv]; simp
theorem shr_lt {g : Nat} (h : g < 4294967296) (k : Nat) : g / 2 ^ k < 4294967296 := Nat.lt_of_le_of_lt (Nat.div_le_self _ _) h
set_option maxHeartbeats 400000 in
theorem mine_ok (p : Nat) (s : Md.S) (k : Nat) (hk : k ≤ 18) (w : World) (h : SlaveAt w p s) :
    Calls Try.prog 38 #[.pointer (some ⟨p, 0, none⟩), .int .i64 k] w fun e w' => Turns p w e (.returned (.tuple #[.bool (decide (((s.got / 2 ^ (k + 5) % 32 : Nat) : Int) = s.addr)), .bool (decide (s.got / 2 ^ (k + 10) % 4 = 1))])) s w' := by
  obtain ⟨c0, c33, c34, c35, c36, c37, c38, c39, c40, c41⟩ := slave_cells h
  have hg := h.fit.got
  obtain ⟨g, hgg⟩ : ∃ g, s.got = g := ⟨_, rfl⟩
  obtain ⟨ad, had⟩ : ∃ ad, s.addr = ad := ⟨_, rfl⟩
  rw [hgg] at c36 hg
  rw [had] at c33
  have HG := Lib.hid hgg; have HA := Lib.hid had
  have HS := Lib.hid h
  clear hgg had h
  go_enter Try.func38, Try.ntmps38
  go_wp2
  go_quiet (fail)
  go_wp2
  go_ret2
  refine ⟨tup2 (bool_ret ?_) (bool_ret ?_), SlaveAt.keep HS.out rfl, mv_drewN (Mv.refl _ _) _⟩
  · rw [HG.out, HA.out]
    show (wrap64 (bits .and .u32 ((g : Int) / 2 ^ (k + 5)) 31) == ad) = _
    rw [shr_nat, and31 _ (shr_lt hg _), IntWalk.wrap64_in _ ⟨by omega, by omega⟩]
    rfl
  · rw [HG.out]
    show (bits .and .u32 ((g : Int) / 2 ^ (k + 10)) 3 == 1) = _
    rw [shr_nat, and3 _ (shr_lt hg _)]
    exact beq_cast _ 1
set_option maxHeartbeats 1000000 in
theorem tail_low (p : Nat) (s s1 : Md.S) (i : Nat) (hi : i < 2) (w : World) (h : SlaveAt w p s) (hb : s.bits < 32) (hs1 : Md.push s i = s1) (b : Nat) (hb1 : s1.bits = b) (hb2 : 15 ≤ b) (hb3 : b ≤ 32) (hr : (Md.own s1 && !Md.writes s1 && decide (16 ≤ s1.bits)) = false) (h32 : b < 32) :
    Calls Try.prog 37 #[.pointer (some ⟨p, 0, none⟩), .int .i64 i] w fun e w' => Turns p w e (.returned (.int .i64 (Md.outB s1))) (Md.tail1 s1) w' := by
  have hg : s1.got < 4294967296 := by rw [← hs1]; exact Nat.mod_lt _ (by decide)
  have hou : 0 ≤ s1.out ∧ s1.out < 65536 := by rw [← hs1]; exact h.fit.out
  have PU := Lib.hid (push_ok p s i hi w h hb)
  have HS1 := Lib.hid hs1
  have HB1 := Lib.hid hb1
  have hmine := fun w h => mine_ok p s1 (b - 14) (by omega) w h
  have cb : ((b - 14 : Nat) : Int) = (b : Int) - 14 := by omega
  rw [cb] at hmine
  have eo : decide (((s1.got / 2 ^ (b - 14 + 5) % 32 : Nat) : Int) = s1.addr) = Md.own s1 := by unfold Md.own; rw [hb1, show ((b : Int) - 9).toNat = b - 14 + 5 by omega]
  have ew : decide (s1.got / 2 ^ (b - 14 + 10) % 4 = 1) = Md.writes s1 := by unfold Md.writes; rw [hb1, show ((b : Int) - 4).toNat = b - 14 + 10 by omega]
  rw [eo, ew] at hmine
  have ho : Md.outB s1 = 1 := by unfold Md.outB; rw [hr]; rfl
  have ht : Md.tail1 s1 = s1 := by unfold Md.tail1; rw [if_neg (by omega)]
  rw [ho, ht]
  rw [hb1] at hr
  obtain ⟨o, ho2⟩ : ∃ o, Md.own s1 = o := ⟨_, rfl⟩
  obtain ⟨wr, hw2⟩ : ∃ wr, Md.writes s1 = wr := ⟨_, rfl⟩
  rw [ho2, hw2] at hr hmine
  have HRR := Lib.hid hr
  have hn : ((b : Int) == 32) = false := by simp; omega
  clear ho ht ho2 hw2 hr
  have MINE := Lib.hid hmine
  clear h hb hs1 hb1 cb eo ew hmine
  go_enter Try.func37, Try.ntmps37
  go_wp2_with fail
  refine PU.out.mono ?_
  rintro e w1 ⟨rfl, hS, hM⟩
  rw [HS1.out] at hS
  obtain ⟨c0, c33, c34, c35, c36, c37, c38, c39, c40, c41⟩ := slave_cells hS
  rw [HB1.out] at c35
  have HM := Lib.hid hM
  have HS := Lib.hid hS
  clear hS hM
  go_wp2_with fail
  refine (MINE.out _ HS.out).mono ?_
  rintro e w2 ⟨rfl, hS, hM⟩
  clear c0 c33 c34 c35 c36 c37 c38 c39 c40 c41
  replace HM := Lib.hid (HM.out.trans hM)
  obtain ⟨c0, c33, c34, c35, c36, c37, c38, c39, c40, c41⟩ := slave_cells hS
  have f := hS.free
  rw [HB1.out] at c35
  have HS := Lib.hid hS
  clear hS hM
  cases o with
  | false =>
    go_wp2
    go_ret
    exact ⟨rfl, HS.out, HM.out⟩
  | true =>
    cases wr with
    | true =>
      go_wp2
      go_ret
      exact ⟨rfl, HS.out, HM.out⟩
    | false =>
      have h16 : (b : Int) < 16 := by have := HRR.out; simp at this; omega
      go_wp2
      go_ret
      exact ⟨rfl, HS.out, HM.out⟩
theorem out_bit (o : Int) (ho : 0 ≤ o ∧ o < 65536) (k : Nat) : wrap64 (bits .and .u32 (o / 2 ^ k) 1) = ((o.toNat / 2 ^ k % 2 : Nat) : Int) := by
  obtain ⟨n, rfl⟩ := Int.eq_ofNat_of_zero_le ho.1
  rw [shr_nat, and1 _ (shr_lt (by omega) _), IntWalk.wrap64_in _ ⟨by omega, by omega⟩]
  rfl
set_option maxHeartbeats 1000000 in
theorem tail_read (p : Nat) (s s1 : Md.S) (i : Nat) (hi : i < 2) (w : World) (h : SlaveAt w p s) (hb : s.bits < 32) (hs1 : Md.push s i = s1) (b : Nat) (hb1 : s1.bits = b) (hb2 : 15 ≤ b) (hb3 : b ≤ 32) (ho1 : Md.own s1 = true) (hw1 : Md.writes s1 = false) (h16 : 16 ≤ b) (h32 : b < 32) :
    Calls Try.prog 37 #[.pointer (some ⟨p, 0, none⟩), .int .i64 i] w fun e w' => Turns p w e (.returned (.int .i64 (Md.outB s1))) (Md.tail1 s1) w' := by
  have hg : s1.got < 4294967296 := by rw [← hs1]; exact Nat.mod_lt _ (by decide)
  have hou : 0 ≤ s1.out ∧ s1.out < 65536 := by rw [← hs1]; exact h.fit.out
  have PU := Lib.hid (push_ok p s i hi w h hb)
  have HS1 := Lib.hid hs1
  have HB1 := Lib.hid hb1
  have hmine := fun w h => mine_ok p s1 (b - 14) (by omega) w h
  have cb : ((b - 14 : Nat) : Int) = (b : Int) - 14 := by omega
  rw [cb] at hmine
  have eo : decide (((s1.got / 2 ^ (b - 14 + 5) % 32 : Nat) : Int) = s1.addr) = Md.own s1 := by unfold Md.own; rw [hb1, show ((b : Int) - 9).toNat = b - 14 + 5 by omega]
  have ew : decide (s1.got / 2 ^ (b - 14 + 10) % 4 = 1) = Md.writes s1 := by unfold Md.writes; rw [hb1, show ((b : Int) - 4).toNat = b - 14 + 10 by omega]
  rw [eo, ew] at hmine
  have ho : Md.outB s1 = ((s1.out.toNat / 2 ^ (32 - b) % 2 : Nat) : Int) := by unfold Md.outB; rw [ho1, hw1, hb1, if_pos (by simp; omega), show (32 - (b : Int)).toNat = 32 - b by omega]
  have ht : Md.tail1 s1 = s1 := by unfold Md.tail1; rw [if_neg (by omega)]
  rw [ho, ht]
  rw [ho1, hw1] at hmine
  have hn : ((b : Int) == 32) = false := by simp; omega
  have h16' : (16 : Int) ≤ b := by omega
  obtain ⟨d, hd⟩ : ∃ d, 32 - b = d := ⟨_, rfl⟩
  have hd2 : (32 : Int) - b = d := by omega
  rw [hd]
  have HD2 := Lib.hid hd2
  clear ho ht ho1 hw1 hd hd2
  have MINE := Lib.hid hmine
  clear h hb hs1 hb1 cb eo ew hmine
  go_enter Try.func37, Try.ntmps37
  go_wp2_with fail
  refine PU.out.mono ?_
  rintro e w1 ⟨rfl, hS, hM⟩
  rw [HS1.out] at hS
  obtain ⟨c0, c33, c34, c35, c36, c37, c38, c39, c40, c41⟩ := slave_cells hS
  rw [HB1.out] at c35
  have HM := Lib.hid hM
  have HS := Lib.hid hS
  clear hS hM
  go_wp2_with fail
  refine (MINE.out _ HS.out).mono ?_
  rintro e w2 ⟨rfl, hS, hM⟩
  clear c0 c33 c34 c35 c36 c37 c38 c39 c40 c41
  replace HM := Lib.hid (HM.out.trans hM)
  obtain ⟨c0, c33, c34, c35, c36, c37, c38, c39, c40, c41⟩ := slave_cells hS
  have f := hS.free
  rw [HB1.out] at c35
  have HS := Lib.hid hS
  clear hS hM
  have hd2 := HD2.out
  go_wp2
  go_quiet (fail)
  go_wp2
  go_ret
  refine ⟨congrArg Ending.returned (int_ret (out_bit _ hou _)), SlaveAt.keep HS.out rfl, mv_drewN HM.out _⟩
set_option maxHeartbeats 1000000 in
theorem tail_off (p : Nat) (s s1 : Md.S) (i : Nat) (hi : i < 2) (w : World) (h : SlaveAt w p s) (hb : s.bits < 32) (hs1 : Md.push s i = s1) (b : Nat) (hb1 : s1.bits = b) (hb2 : 15 ≤ b) (hb3 : b ≤ 32) (ho1 : Md.own s1 = false) (h32 : b = 32) :
    Calls Try.prog 37 #[.pointer (some ⟨p, 0, none⟩), .int .i64 i] w fun e w' => Turns p w e (.returned (.int .i64 (Md.outB s1))) (Md.tail1 s1) w' := by
  have hg : s1.got < 4294967296 := by rw [← hs1]; exact Nat.mod_lt _ (by decide)
  have hou : 0 ≤ s1.out ∧ s1.out < 65536 := by rw [← hs1]; exact h.fit.out
  have PU := Lib.hid (push_ok p s i hi w h hb)
  have HS1 := Lib.hid hs1
  have HB1 := Lib.hid hb1
  have hmine := fun w h => mine_ok p s1 (b - 14) (by omega) w h
  have cb : ((b - 14 : Nat) : Int) = (b : Int) - 14 := by omega
  rw [cb] at hmine
  have eo : decide (((s1.got / 2 ^ (b - 14 + 5) % 32 : Nat) : Int) = s1.addr) = Md.own s1 := by unfold Md.own; rw [hb1, show ((b : Int) - 9).toNat = b - 14 + 5 by omega]
  have ew : decide (s1.got / 2 ^ (b - 14 + 10) % 4 = 1) = Md.writes s1 := by unfold Md.writes; rw [hb1, show ((b : Int) - 4).toNat = b - 14 + 10 by omega]
  rw [eo, ew] at hmine
  subst h32
  have ho : Md.outB s1 = 1 := by unfold Md.outB; rw [ho1]; rfl
  have ht : Md.tail1 s1 = { s1 with ones := 0, ph := 0 } := by unfold Md.tail1; rw [if_pos (by rw [hb1]; rfl), ho1]; rfl
  rw [ho, ht]
  rw [ho1] at hmine
  obtain ⟨wr, hw2⟩ : ∃ wr, Md.writes s1 = wr := ⟨_, rfl⟩
  rw [hw2] at hmine
  clear ho ht ho1 hw2
  have MINE := Lib.hid hmine
  clear h hb hs1 hb1 cb eo ew hmine
  go_enter Try.func37, Try.ntmps37
  go_wp2_with fail
  refine PU.out.mono ?_
  rintro e w1 ⟨rfl, hS, hM⟩
  rw [HS1.out] at hS
  obtain ⟨c0, c33, c34, c35, c36, c37, c38, c39, c40, c41⟩ := slave_cells hS
  rw [HB1.out] at c35
  have HM := Lib.hid hM
  have HS := Lib.hid hS
  clear hS hM
  go_wp2_with fail
  refine (MINE.out _ HS.out).mono ?_
  rintro e w2 ⟨rfl, hS, hM⟩
  clear c0 c33 c34 c35 c36 c37 c38 c39 c40 c41
  replace HM := Lib.hid (HM.out.trans hM)
  obtain ⟨c0, c33, c34, c35, c36, c37, c38, c39, c40, c41⟩ := slave_cells hS
  have f := hS.free
  rw [HB1.out] at c35
  have OV := Lib.hid (over_ok p s1 0 (by omega) w2 hS)
  clear hS hM
  go_wp2_with (go_at_call 36; refine OV.out.mono ?_; rintro e w4 ⟨rfl, hS4, hM4⟩)
  go_ret
  exact ⟨rfl, hS4, HM.out.trans hM4⟩
set_option maxHeartbeats 1000000 in
theorem tail_put (p : Nat) (s s1 : Md.S) (i : Nat) (hi : i < 2) (w : World) (h : SlaveAt w p s) (hb : s.bits < 32) (hs1 : Md.push s i = s1) (b : Nat) (hb1 : s1.bits = b) (hb2 : 15 ≤ b) (hb3 : b ≤ 32) (ho1 : Md.own s1 = true) (hw1 : Md.writes s1 = true) (h32 : b = 32) :
    Calls Try.prog 37 #[.pointer (some ⟨p, 0, none⟩), .int .i64 i] w fun e w' => Turns p w e (.returned (.int .i64 (Md.outB s1))) (Md.tail1 s1) w' := by
  have hg : s1.got < 4294967296 := by rw [← hs1]; exact Nat.mod_lt _ (by decide)
  have hou : 0 ≤ s1.out ∧ s1.out < 65536 := by rw [← hs1]; exact h.fit.out
  have PU := Lib.hid (push_ok p s i hi w h hb)
  have HS1 := Lib.hid hs1
  have HB1 := Lib.hid hb1
  have hmine := fun w h => mine_ok p s1 (b - 14) (by omega) w h
  have cb : ((b - 14 : Nat) : Int) = (b : Int) - 14 := by omega
  rw [cb] at hmine
  have eo : decide (((s1.got / 2 ^ (b - 14 + 5) % 32 : Nat) : Int) = s1.addr) = Md.own s1 := by unfold Md.own; rw [hb1, show ((b : Int) - 9).toNat = b - 14 + 5 by omega]
  have ew : decide (s1.got / 2 ^ (b - 14 + 10) % 4 = 1) = Md.writes s1 := by unfold Md.writes; rw [hb1, show ((b : Int) - 4).toNat = b - 14 + 10 by omega]
  rw [eo, ew] at hmine
  subst h32
  have ho : Md.outB s1 = 1 := by unfold Md.outB; rw [ho1, hw1]; rfl
  have ht : Md.tail1 s1 = { Md.take s1 with ones := 0, ph := 0 } := by unfold Md.tail1; rw [if_pos (by rw [hb1]; rfl), ho1, hw1]; rfl
  rw [ho, ht]
  rw [ho1, hw1] at hmine
  obtain ⟨hr1, hr2⟩ := show 0 ≤ s1.reg ∧ s1.reg < 32 by rw [← hs1]; exact h.fit.reg
  obtain ⟨r, hr⟩ := Int.eq_ofNat_of_zero_le hr1
  have hr3 : r < 32 := by omega
  have HREG := Lib.hid hr
  have hgg : ∃ g : Nat, s1.got = g := ⟨_, rfl⟩
  obtain ⟨g, hgg⟩ := hgg
  have HG := Lib.hid hgg
  clear ho ht ho1 hw1 hr hgg hr1 hr2
  have MINE := Lib.hid hmine
  clear h hb hs1 hb1 cb eo ew hmine
  go_enter Try.func37, Try.ntmps37
  go_wp2_with fail
  refine PU.out.mono ?_
  rintro e w1 ⟨rfl, hS, hM⟩
  rw [HS1.out] at hS
  obtain ⟨c0, c33, c34, c35, c36, c37, c38, c39, c40, c41⟩ := slave_cells hS
  rw [HB1.out] at c35
  have HM := Lib.hid hM
  have HS := Lib.hid hS
  clear hS hM
  go_wp2_with fail
  refine (MINE.out _ HS.out).mono ?_
  rintro e w2 ⟨rfl, hS, hM⟩
  clear c0 c33 c34 c35 c36 c37 c38 c39 c40 c41
  replace HM := Lib.hid (HM.out.trans hM)
  obtain ⟨c0, c33, c34, c35, c36, c37, c38, c39, c40, c41⟩ := slave_cells hS
  have f := hS.free
  rw [HB1.out] at c35
  rw [HREG.out] at c38
  rw [HG.out] at c36
  have hcr := slave_reg hS r hr3
  have b0 : (0 : Int) ≤ (r : Int) := by omega
  have b1 : (r : Int) < 32 := by omega
  obtain ⟨⟨cs, hh, hk⟩, hfit⟩ := id hS
  have HH := Lib.hid (And.intro hh hk)
  have HFIT := Lib.hid hfit.take
  have HL := Lib.hid hfit.rl
  clear hh hk hfit hM
  have HS := Lib.hid hS
  clear hS
  go_wp2
  go_region
  all_goals go_wp2
  all_goals go_region
  all_goals go_wp2_with fail
  have et : Md.take s1 = { s1 with regs := s1.regs.set r ((g % 65536 : Nat) : Int), to := (r : Int), v := ((g % 65536 : Nat) : Int), took := true } := by unfold Md.take; rw [HREG.out, HG.out]; rfl
  have eg : IntKind.u16.wrap (g : Int) = ((g % 65536 : Nat) : Int) := by rw [IntKind.wrap_u16]; omega
  rw [eg]
  refine (over_ok p (Md.take s1) 0 (by omega) _ ?_).mono ?_
  · rw [et]
    exact ⟨⟨_, at_set (at_set (at_set (at_set HH.out (HH.out.2.rg HL.out r hr3 _)) ((HH.out.2.rg HL.out r hr3 _).to_ _)) (((HH.out.2.rg HL.out r hr3 _).to_ _).v_ _)) ((((HH.out.2.rg HL.out r hr3 _).to_ _).v_ _).took_ true)⟩, by rw [← et]; exact HFIT.out⟩
  replace HM := Lib.hid (HM.out.trans (mv_drew (mv_drew (mv_set (mv_set (mv_set (mv_set (Mv.refl _ w2) (1 + r) (.int .u16 ((g % 65536 : Nat) : Int))) 39 (.int .i64 r)) 40 (.int .u16 ((g % 65536 : Nat) : Int))) 41 (.bool true)))))
  rintro e w4 ⟨rfl, hS4, hM4⟩
  go_wp2
  go_ret
  exact ⟨rfl, hS4, HM.out.trans hM4⟩
set_option maxHeartbeats 1000000 in
theorem tail_tell (p : Nat) (s s1 : Md.S) (i : Nat) (hi : i < 2) (w : World) (h : SlaveAt w p s) (hb : s.bits < 32) (hs1 : Md.push s i = s1) (b : Nat) (hb1 : s1.bits = b) (hb2 : 15 ≤ b) (hb3 : b ≤ 32) (ho1 : Md.own s1 = true) (hw1 : Md.writes s1 = false) (h32 : b = 32) :
    Calls Try.prog 37 #[.pointer (some ⟨p, 0, none⟩), .int .i64 i] w fun e w' => Turns p w e (.returned (.int .i64 (Md.outB s1))) (Md.tail1 s1) w' := by
  have hg : s1.got < 4294967296 := by rw [← hs1]; exact Nat.mod_lt _ (by decide)
  have hou : 0 ≤ s1.out ∧ s1.out < 65536 := by rw [← hs1]; exact h.fit.out
  have PU := Lib.hid (push_ok p s i hi w h hb)
  have HS1 := Lib.hid hs1
  have HB1 := Lib.hid hb1
  have hmine := fun w h => mine_ok p s1 (b - 14) (by omega) w h
  have cb : ((b - 14 : Nat) : Int) = (b : Int) - 14 := by omega
  rw [cb] at hmine
  have eo : decide (((s1.got / 2 ^ (b - 14 + 5) % 32 : Nat) : Int) = s1.addr) = Md.own s1 := by unfold Md.own; rw [hb1, show ((b : Int) - 9).toNat = b - 14 + 5 by omega]
  have ew : decide (s1.got / 2 ^ (b - 14 + 10) % 4 = 1) = Md.writes s1 := by unfold Md.writes; rw [hb1, show ((b : Int) - 4).toNat = b - 14 + 10 by omega]
  rw [eo, ew] at hmine
  subst h32
  have ho : Md.outB s1 = ((s1.out.toNat / 2 ^ 0 % 2 : Nat) : Int) := by unfold Md.outB; rw [ho1, hw1, hb1]; rfl
  have ht : Md.tail1 s1 = { s1 with ones := 0, ph := 0 } := by unfold Md.tail1; rw [if_pos (by rw [hb1]; rfl), ho1, hw1]; rfl
  rw [ho, ht]
  rw [ho1, hw1] at hmine
  clear ho ht ho1 hw1
  have MINE := Lib.hid hmine
  clear h hb hs1 hb1 cb eo ew hmine
  go_enter Try.func37, Try.ntmps37
  go_wp2_with fail
  refine PU.out.mono ?_
  rintro e w1 ⟨rfl, hS, hM⟩
  rw [HS1.out] at hS
  obtain ⟨c0, c33, c34, c35, c36, c37, c38, c39, c40, c41⟩ := slave_cells hS
  rw [HB1.out] at c35
  have HM := Lib.hid hM
  have HS := Lib.hid hS
  clear hS hM
  go_wp2_with fail
  refine (MINE.out _ HS.out).mono ?_
  rintro e w2 ⟨rfl, hS, hM⟩
  clear c0 c33 c34 c35 c36 c37 c38 c39 c40 c41
  replace HM := Lib.hid (HM.out.trans hM)
  obtain ⟨c0, c33, c34, c35, c36, c37, c38, c39, c40, c41⟩ := slave_cells hS
  have f := hS.free
  rw [HB1.out] at c35
  have HS := Lib.hid hS
  clear hS hM
  go_wp2
  go_quiet (fail)
  go_wp2_with fail
  refine (over_ok p s1 0 (by omega) _ (SlaveAt.keep HS.out (by rfl))).mono ?_
  rintro e w4 ⟨rfl, hS4, hM4⟩
  go_wp2
  go_ret
  refine ⟨congrArg Ending.returned (int_ret (by have := out_bit _ hou 0; rw [show (2 : Int) ^ 0 = 1 from rfl, Int.ediv_one] at this; exact this)), hS4, (mv_drewN HM.out _).trans hM4⟩
theorem tail_ok (p : Nat) (s : Md.S) (i : Nat) (hi : i < 2) (w : World) (h : SlaveAt w p s) (hb1 : 14 ≤ s.bits) (hb2 : s.bits < 32) :
    Calls Try.prog 37 #[.pointer (some ⟨p, 0, none⟩), .int .i64 i] w fun e w' => Turns p w e (.returned (.int .i64 (Md.outB (Md.push s i)))) (Md.tail s i) w' := by
  unfold Md.tail
  have hb : (Md.push s i).bits = ((s.bits + 1).toNat : Nat) := by show s.bits + 1 = _; omega
  cases ho : Md.own (Md.push s i) with
  | true =>
    cases hw : Md.writes (Md.push s i) with
    | true =>
      by_cases h32 : (s.bits + 1).toNat = 32
      · exact tail_put p s _ i hi w h hb2 rfl _ hb (by omega) (by omega) ho hw h32
      · exact tail_low p s _ i hi w h hb2 rfl _ hb (by omega) (by omega) (by rw [ho, hw]; rfl) (by omega)
    | false =>
      by_cases h32 : (s.bits + 1).toNat = 32
      · exact tail_tell p s _ i hi w h hb2 rfl _ hb (by omega) (by omega) ho hw h32
      · by_cases h16 : 16 ≤ (s.bits + 1).toNat
        · exact tail_read p s _ i hi w h hb2 rfl _ hb (by omega) (by omega) ho hw h16 (by omega)
        · exact tail_low p s _ i hi w h hb2 rfl _ hb (by omega) (by omega) (by rw [ho, hw, hb]; simp; omega) (by omega)
  | false =>
    by_cases h32 : (s.bits + 1).toNat = 32
    · exact tail_off p s _ i hi w h hb2 rfl _ hb (by omega) (by omega) ho h32
    · exact tail_low p s _ i hi w h hb2 rfl _ hb (by omega) (by omega) (by rw [ho]; rfl) (by omega)
end Go.Proofs.Ytkegljcndhckeac
