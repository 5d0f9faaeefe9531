import Derived.Test.YtkegljcndhckeacM7
namespace Go.Proofs.Ytkegljcndhckeac
open Go.RowKit
set_option linter.unusedVariables false
namespace Md
theorem told_idle (s : S) (i : Nat) (h : s.ph ≠ 2) : told s i = 1 := by unfold told; rw [if_neg h]
theorem rows_yes (a r v : Nat) (s : S) (w : Nat) (hw : IsFrame w 1 a r v) (h0 : s.ph = 0) (h1 : s.ones = 32) (had : s.addr = a) (hout : 0 ≤ s.regs.getD r 0 ∧ s.regs.getD r 0 < 65536) :
    (∀ k, k < 32 → told (sends s w k).1 (w / 2 ^ (31 - k) % 2) = 1) ∧ (sends s w 32).1.took = true := by
  refine ⟨fun k hk => ?_, ?_⟩
  · rcases Nat.lt_or_ge k 14 with c | c
    · refine told_idle _ _ ?_
      rcases Nat.eq_zero_or_pos k with c0 | c0
      · subst c0; show s.ph ≠ 2; omega
      · obtain ⟨j, rfl⟩ : ∃ j, k = j + 1 := ⟨k - 1, by omega⟩
        rw [sends_head s w 1 a r v hw h0 h1 j (by omega)]
        exact (by decide : (1 : Nat) ≠ 2)
    · rw [told_at s w 1 a r v hw h0 h1 k c hk, if_neg (by simp)]
  · rw [sends_all s w 1 a r v hw h0 h1 hout, if_pos ⟨had.symm, rfl⟩]
theorem rows_no (s : S) (w : Nat) (hw : w < 2147483648) (h0 : s.ph = 0) (h1 : 0 ≤ s.ones ∧ s.ones < 32) (k : Nat) (hk : k ≤ 32) :
    (sends s w k).1.ph = 0 ∧ (sends s w k).1.regs = s.regs ∧ (sends s w k).1.took = s.took ∧ 0 ≤ (sends s w k).1.ones ∧ (sends s w k).1.ones < 32 ∧ (1 ≤ k → (sends s w k).1.ones < k) := by
  induction k with
  | zero => exact ⟨h0, rfl, rfl, h1.1, h1.2, fun h => by omega⟩
  | succ k ih =>
    obtain ⟨i1, i2, i3, i4, i5, i6⟩ := ih (by omega)
    have hb : k = 0 → w / 2 ^ (31 - k) % 2 = 0 := fun e => by subst e; rw [show w / 2 ^ (31 - 0) = 0 from Nat.div_eq_of_lt hw]
    rw [sends]
    show (clock (sends s w k).1 _).ph = 0 ∧ (clock (sends s w k).1 _).regs = _ ∧ (clock (sends s w k).1 _).took = _ ∧ 0 ≤ (clock (sends s w k).1 _).ones ∧ (clock (sends s w k).1 _).ones < 32 ∧ (1 ≤ k + 1 → (clock (sends s w k).1 _).ones < _)
    generalize (sends s w k).1 = u at *
    generalize w / 2 ^ (31 - k) % 2 = b at *
    unfold clock idle
    rw [if_pos i1]
    by_cases c : b = 1
    · rw [if_pos c]
      have hk1 : 1 ≤ k := by
        rcases Nat.eq_zero_or_pos k with e | e
        · have := hb e; omega
        · exact e
      have := i6 hk1
      refine ⟨i1, i2, i3, ?_, ?_, fun _ => ?_⟩ <;> simp only <;> omega
    · rw [if_neg c, if_neg (by omega)]
      refine ⟨i1, i2, i3, ?_, ?_, fun _ => ?_⟩ <;> simp only <;> omega
theorem rows_law (a r v n : Nat) (ha : a < 32) (hr : r < 32) (hv : v < 65536) :
    (∀ k, k < 32 → told (sends (ones (new a) n) (frameN 1 a r v) k).1 (frameN 1 a r v / 2 ^ (31 - k) % 2) = 1) ∧ (sends (ones (new a) n) (frameN 1 a r v) 32).1.took = decide (32 ≤ n) ∧
      (n < 32 → get (sends (ones (new a) n) (frameN 1 a r v) 32).1 r = 0) := by
  have f1 : IsFrame (frameN 1 a r v) 1 a r v := ⟨rfl, .inl rfl, ha, hr, hv⟩
  have e := ones_idle (new a) rfl (by simp [new]) n
  have e2 : (new (a : Int)).ones + (n : Int) = n := by show (0 : Int) + n = n; omega
  rw [e2] at e
  have g : (new (a : Int)).regs.getD r 0 = 0 := by
    show (List.replicate 32 (0 : Int)).getD r 0 = 0
    rw [List.getD_eq_getElem?_getD]
    generalize (32 : Nat) = q at *
    simp [hr]
  rw [e]
  by_cases c : 32 ≤ n
  · obtain ⟨h1, h2⟩ := rows_yes a r v { new a with ones := min (n : Int) 32 } _ f1 rfl (by simp only; omega) rfl (by show 0 ≤ (new (a : Int)).regs.getD r 0 ∧ (new (a : Int)).regs.getD r 0 < 65536; rw [g]; decide)
    exact ⟨h1, by rw [h2]; simp [c], fun h => by omega⟩
  · have hn := fun k hk => rows_no { new (a : Int) with ones := min (n : Int) 32 } _ f1.lt rfl (by simp only; omega) k hk
    refine ⟨fun k hk => told_idle _ _ (by rw [(hn k (by omega)).1]; decide), ?_, fun _ => ?_⟩
    · rw [(hn 32 (by omega)).2.2.1]; simp [new]; omega
    · unfold get
      rw [if_pos (by omega), (hn 32 (by omega)).2.1]
      exact g
theorem ones_told (a : Int) (k : Nat) : told (ones (new a) k) 1 = 1 := by
  refine told_idle _ _ ?_
  rw [ones_idle (new a) rfl (by simp [new]) k]
  exact (by decide : (0 : Nat) ≠ 2)
end Md
set_option maxHeartbeats 2000000 in
theorem mdioRows_any (a r v n : Nat) (w : World) (ha : a < 32) (hr : r < 32) (hv : v < 65536) (hn : n < 40) (n1 n2 n4 : Int) (q1 : 0 ≤ n1 ∧ n1 < 256) (q2 : 0 ≤ n2 ∧ n2 < 256) (q4 : 0 ≤ n4 ∧ n4 < 256) (k1 : n1 % 32 = a) (k2 : n2 % 32 = r) (k4 : n4 % 40 = n) :
    Calls Try.prog 3 #[.int .u8 n1, .int .u8 n2, .int .u16 v, .int .u8 n4] w fun e w' => e = .returned (.bool true) ∧ Below w.heap.size w w' := by
  have LAW := Lib.hid (Md.rows_law a r v n ha hr hv)
  have ho := Md.Ok.new (a : Int) (by omega)
  have HO := Lib.hid (fun k => ho.onesK k)
  have HC := Lib.hid (fun p s n w h o => clock_ok p s n w h o)
  have H1 := Lib.hid (show Md.ones (Md.new a) 0 = Md.new a from rfl)
  have H2 := Lib.hid (show ∀ k, Md.clock (Md.ones (Md.new a) k) 1 = Md.ones (Md.new a) (k + 1) from fun _ => rfl)
  have HT := Lib.hid (Md.ones_told a)
  have hwf : Md.frameN 1 a r v < 4294967296 := Nat.lt_trans (IsFr true a r v ha hr hv).lt (by decide)
  have FR := Lib.hid (fun w => frame_ok true a r v ha hr hv w)
  rw [show Md.opN true = 1 from rfl] at FR
  obtain ⟨wd, hwd⟩ : ∃ wd, Md.frameN 1 a r v = wd := ⟨_, rfl⟩
  rw [hwd] at LAW hwf FR
  obtain ⟨on, hon⟩ : ∃ on, Md.ones (Md.new a) = on := ⟨_, rfl⟩
  rw [hon] at HO H1 H2 LAW HT
  have HO2 := Lib.hid (fun k => (HO.out n).sends wd k)
  have H3 := Lib.hid (show (Md.sends (on n) wd 0).1 = on n from rfl)
  have H4 := Lib.hid (fun k => show (Md.sends (on n) wd (k + 1)).1 = Md.clock (Md.sends (on n) wd k).1 (wd / 2 ^ (31 - k) % 2) from rfl)
  obtain ⟨sd, hsd⟩ : ∃ sd : Nat → Md.S, (fun k => (Md.sends (on n) wd k).1) = sd := ⟨_, rfl⟩
  have hsd2 : ∀ k, (Md.sends (on n) wd k).1 = sd k := fun k => congrFun hsd k
  simp only [hsd2] at HO2 H3 H4 LAW
  have K1 := Lib.hid k1; have K2 := Lib.hid k2; have K4 := Lib.hid k4
  obtain ⟨a1, a2⟩ := q1; obtain ⟨b1, b2⟩ := q2; obtain ⟨c1, c2⟩ := q4
  have ha' : (a : Int) < 32 := by omega
  have hr' : (r : Int) < 32 := by omega
  have hv' : (v : Int) < 65536 := by omega
  have hwd' : (wd : Int) < 4294967296 := by omega
  clear ho hwd hon hsd hsd2 k1 k2 k4
  go_enter Try.func3, Try.ntmps3
  go_wp2_with fail
  refine (mshown_ok _).mono ?_
  rintro e w1 ⟨rfl, hb⟩
  have HB := Lib.hid hb
  clear hb
  go_wp2_with fail
  rw [K1.out, K2.out, K4.out]
  refine (mnew_ok (a : Int) (by omega) _).mono ?_
  rintro e w2 ⟨rfl, hS, hb⟩
  have HM := Lib.hid hb
  have HS := Lib.hid hS
  clear hS hb
  go_wp2_with fail
  refine (FR.out _).mono ?_
  rintro e w3 ⟨rfl, rfl⟩
  go_wp2_with fail
  go_loopw [17] (fun i wr => ∃ k : Nat, k ≤ n ∧ i = .int .i64 k ∧ Hid (SlaveAt wr w1.heap.size (on k) ∧ Mv [w1.heap.size] [w1.heap.size] w2 wr)) (fun i _ => n - (intOf i).toNat)
  case atStart => exact ⟨0, by omega, rfl, Lib.hid ⟨by rw [H1.out]; exact HS.out, Mv.refl _ _⟩⟩
  case round =>
    obtain ⟨k, hk, rfl, HR⟩ := hrel
    by_cases hlt : (k : Int) < n
    · go_wp2_with (go_at_call 12; refine (HC.out _ (on k) 1 _ HR.out.1 (HO.out k)).mono ?_; rintro e w1 ⟨rfl, hS1, hM1⟩; rw [show inN 1 = 1 from rfl, HT.out k])
      go_roundw
      case rel => exact ⟨k + 1, by omega, by go_num, Lib.hid ⟨by rw [← H2.out]; exact hS1, HR.out.2.trans hM1⟩⟩
      case measure => simp [intOf]; omega
    · obtain rfl : k = n := by omega
      go_wp2
      go_loopw [18] (fun i wr => ∃ k : Nat, k ≤ 32 ∧ i = .int .i64 (31 - (k : Int)) ∧ Hid (SlaveAt wr w1.heap.size (sd k) ∧ Mv [w1.heap.size] [w1.heap.size] w2 wr)) (fun i _ => (intOf i + 1).toNat)
      case atStart => exact ⟨0, by omega, rfl, Lib.hid ⟨by rw [H3.out]; exact HR.out.1, HR.out.2⟩⟩
      case round =>
        obtain ⟨j, hj, rfl, HR2⟩ := hrel
        by_cases hlt : j < 32
        · obtain ⟨i, hi⟩ : ∃ i, 31 - j = i := ⟨_, rfl⟩
          have hji : (31 : Int) - j = i := by omega
          have hj31 : i < 32 := by omega
          have hb2 : wd / 2 ^ i % 2 < 2 := Nat.mod_lt _ (by decide)
          have hcl := HC.out w1.heap.size (sd j) ((wd / 2 ^ i % 2 : Nat) : Int) wr HR2.out.1 (HO2.out j)
          have hin : inN ((wd / 2 ^ i % 2 : Nat) : Int) = wd / 2 ^ i % 2 := by unfold inN; split <;> omega
          have hla := LAW.out.1 j hlt
          have h4 := H4.out j
          rw [hi] at hla h4
          rw [hin, hla, ← h4] at hcl
          have hw1 : wrap64 (bits .and .u32 ((wd : Int) / 2 ^ i) 1) = ((wd / 2 ^ i % 2 : Nat) : Int) := by rw [shr_nat, and1 _ (shr_lt hwf _), IntWalk.wrap64_in _ ⟨by omega, by omega⟩]
          rw [hji]
          have HJI := Lib.hid hji
          have HW1 := Lib.hid hw1; have HCL := Lib.hid hcl
          clear hi hji h4 hin hw1 hcl hla
          go_wp2_with fail
          rw [HW1.out]
          refine HCL.out.mono ?_
          rintro e w4 ⟨rfl, hS1, hM1⟩
          have HS1 := Lib.hid hS1; have HM1 := Lib.hid hM1
          clear hS1 hM1
          go_wp2
          go_roundw
          case rel => exact ⟨j + 1, by omega, by have := HJI.out; exact int_ret (by omega), Lib.hid ⟨HS1.out, HR2.out.2.trans HM1.out⟩⟩
          case measure => simp [intOf]
        · obtain rfl : j = 32 := by omega
          have hla := LAW.out.2
          have HEND := Lib.hid ((HB.out.trans (HM.out.mono HB.out.size)).trans ((HR2.out.2.below HM.out.size (by intro k hk; simp at hk; omega)).mono HB.out.size))
          by_cases c : 32 ≤ k
          · have htk := hla.1
            rw [decide_eq_true c] at htk
            have HTK := Lib.hid htk
            have ck : decide ((32 : Int) ≤ k) = true := by simp; omega
            clear hla htk c
            go_wp2_with fail
            refine (took_ok w1.heap.size _ _ HR2.out.1 HTK.out).mono ?_
            rintro e w6 ⟨rfl, hS, hM⟩
            have HME := Lib.hid (HEND.out.trans ((hM.below (Nat.le_of_lt HR2.out.1.lt) (by intro k hk; simp at hk; omega)).mono HB.out.size))
            clear hS hM
            go_wp2
            go_ret
            exact ⟨rfl, HME.out⟩
          · have htk := hla.1
            rw [decide_eq_false c] at htk
            have hg := hla.2 (by omega)
            have HTK := Lib.hid htk; have HG := Lib.hid hg
            have ck : decide ((32 : Int) ≤ k) = false := by simp; omega
            clear hla htk hg c
            go_wp2_with fail
            refine (took_no w1.heap.size _ _ HR2.out.1 HTK.out).mono ?_
            rintro e w6 ⟨rfl, rfl⟩
            go_wp2_with fail
            refine (get_ok w1.heap.size _ (r : Int) _ HR2.out.1).mono ?_
            rintro e w7 ⟨rfl, rfl⟩
            rw [HG.out]
            go_wp2
            go_ret
            exact ⟨rfl, HEND.out⟩
theorem mdioRows_walk (n1 n2 v n4 : Int) (w : World) (x1 : (Lit.int .u8 n1).wf = true) (x2 : (Lit.int .u8 n2).wf = true) (x3 : (Lit.int .u16 v).wf = true) (x4 : (Lit.int .u8 n4).wf = true) :
    Calls Try.prog 3 #[.int .u8 n1, .int .u8 n2, .int .u16 v, .int .u8 n4] w fun e w' => e = .returned (.bool true) ∧ Below w.heap.size w w' := by
  have h3 := wf_u16 x3
  obtain ⟨v, rfl⟩ := Int.eq_ofNat_of_zero_le h3.1
  exact mdioRows_any (n1 % 32).toNat (n2 % 32).toNat v (n4 % 40).toNat w (by omega) (by omega) (by omega) (by omega) n1 n2 n4 (wf_u8 x1) (wf_u8 x2) (wf_u8 x4) (by omega) (by omega) (by omega)
end Go.Proofs.Ytkegljcndhckeac
