import Derived.Test.YtkegljcndhckeaaRM5
import Derived.Test.YtkegljcndhckeaaRM7
namespace Go.Proofs.Ytkegljcndhckeaa
open Go.RowKit
set_option linter.unusedVariables false
theorem rdV_at {R : Rm.Ram} {q : Nat} (h : q < R.ws.length) : Rm.rdV R (4 * (q : Int)) = R.ws.getD q 0 ∧ Rm.rdE R (4 * (q : Int)) = 0 := by
  have hi : Rm.is R (4 * (q : Int)) = true := Rm.is_iff.2 ⟨by omega, by omega⟩
  have hq : (4 * (q : Int) / 4).toNat = q := by omega
  exact ⟨by simp [Rm.rdV, hi, hq], by simp [Rm.rdE, hi]⟩
theorem dumpOk_at (R : Rm.Ram) (q n : Nat) (h : q + n ≤ R.ws.length) : Rm.dumpOk R (4 * (q : Int)) n = true := by
  unfold Rm.dumpOk
  rw [decide_eq_true_eq]
  omega
theorem dump_len (R : Rm.Ram) (q n : Nat) (h : q + n ≤ R.ws.length) : (Rm.dump R (4 * (q : Int)) n).length = n := by
  have hq : (4 * (q : Int) / 4).toNat = q := by omega
  simp [Rm.dump, hq]; omega
theorem dump_at (R : Rm.Ram) (q n k : Nat) (hk : k < n) : (Rm.dump R (4 * (q : Int)) n).getD k 0 = R.ws.getD (q + k) 0 := by
  have hq : (4 * (q : Int) / 4).toNat = q := by omega
  simp [Rm.dump, hq, List.getD_eq_getElem?_getD, List.getElem?_take, hk]
set_option maxRecDepth 20000 in
set_option maxHeartbeats 2000000 in
theorem ramDumps_walk (v0 : Value) (xs : List Int) (a n : Int) (w : World) (r0 : Rd w v0 (nums .u32 xs)) (x0 : ∀ n ∈ xs, (Lit.int .u32 n).wf = true) (l0 : xs.length * 4 ≤ 140737488351232) (x1 : (Lit.int .u8 a).wf = true) (x2 : (Lit.int .u8 n).wf = true) :
    Calls Try.prog 8 #[v0, .int .u8 a, .int .u8 n] w fun e w' => e = .returned (.bool true) ∧ Below w.heap.size w w' := by
  obtain ⟨h1, h2⟩ := wf_u8 x1
  obtain ⟨h3, h4⟩ := wf_u8 x2
  have hr1 : 0 ≤ n % 45 := Int.emod_nonneg _ (by omega)
  have hr2 : n % 45 < 45 := Int.emod_lt_of_pos _ (by omega)
  have XS := Lib.hid (show ∀ k, k < xs.length → 0 ≤ xs.getD k 0 ∧ xs.getD k 0 < 4294967296 from fun k hk => by
    rw [List.getD_eq_getElem?_getD, List.getElem?_eq_getElem hk]; exact wf_u32 (x0 _ (List.getElem_mem hk)))
  obtain ⟨A0, c0, rfl, hc, hcm, hcell⟩ := id r0
  rw [nums_len] at hc
  rw [nums_len]
  have HC := Lib.hid hcell
  clear x0 x1 x2 hcell r0
  unfold maxLen at hcm
  go_enter Try.func8, Try.ntmps8
  go_wp2_with (go_at_call 9; refine (rshown_ok _).mono ?_; rintro e w1 ⟨rfl, hb⟩)
  refine (rnew_ok 300 (by omega) _).mono ?_
  rintro e w2 ⟨rfl, hR, hb2⟩
  have HM := Lib.hid ((Mv.refl [w1.heap.size + 1, w1.heap.size] w1).trans (Mv.of_below hb2))
  have HR := Lib.hid hR
  have HB := Lib.hid hb
  clear hb2 hR hb
  go_wp2_with fail
  go_loopw [10] (fun i wr => ∃ k : Nat, k ≤ xs.length ∧ k ≤ 300 ∧ i = .int .i64 k ∧ Hid (∃ F R, RamAt wr (w1.heap.size + 1) F R ∧ R.ws.length = 300 ∧ R.log = [] ∧ R.keep = false ∧ Mv [w1.heap.size + 1, w1.heap.size] F w1 wr)) (fun i _ => xs.length - (intOf i).toNat)
  case atStart => exact ⟨0, by omega, by omega, rfl, Lib.hid ⟨_, _, HR.out, by show (List.replicate _ _).length = 300; rw [List.length_replicate]; rfl, rfl, rfl, HM.out⟩⟩
  case round =>
    obtain ⟨k, hk, hk3, rfl, HS⟩ := hrel
    by_cases hlt : k < xs.length ∧ k < 300
    · obtain ⟨hlt, hlt2⟩ := hlt
      obtain ⟨F, R, hR, hRl, hRlog, hRk, hM⟩ := HS.out
      have hx : (k : Int) < xs.length := by omega
      obtain ⟨a1, rfl, q1⟩ := HC.out k _ (nums_at .u32 xs k hlt)
      have q1' := below_cell HB.out q1
      have q2 := (World.cell?_of_block (a := a1.add k) (hM.block (a1.add k).block (World.block_lt_of_cell? _ _ q1') (by have := World.block_lt_of_cell? _ _ q1; have := HB.out.size; simp; omega))).trans q1'
      have hv := XS.out k hlt
      clear q1 q1' 
      obtain ⟨x, hxx⟩ : ∃ x, xs.getD k 0 = x := ⟨_, rfl⟩
      rw [hxx] at q2 hv
      have hwr := Lib.hid (write_ok _ _ _ 1 (4 * (k : Int)) x (by omega) hv _ hR (by rw [hRlog]; simp))
      have HRk := Lib.hid (And.intro hRl (And.intro hRlog hRk))
      have HMM := Lib.hid hM
      clear hR hRl hRlog hRk hM hv hxx HS
      go_wp2_with (go_at_call 11; refine hwr.out.mono ?_; rintro e w3 ⟨rfl, F', hR, hM⟩)
      go_roundw
      case rel => exact ⟨k + 1, by omega, by omega, by go_num, Lib.hid ⟨_, _, hR, by rw [Rm.write_len_ws]; exact HRk.out.1, by rw [write_log HRk.out.2.2]; exact HRk.out.2.1, by rw [Rm.write_keep]; exact HRk.out.2.2, HMM.out.trans hM⟩⟩
      case measure => simp [intOf]; omega
    · obtain ⟨F, R, hR, hRl, hRlog, hRk, hM⟩ := HS.out
      have hkp := Lib.hid (keep_ok _ _ _ true _ hR)
      have HRl := Lib.hid hRl
      have HMM := Lib.hid hM
      clear hR hRl hRlog hRk hM HS HC XS
      obtain ⟨q, rfl⟩ := Int.eq_ofNat_of_zero_le h1
      obtain ⟨m, hm⟩ := Int.eq_ofNat_of_zero_le hr1
      have HMQ := Lib.hid hm
      rw [hm] at hr2
      have hm45 : (m : Int) < 45 := hr2
      have hq256 : (q : Int) < 256 := h2
      have hmm : (n % 45 != (m : Int)) = false := by simp [hm]
      have hmm2 : ((m : Int) != n % 45) = false := by simp [hm]
      clear hm
      rcases (show ((k : Int) < xs.length ∧ ¬ (k : Int) < 300) ∨ ¬ (k : Int) < xs.length by omega) with ⟨hx, hx3⟩ | hx
      all_goals clear hlt
      all_goals go_wp2_with (go_at_call 17; refine hkp.out.mono ?_; rintro e w3 ⟨rfl, F1, hR, hM⟩)
      all_goals rw [HMQ.out]
      all_goals (refine (dump_ok _ _ _ _ _ (by omega) _ hR ?_).mono ?_)
      any_goals exact dumpOk_at _ _ _ (by show q + m ≤ R.ws.length; have := HRl.out; omega)
      all_goals (
        rintro e w4 ⟨v, rfl, hRd, hOwn, hb4⟩
        have hlen : (nums .u32 (Rm.dump (Rm.keep R true) (4 * (q : Int)) m)).length = m := by
          rw [nums_len]; exact dump_len _ _ _ (by show q + m ≤ R.ws.length; have := HRl.out; omega)
        obtain ⟨A4, c4, rfl, g1, g2, g3⟩ := id hRd
        rw [hlen] at g1 hOwn
        rw [hlen]
        unfold maxLen at g2
        have hlg := log_ok _ _ _ _ (hR.below hb4) (show (Rm.keep R true).log.length < 1000000000 from by show 0 < 1000000000; decide)
        have hl0 : (Rm.keep R true).log.length = 0 := rfl
        rw [hl0] at hlg
        have HG := Lib.hid g3
        have HOWN := Lib.hid hOwn
        have HR4 := Lib.hid (hR.below hb4)
        have HMv := Lib.hid ((HMM.out.trans hM).trans (Mv.of_below hb4))
        have HF := Lib.hid (show ∀ b ∈ F1, b < w3.heap.size from hR.lt)
        have HB4 := Lib.hid hb4
        have HLG := Lib.hid hlg
        clear hlg g3 hOwn hR hM hb4 hlen hRd hl0
        go_wp2_with (go_at_call 22; refine HLG.out.mono ?_; rintro e w5 ⟨rfl, -, hb5⟩)
        have HB5 := Lib.hid hb5
        have HR5 := Lib.hid (HR4.out.below hb5)
        clear hb5
        go_loopw [13] (fun i wr => ∃ j : Nat, j ≤ m ∧ i = .int .i64 j ∧ Hid (∃ F2 R2, RamAt wr (w1.heap.size + 1) F2 R2 ∧ R2.ws = R.ws ∧ R2.log.length = j ∧ R2.keep = true ∧ Mv F1 F2 w5 wr)) (fun i _ => m - (intOf i).toNat)
        case atStart => exact ⟨0, by omega, rfl, Lib.hid ⟨_, _, HR5.out, rfl, rfl, rfl, Mv.refl _ _⟩⟩
        case round =>
          obtain ⟨j, hj, rfl, HS⟩ := hrel
          obtain ⟨F2, R2, hR, hRw, hRl, hRk, hM⟩ := HS.out
          by_cases hlt : j < m
          · have hlt2 : (j : Int) < m := by omega
            have hqj : q + j < R2.ws.length := by rw [hRw, HRl.out]; omega
            obtain ⟨V, hV⟩ : ∃ V, R.ws.getD (q + j) 0 = V := ⟨_, rfl⟩
            have hrd := read_at _ _ _ 2 (4 * ((q + j : Nat) : Int)) (by omega) _ hR (by omega) V 0 (by rw [(rdV_at hqj).1, hRw, hV]) (rdV_at hqj).2
            rw [show 4 * ((q + j : Nat) : Int) = 4 * ((q : Int) + (j : Int)) by omega] at hrd
            have HRD := Lib.hid hrd
            obtain ⟨ad, rfl, gc⟩ := HG.out j (.int .u32 V) (by
              rw [nums_at .u32 _ j (by rw [dump_len _ _ _ (by show q + m ≤ R.ws.length; have := HRl.out; omega)]; exact hlt), dump_at _ _ _ _ hlt]
              exact congrArg (fun z => some (Value.int .u32 z)) hV)
            have HGC := Lib.hid gc
            have HMM2 := Lib.hid hM
            have HRW := Lib.hid hRw
            have HRLL := Lib.hid hRl
            have HLOG := Lib.hid (show (Rm.read R2 2 (4 * ((q : Int) + (j : Int)))).log.length = j + 1 from by rw [← hRl]; unfold Rm.read Rm.note; rw [if_pos hRk]; simp)
            have HRK := Lib.hid hRk
            have HC5 := Lib.hid (below_cell HB5.out gc)
            have HBLK := Lib.hid (World.block_lt_of_cell? _ _ HC5.out)
            have HNOT := Lib.hid (show (ad.add j).block ∉ F1 from by rw [add_block]; intro e; have := HF.out _ e; have := HOWN.out ad.block rfl; omega)
            clear hrd gc hM hRw hRl hRk hR HS hV hqj
            go_wp2_with (go_at_call 12; refine HRD.out.mono ?_; rintro e w7 ⟨rfl, F3, hR, hM⟩; have hc7 := (World.cell?_of_block ((HMM2.out.trans hM).block _ HBLK.out HNOT.out)).trans HC5.out)
            go_roundw
            case rel => exact ⟨j + 1, by omega, by go_num, Lib.hid ⟨_, _, hR, by rw [Rm.read_ws]; exact HRW.out, HLOG.out, by rw [Rm.read_keep]; exact HRK.out, HMM2.out.trans hM⟩⟩
            case measure => simp [intOf]; omega
          · obtain rfl : j = m := by omega
            have hlt2 : ¬ (j : Int) < j := by omega
            have hlg2 := log_ok _ _ _ _ hR (by omega)
            rw [hRl] at hlg2
            have HLG2 := Lib.hid hlg2
            have HMM2 := Lib.hid hM
            clear hlg2 hM hRw hRl hRk hR HS hlt
            go_wp2_with (go_at_call 22; refine HLG2.out.mono ?_; rintro e w7 ⟨rfl, -, hb7⟩)
            go_ret
            exact ⟨rfl, (HB.out.trans ((((HMv.out.trans (Mv.of_below HB5.out)).trans HMM2.out).trans (Mv.of_below hb7)).below (Nat.le_refl _) (by intro k hk; simp at hk; omega) |>.mono HB.out.size))⟩)
end Go.Proofs.Ytkegljcndhckeaa
