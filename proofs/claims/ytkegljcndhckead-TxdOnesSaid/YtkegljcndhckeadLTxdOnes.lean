import Derived.Test.YtkegljcndhckeadT10
namespace Go.Proofs.Ytkegljcndhckead
open Go.RowKit
set_option linter.unusedVariables false
set_option maxRecDepth 20000 in
set_option maxHeartbeats 4000000 in
theorem txdOnes_walk (v0 : Value) (xs : List Int) (b s : Int) (w : World) (r0 : Rd w v0 (nums .u32 xs)) (x0 : ∀ n ∈ xs, (Lit.int .u32 n).wf = true) (l0 : xs.length * 4 ≤ 140737488351232) (x1 : (Lit.int .u32 b).wf = true) (x2 : (Lit.int .u8 s).wf = true) :
    Calls Try.prog 4 #[v0, .int .u32 b, .int .u8 s] w fun e w' => e = .returned (.bool true) ∧ Below w.heap.size w w' := by
  obtain ⟨s0, s1⟩ := wf_u8 x2
  have hb := wf_u32 x1
  obtain ⟨S, rfl⟩ := Int.eq_ofNat_of_zero_le s0
  have XS := Lib.hid (show ∀ k, k < xs.length → 0 ≤ xs.getD k 0 ∧ xs.getD k 0 < 4294967296 from fun k hk => by
    rw [List.getD_eq_getElem?_getD, List.getElem?_eq_getElem hk]; exact wf_u32 (x0 _ (List.getElem_mem hk)))
  obtain ⟨A0, c0, rfl, hc, hcm, hcell⟩ := id r0
  rw [nums_len] at hc
  rw [nums_len]
  have HC := Lib.hid hcell
  have HBB := Lib.hid hb
  clear x0 x1 x2 hcell r0 hb
  unfold maxLen at hcm
  go_enter Try.func4, Try.ntmps4
  go_wp2_with fail
  refine (tshown_ok _).mono ?_
  rintro e w1 ⟨rfl, hb⟩
  have HB1 := Lib.hid hb
  clear hb
  obtain ⟨M, hM, hM1, hM2⟩ : ∃ M : Nat, (M : Int) = min (xs.length : Int) 300 ∧ M ≤ 300 ∧ M ≤ xs.length := ⟨min xs.length 300, by omega, by omega, by omega⟩
  have HMIN := Lib.hid hM
  go_wp2_with fail
  all_goals first | rw [show (300 : Int) = M by omega] | rw [show (xs.length : Int) = M by omega]
  all_goals rcases Nat.eq_zero_or_pos M with hM0 | hM0
  all_goals clear HMIN hM
  any_goals (
    subst hM0
    refine (rnew_no 0 (by omega) _).mono ?_
    rintro e w2 ⟨rfl, rfl⟩
    go_wp2
    go_ret
    exact ⟨rfl, HB1.out⟩)
  all_goals (
    refine (rnew_ok M (by omega) _).mono ?_
    rintro e w2 ⟨rfl, hR, hb2⟩
    have HMv := Lib.hid ((Mv.refl [w1.heap.size + 1, w1.heap.size] w1).trans (Mv.of_below hb2))
    have HR := Lib.hid hR
    clear hb2 hR
    go_wp2
    go_loopw [11] (fun i wr => ∃ k : Nat, k ≤ M ∧ i = .int .i64 k ∧ Hid (∃ F R, RamAt wr (w1.heap.size + 1) F R ∧ R.log = [] ∧ R.keep = false ∧ Mv [w1.heap.size + 1, w1.heap.size] F w1 wr)) (fun i _ => M - (intOf i).toNat)
    case atStart => exact ⟨0, by omega, rfl, Lib.hid ⟨_, _, HR.out, rfl, rfl, HMv.out⟩⟩
    case round =>
      obtain ⟨k, hk, rfl, HS⟩ := hrel
      by_cases hlt : (k : Int) < M
      · obtain ⟨F, R, hR, hRlog, hRk, hM⟩ := HS.out
        obtain ⟨a1, rfl, q1⟩ := HC.out k _ (nums_at .u32 xs k (by omega))
        have q1' := below_cell HB1.out q1
        have q2 := (World.cell?_of_block (a := a1.add k) (hM.block (a1.add k).block (World.block_lt_of_cell? _ _ q1') (by have := World.block_lt_of_cell? _ _ q1; have := HB1.out.size; simp; omega))).trans q1'
        have hv := XS.out k (by omega)
        clear q1 q1'
        obtain ⟨x, hxx⟩ : ∃ x, xs.getD k 0 = x := ⟨_, rfl⟩
        rw [hxx] at q2 hv
        have hwr := Lib.hid (write_ok _ _ _ 1 (4 * (k : Int)) x (by omega) hv _ hR (by rw [hRlog]; simp))
        have HRk := Lib.hid (And.intro hRlog hRk)
        have HMM := Lib.hid hM
        have hx : (k : Int) < xs.length := by omega
        clear hR hRlog hRk hM hv hxx HS
        go_wp2_with (go_at_call 18; refine hwr.out.mono ?_; rintro e w3 ⟨rfl, F', hR, hM⟩)
        go_roundw
        case rel => exact ⟨k + 1, by omega, by go_num, Lib.hid ⟨_, _, hR, by rw [write_log HRk.out.2]; exact HRk.out.1, by rw [Rm.write_keep]; exact HRk.out.2, HMM.out.trans hM⟩⟩
        case measure => simp [intOf]; omega
      · obtain ⟨F, R, hR, hRlog, hRk, hM⟩ := HS.out
        have HG := Lib.hid (hM.ge HB1.out.size (by intro k hk; simp at hk; have := HB1.out.size; omega))
        have HB3 := Lib.hid (HB1.out.trans (hM.below HB1.out.size (by intro k hk; simp at hk; have := HB1.out.size; omega)))
        have HR3 := Lib.hid hR
        clear hR hRlog hRk hM HS HC XS
        go_wp2_with fail
        refine (tnew_ok _ _ _ b _ HR3.out).mono ?_
        rintro e w4 ⟨rfl, hS, hb4⟩
        have HS := Lib.hid hS; have HB4 := Lib.hid hb4
        have HGE := Lib.hid (show ∀ b ∈ blks wr.heap.size F (.slice none 0 0), w.heap.size ≤ b from fun b hb => by
          have h1 := HB3.out.size
          simp [blks, Value.ownBlock] at hb
          rcases hb with hb | hb
          · exact HG.out b hb
          · omega)
        clear hS hb4
        go_wp2_with fail
        refine (gkeep (Goes.start HS.out) true).mono ?_
        rintro e w5 ⟨rfl, hG⟩
        have HG5 := Lib.hid hG
        clear hG
        go_wp2_with fail
        refine (gstep HG5.out (Tx.Ok.new b HBB.out) (by show 0 < _; decide)).mono ?_
        rintro e w6 ⟨rfl, hG⟩
        have HG6 := Lib.hid (show Goes (w1.heap.size + 1) wr.heap.size F (.slice none 0 0) w4 (Tx.new b) (Rm.keep R true) w6 from hG)
        clear hG
        go_wp2_with fail
        refine (glog HG6.out (by show 0 < _; decide)).mono ?_
        rintro e w7 ⟨rfl, -, hG, -⟩
        rw [show (Rm.keep R true).log.length = 0 from rfl]
        have HG7 := Lib.hid hG
        clear hG
        go_wp2_with fail
        refine (gstart HG7.out).mono ?_
        rintro e w8 ⟨rfl, hG⟩
        have HG8 := Lib.hid hG
        clear hG
        go_wp2
        go_loopw [13] (fun i wr' => ∃ j : Nat, j ≤ S ∧ i = .int .i64 j ∧ ∃ e R', Hid (Tx.Ok e) ∧ Hid (Goes (w1.heap.size + 1) wr.heap.size F (.slice none 0 0) w4 e R' wr')) (fun i _ => S - (intOf i).toNat)
        case atStart => exact ⟨0, by omega, rfl, _, _, Lib.hid (Tx.Ok.new b HBB.out).start, HG8⟩
        case round =>
          obtain ⟨j, hj, rfl, E1, R', HO, HS'⟩ := hrel
          by_cases hlt2 : (j : Int) < S
          · go_wp2_with fail
            refine (gkeep HS'.out true).mono ?_
            rintro e w9 ⟨rfl, hG⟩
            have HG9 := Lib.hid hG
            clear hG
            go_wp2_with fail
            refine (gstate HG9.out).mono ?_
            rintro e w9 ⟨rfl, rfl⟩
            go_wp2_with fail
            refine (gplace HG9.out).mono ?_
            rintro e w9 ⟨rfl, rfl⟩
            go_wp2_with fail
            refine (gstep HG9.out HO.out (by show 0 < _; decide)).mono ?_
            rintro e w10 ⟨rfl, hG⟩
            have HLOG := Lib.hid (step_log1 (E1, Rm.keep R' true) HO.out rfl)
            have HO2 := Lib.hid (Tx.Ok.step (s := (E1, Rm.keep R' true)) HO.out HG9.out.fit)
            generalize Tx.step (E1, Rm.keep R' true) = s2 at *
            have HG10 := Lib.hid hG
            clear hG HG9 HS'
            have HAT := Lib.hid HO.out.at_
            have HJ := Lib.hid (show (j : Int) % 4294967296 = j by omega)
            have h12 : ((E1.at_ + 12) % 4294967296 != E1.at_) = true := by
              have := HAT.out
              rw [bne_iff_ne]; omega
            by_cases h7 : (j : Int) % 7 = 3
            all_goals go_wp2_with fail
            all_goals first
              | (refine (gdone HG10.out j).mono ?_
                 rintro e w11 ⟨rfl, hG⟩
                 have HO3 := Lib.hid (HO2.out.done j (by omega))
                 have HG11 := Lib.hid hG
                 clear hG HG10 HO2
                 go_wp2_with fail)
              | (have HO3 := HO2
                 have HG11 := HG10)
            all_goals rcases HLOG.out with hl | ⟨hst, a, hl, hwho, ha⟩
            any_goals (
              have hlog := glog HG11.out (by show s2.2.log.length < _; rw [hl]; simp)
              rw [hl] at hlog
              simp only [List.length_cons, List.length_nil, Nat.zero_add] at hlog
              refine hlog.mono ?_
              clear hlog
              rintro e w12 ⟨rfl, hh, hG12, -⟩
              have HG12 := Lib.hid hG12
              clear hG12)
            any_goals (
              have c0 := (cell_heap hh 0).trans (show _ = some (.int .i64 a.who) from rfl)
              have c1 := (cell_heap hh 1).trans (show _ = some (.bool a.wr) from rfl)
              have c2 := (cell_heap hh 2).trans (show _ = some (.int .u32 a.at_) from rfl)
              rw [hwho] at c0
              rw [hst]
              rcases ha with ha | ⟨ha1, ha2⟩ | ⟨ha1, ha2⟩
              all_goals first | rw [ha] at c1 | (rw [ha1] at c1; rw [ha2] at c2)
              all_goals clear hh hl)
            all_goals by_cases hs2 : E1.state = 2
            all_goals first | (exfalso; omega) | rw [hs2] | skip
            all_goals go_wp2
            all_goals go_roundw
            all_goals first
              | exact ⟨j + 1, by omega, by go_num, _, _, HO3, HG12⟩
              | (simp [intOf]; omega)
          · have HEND := Lib.hid (HS'.out.end w.heap.size (by have h1 := HB3.out.size; have h3 := HB4.out.size; omega) HGE.out)
            have HBE := Lib.hid (HB3.out.trans ((HB4.out.mono HB3.out.size).trans HEND.out))
            go_wp2
            go_ret
            exact ⟨rfl, HBE.out⟩)
end Go.Proofs.Ytkegljcndhckead
