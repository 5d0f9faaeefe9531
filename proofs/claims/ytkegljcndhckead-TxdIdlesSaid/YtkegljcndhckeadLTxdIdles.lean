import Derived.Test.YtkegljcndhckeadT9
namespace Go.Proofs.Ytkegljcndhckead
open Go.RowKit
set_option linter.unusedVariables false
theorem wf_u16t {a : Int} (h : (Lit.int .u16 a).wf = true) : 0 ≤ a ∧ a < 65536 := by
  simp only [Lit.wf, Bool.and_eq_true, decide_eq_true_eq] at h
  have h1 : IntKind.u16.min = 0 := rfl
  have h2 : IntKind.u16.max = 65535 := rfl
  omega
set_option maxHeartbeats 4000000 in
theorem txdIdles_walk (n s v : Int) (w : World) (x0 : (Lit.int .u8 n).wf = true) (x1 : (Lit.int .u8 s).wf = true) (x2 : (Lit.int .u16 v).wf = true) :
    Calls Try.prog 5 #[.int .u8 n, .int .u8 s, .int .u16 v] w fun e w' => e = .returned (.bool true) ∧ Below w.heap.size w w' := by
  obtain ⟨n0, n1⟩ := wf_u8 x0
  obtain ⟨s0, s1⟩ := wf_u8 x1
  have hv : 0 ≤ v ∧ v < 65536 := wf_u16t x2
  clear x0 x1 x2
  obtain ⟨S, rfl⟩ := Int.eq_ofNat_of_zero_le s0
  obtain ⟨N, hN⟩ := Int.eq_ofNat_of_zero_le (show 0 ≤ 2 + n % 20 by omega)
  have HN := Lib.hid hN
  have HNB := Lib.hid (show 2 ≤ N ∧ N ≤ 64 by omega)
  have HV := Lib.hid hv
  have HVM := Lib.hid (show v % 4294967296 = v by omega)
  obtain ⟨i1, i2, i3⟩ := idle_mem N HNB.out.2 v hv
  have HK := Lib.hid (show (Rm.keep (Rm.write (Ds.lyK (Rm.blank 2048) 0 N 2048 64 false N).1 1 0 v) true).keep = true from rfl)
  have HL := Lib.hid (show (Ds.lyK (Rm.blank 2048) 0 N 2048 64 false N).1.log.length = 0 by rw [(tlay_four N 64 false HNB.out.2).2.2.2]; rfl)
  have HID := Lib.hid (fun k => idle_step _ i1 (by rw [i2]; omega) HK.out k)
  have HZ := Lib.hid (show idleR (Rm.keep (Rm.write (Ds.lyK (Rm.blank 2048) 0 N 2048 64 false N).1 1 0 v) true) 0 = Rm.keep (Rm.write (Ds.lyK (Rm.blank 2048) 0 N 2048 64 false N).1 1 0 v) true from rfl)
  have HI3 := Lib.hid i3
  clear i1 i2 i3 hN hv
  have hm0 : 0 ≤ n % 20 := by omega
  have hm1 : n % 20 < 20 := by omega
  go_enter Try.func5, Try.ntmps5
  go_wp2_with fail
  refine (tshown_ok _).mono ?_
  rintro e w1 ⟨rfl, hb⟩
  have HB1 := Lib.hid hb
  clear hb
  go_wp2_with fail
  rw [HN.out]
  refine (tlaid_ok N HNB.out _).mono ?_
  rintro e w2 ⟨rfl, F2, hR, hb, hg⟩
  have HB := Lib.hid (HB1.out.trans (hb.mono HB1.out.size))
  have HR2 := Lib.hid hR
  have HG2 := Lib.hid (show ∀ b ∈ F2, w.heap.size ≤ b from fun b hb => Nat.le_trans HB1.out.size (hg b hb))
  clear hb hR hg
  go_wp2_with fail
  rw [HVM.out]
  refine (write_ok _ _ _ 1 0 v (by decide) (by have := HV.out; omega) _ HR2.out (by rw [HL.out]; decide)).mono ?_
  rintro e w3 ⟨rfl, F3, hR3, hM3⟩
  rw [HI3.out]
  have HR3 := Lib.hid hR3
  have HG3 := Lib.hid (hM3.ge HB.out.size HG2.out)
  have HB3 := Lib.hid (HB.out.trans (hM3.below HB.out.size HG2.out))
  clear hR3 hM3 HB HG2 HR2
  go_wp2_with fail
  refine (tnew_ok _ _ _ 0 _ HR3.out).mono ?_
  rintro e w4 ⟨rfl, hS, hb4⟩
  have HS := Lib.hid hS; have HB4 := Lib.hid hb4
  have HGE := Lib.hid (show ∀ b ∈ blks w3.heap.size F3 (.slice none 0 0), w.heap.size ≤ b from fun b hb => by
    have h1 := HB3.out.size
    simp [blks, Value.ownBlock] at hb
    rcases hb with hb | hb
    · exact HG3.out b hb
    · omega)
  clear hS hb4
  go_wp2_with fail
  refine (gstart (Goes.start HS.out)).mono ?_
  rintro e w5 ⟨rfl, hG⟩
  have HG := Lib.hid hG
  clear hG
  go_wp2_with fail
  refine (gkeep HG.out true).mono ?_
  rintro e w6 ⟨rfl, hG6⟩
  generalize hRR : Rm.keep (Rm.write (Ds.lyK (Rm.blank 2048) 0 N 2048 64 false N).1 1 0 v) true = RR at *
  have HG6 := Lib.hid (show Goes (w1.heap.size + 1) w3.heap.size F3 (.slice none 0 0) w4 ste (idleR RR 0) w6 by rw [HZ.out]; exact hG6)
  clear hG6 hRR HG
  go_wp2
  go_loopw [10] (fun i wr => ∃ k : Nat, k ≤ S ∧ i = .int .i64 k ∧ Hid (Goes (w1.heap.size + 1) w3.heap.size F3 (.slice none 0 0) w4 ste (idleR RR k) wr)) (fun i _ => S - (intOf i).toNat)
  case atStart => exact ⟨0, by omega, rfl, HG6⟩
  case round =>
    obtain ⟨k, hk, rfl, HS⟩ := hrel
    by_cases hlt : (k : Int) < S
    · go_wp2_with fail
      refine (gstep HS.out (Tx.Ok.new 0 (by omega)).start (by show (List.replicate k _).length < _; rw [List.length_replicate]; omega)).mono ?_
      rintro e w7 ⟨rfl, hG7⟩
      rw [HID.out k] at hG7
      have HG7 := Lib.hid hG7
      clear hG7
      go_wp2
      go_roundw
      case rel => exact ⟨k + 1, by omega, by go_num, HG7⟩
      case measure => simp [intOf]; omega
    · obtain rfl : k = S := by omega
      have hlog := glog HS.out (by show (List.replicate k _).length < _; rw [List.length_replicate]; omega)
      rw [show (idleR RR k).log = List.replicate k (idleA (Rm.rdV RR 0)) from rfl, List.length_replicate] at hlog
      go_wp2_with fail
      refine hlog.mono ?_
      clear hlog
      rintro e w7 ⟨rfl, hh, hG7, hb7⟩
      have HH := Lib.hid hh; have HG7 := Lib.hid hG7
      clear hh hG7 hb7
      go_wp2
      go_loopw [12] (fun i wr => ∃ j : Nat, j ≤ k ∧ i = .int .i64 j ∧ w7 = wr) (fun i _ => k - (intOf i).toNat)
      case atStart => exact ⟨0, by omega, rfl, rfl⟩
      case round =>
        obtain ⟨j, hj, rfl, rfl⟩ := hrel
        by_cases hlt2 : (j : Int) < k
        · have hc1 : w7.cell? ⟨wr.heap.size, j * 5 + 1, none⟩ = some (.bool false) := (cell_heap HH.out _).trans ((List.getElem?_toArray ..).trans (accs_rep _ _ _ _ (by omega) (by omega)))
          have hc2 : w7.cell? ⟨wr.heap.size, j * 5 + 2, none⟩ = some (.int .u32 0) := (cell_heap HH.out _).trans ((List.getElem?_toArray ..).trans (accs_rep _ _ _ _ (by omega) (by omega)))
          go_wp2_with fail
          exact ⟨⟨j + 1, by omega, by go_num, trivial⟩, by simp [intOf]; omega⟩
        · obtain rfl : j = k := by omega
          go_wp2_with fail
          refine (gready HG7.out (Tx.Ok.new 0 (by omega)).start).mono ?_
          rintro e w8 ⟨u, rfl, -, hb8⟩
          rw [show Tx.isReady ste = false from rfl]
          have HG8 := Lib.hid (HG7.out.below hb8)
          clear hb8
          go_wp2_with fail
          refine (gstate HG8.out).mono ?_
          rintro e w9 ⟨rfl, rfl⟩
          rw [show ste.state = 1 from rfl]
          go_wp2_with fail
          refine (gplace HG8.out).mono ?_
          rintro e w9 ⟨rfl, rfl⟩
          rw [show ste.at_ = 0 from rfl]
          go_wp2_with fail
          refine (gdone HG8.out 1).mono ?_
          rintro e w9 ⟨rfl, hG9⟩
          rw [show Tx.doneE ste = 6 from rfl]
          have HEND := Lib.hid (hG9.end w.heap.size (by have h1 := HB3.out.size; have h3 := HB4.out.size; omega) HGE.out)
          have HBE := Lib.hid (HB3.out.trans ((HB4.out.mono HB3.out.size).trans HEND.out))
          clear hG9
          go_wp2
          go_ret
          exact ⟨rfl, HBE.out⟩
end Go.Proofs.Ytkegljcndhckead
