import Derived.Test.YtkegljcndhckeadRM4
import Derived.Test.YtkegljcndhckeadD1
import Derived.Test.YtkegljcndhckeadDRPure
namespace Go.Proofs.Ytkegljcndhckead
open Go.RowKit
set_option linter.unusedVariables false
theorem adr_is (a : Int) (ha : 0 ≤ a ∧ a < 4294967296) (k : Nat) (hk : k < 4) : 0 ≤ Ds.adr a k ∧ Ds.adr a k < 4294967296 := by
  unfold Ds.adr; omega
theorem stE_or (R : Rm.Ram) (who a : Int) (d : Ds.D) (k : Nat) : (Ds.stK R who a d k).2 = 0 ∨ (Ds.stK R who a d k).2 = 7 := by
  induction k with
  | zero => exact .inl rfl
  | succ k ih =>
    simp only [Ds.stK, Ds.stStep]
    split
    · simp only [Rm.rdE]; split <;> simp
    · exact ih
theorem words_fit (d : Ds.D) (hm : d.may = true) (h1 : 0 ≤ d.at_ ∧ d.at_ < 4294967296) (h2 : 0 ≤ d.stamp ∧ d.stamp < 4294967296) (k : Nat) (hk : k < 4) : 0 ≤ d.words.getD k 0 ∧ d.words.getD k 0 < 4294967296 := by
  have h : 0 ≤ d.len ∧ d.len ≤ 65535 ∧ 0 ≤ d.size ∧ d.size ≤ 65535 := by simpa [Ds.D.may] using hm
  have hl := Ds.acc_lt d 5 (by omega) (by omega)
  rcases (show k = 0 ∨ k = 1 ∨ k = 2 ∨ k = 3 by omega) with rfl | rfl | rfl | rfl <;> simp [Ds.D.words, Ds.D.word] <;> omega
theorem store_no (P : Option Addr) (who a : Int) (d : Ds.D) (hm : d.may = false) (w : World) :
    Calls Try.prog 37 #[.pointer P, .int .i64 who, .int .u32 a, .agg d.cells.toArray] w fun e w' => e = .returned (.int .i64 1) ∧ Below w.heap.size w w' := by
  have W := Lib.hid (dwords_no d hm)
  obtain ⟨own, wrap, first, last, bad, len, at_, size, stamp⟩ := d
  simp only [Ds.D.cells] at *
  go_enter Try.func37, Try.ntmps37
  go_wp2_with (go_at_call 58; refine (W.out _).mono ?_; rintro e w1 ⟨rfl, hb⟩)
  have HB := Lib.hid (((Below.refl _ w).alloc (Nat.le_refl _) (.cells #[.bool own, .bool wrap, .bool first, .bool last, .bool bad, .int .i64 len, .int .u32 at_, .int .i64 size, .int .u32 stamp] 54)).trans (hb.mono (by simp)))
  clear hb
  go_loop [10, 18] (fun e i => ∃ k : Nat, k ≤ 4 ∧ i = .int .i64 k ∧ e = .int .i64 1) (fun _ i => 4 - (intOf i).toNat)
  case atStart => exact ⟨0, by omega, rfl, rfl⟩
  case round =>
    obtain ⟨k, hk, rfl, rfl⟩ := hrel
    by_cases hlt : (k : Int) < 4
    · go_wp2
      go_round
      case rel => exact ⟨k + 1, by omega, by go_num, rfl⟩
      case measure => simp [intOf]; omega
    · go_wp2
      go_ret
      exact ⟨rfl, HB.out⟩
set_option maxHeartbeats 2000000 in
theorem store_ok (p : Nat) (F : List Nat) (R : Rm.Ram) (who a : Int) (ha : 0 ≤ a ∧ a < 4294967296) (d : Ds.D) (hm : d.may = true) (hf1 : 0 ≤ d.at_ ∧ d.at_ < 4294967296) (hf2 : 0 ≤ d.stamp ∧ d.stamp < 4294967296) (w : World) (h : RamAt w p F R) (hl : R.log.length < 900000000) :
    Calls Try.prog 37 #[.pointer (some ⟨p, 0, none⟩), .int .i64 who, .int .u32 a, .agg d.cells.toArray] w fun e w' => e = .returned (.int .i64 (Ds.stK R who a d 4).2) ∧ ∃ F', RamAt w' p F' (Ds.stK R who a d 4).1 ∧ Mv F F' w w' := by
  have W := Lib.hid (dwords_ok d hm)
  have HA := Lib.hid ha
  have HWF := Lib.hid (words_fit d hm hf1 hf2)
  have HE := Lib.hid (stE_or R who a d)
  have HL := Lib.hid (fun k => Ds.stK_len R who a d k)
  have HST := Lib.hid (show ∀ k, Ds.stK R who a d (k + 1) = Ds.stStep who a d k (Ds.stK R who a d k) from fun _ => rfl)
  have hSS : ∀ k s, s.2 = 0 → Ds.stStep who a d k s = (Rm.write s.1 who (Ds.adr a ((k + 1) % 4)) (d.words.getD ((k + 1) % 4) 0), Rm.rdE s.1 (Ds.adr a ((k + 1) % 4))) := fun k s hs => by simp [Ds.stStep, hs]
  have hSN : ∀ k s, s.2 ≠ 0 → Ds.stStep who a d k s = s := fun k s hs => by simp [Ds.stStep, hs]
  have HSS := Lib.hid hSS; have HSN := Lib.hid hSN
  have HR := Lib.hid h
  have hst0 : Ds.stK R who a d 0 = (R, 0) := rfl
  obtain ⟨st, hst⟩ : ∃ st, Ds.stK R who a d = st := ⟨_, rfl⟩
  rw [hst] at HE HL HST hst0
  rw [hst]
  have HST0 := Lib.hid hst0
  obtain ⟨x0, x1, x2, x3, hws⟩ : ∃ a b c e, d.words = [a, b, c, e] := ⟨_, _, _, _, rfl⟩
  have HWS := Lib.hid hws
  clear hSS hSN hst0 hst hws h hf1 hf2 hm ha
  obtain ⟨own, wrap, first, last, bad, len, at_, size, stamp⟩ := d
  simp only [Ds.D.cells] at *
  go_enter Try.func37, Try.ntmps37
  go_wp2_with fail
  refine (W.out _).mono ?_
  rintro e w1 ⟨g, hg, rfl, hrow, hb⟩
  rw [World.size_alloc] at hg
  have hgw : g < w1.heap.size := lt_of_heap hrow
  have hgF : g ∉ F := fun e => by have := HR.out.lt g e; omega
  rw [HWS.out] at hrow
  have HROW := Lib.hid (And.intro hrow (And.intro hgw hgF))
  have hb1 : Below w.heap.size w w1 := ((Below.refl _ w).alloc (Nat.le_refl _) (.cells #[.bool own, .bool wrap, .bool first, .bool last, .bool bad, .int .i64 len, .int .u32 at_, .int .i64 size, .int .u32 stamp] 54)).trans (hb.mono (by simp))
  have HR1 := Lib.hid (HR.out.below hb1)
  have HM1 := Lib.hid (Mv.of_below (F := F) hb1)
  rw [HWS.out] at HWF
  clear hb hb1 hrow hgw hgF hg
  have hA := HA.out
  obtain ⟨ha1, ha2⟩ := hA
  go_wp2_with fail
  go_loopw [10, 18] (fun e i wr => ∃ k : Nat, k ≤ 4 ∧ i = .int .i64 k ∧ e = .int .i64 (st k).2 ∧ Hid (∃ F', RamAt wr p F' (st k).1 ∧ Mv F F' w1 wr)) (fun _ i _ => 4 - (intOf i).toNat)
  case atStart => exact ⟨0, by omega, rfl, by rw [HST0.out], Lib.hid ⟨F, by rw [HST0.out]; exact HR1.out, Mv.refl _ _⟩⟩
  case round =>
    obtain ⟨k, hk, rfl, rfl, HS⟩ := hrel
    obtain ⟨ek, hek⟩ : ∃ ek, (st k).2 = ek := ⟨_, rfl⟩
    rw [hek]
    by_cases hlt : k < 4
    · have hlt2 : (k : Int) < 4 := by omega
      rcases HE.out k with h0 | h7
      · obtain rfl : ek = 0 := hek.symm.trans h0
        obtain ⟨F1, hR, hM⟩ := HS.out
        have HEK := Lib.hid hek
        have HM := Lib.hid hM
        have hrow := (hM.block g HROW.out.2.1 HROW.out.2.2).trans HROW.out.1
        clear hek h0 hM HS
        rcases (show k = 0 ∨ k = 1 ∨ k = 2 ∨ k = 3 by omega) with rfl | rfl | rfl | rfl
        · have hc : wr.cell? ⟨g, 1, none⟩ = some (.int .u32 x1) := (cell_heap hrow 1).trans rfl
          have hadr : Ds.adr a 1 = (a + 4) % 4294967296 := by unfold Ds.adr; omega
          have hw := write_ok p F1 (st 0).1 who (Ds.adr a 1) x1 (adr_is a HA.out 1 (by omega)) (by have := HWF.out 1 (by omega); simpa using this) wr hR (by have := HL.out 0; omega)
          rw [hadr] at hw
          have HWR := Lib.hid hw
          have HADR := Lib.hid hadr
          clear hw hR hadr hrow
          go_wp2_with (go_at_call 18; refine HWR.out.mono ?_; rintro e w3 ⟨rfl, F3, hR3, hM3⟩)
          go_roundw
          case rel => exact ⟨1, by omega, rfl, int_ret (by rw [HST.out 0, HSS.out _ _ HEK.out]; exact congrArg (Rm.rdE (st 0).1) HADR.out.symm), Lib.hid ⟨F3, by rw [HST.out 0, HSS.out _ _ HEK.out, HWS.out]; rw [← HADR.out] at hR3; exact hR3, HM.out.trans hM3⟩⟩
          case measure => simp [intOf]
        · have hc : wr.cell? ⟨g, 2, none⟩ = some (.int .u32 x2) := (cell_heap hrow 2).trans rfl
          have hadr : Ds.adr a 2 = (a + 8) % 4294967296 := by unfold Ds.adr; omega
          have hw := write_ok p F1 (st 1).1 who (Ds.adr a 2) x2 (adr_is a HA.out 2 (by omega)) (by have := HWF.out 2 (by omega); simpa using this) wr hR (by have := HL.out 1; omega)
          rw [hadr] at hw
          have HWR := Lib.hid hw
          have HADR := Lib.hid hadr
          clear hw hR hadr hrow
          go_wp2_with (go_at_call 18; refine HWR.out.mono ?_; rintro e w3 ⟨rfl, F3, hR3, hM3⟩)
          go_roundw
          case rel => exact ⟨2, by omega, rfl, int_ret (by rw [HST.out 1, HSS.out _ _ HEK.out]; exact congrArg (Rm.rdE (st 1).1) HADR.out.symm), Lib.hid ⟨F3, by rw [HST.out 1, HSS.out _ _ HEK.out, HWS.out]; rw [← HADR.out] at hR3; exact hR3, HM.out.trans hM3⟩⟩
          case measure => simp [intOf]
        · have hc : wr.cell? ⟨g, 3, none⟩ = some (.int .u32 x3) := (cell_heap hrow 3).trans rfl
          have hadr : Ds.adr a 3 = (a + 12) % 4294967296 := by unfold Ds.adr; omega
          have hw := write_ok p F1 (st 2).1 who (Ds.adr a 3) x3 (adr_is a HA.out 3 (by omega)) (by have := HWF.out 3 (by omega); simpa using this) wr hR (by have := HL.out 2; omega)
          rw [hadr] at hw
          have HWR := Lib.hid hw
          have HADR := Lib.hid hadr
          clear hw hR hadr hrow
          go_wp2_with (go_at_call 18; refine HWR.out.mono ?_; rintro e w3 ⟨rfl, F3, hR3, hM3⟩)
          go_roundw
          case rel => exact ⟨3, by omega, rfl, int_ret (by rw [HST.out 2, HSS.out _ _ HEK.out]; exact congrArg (Rm.rdE (st 2).1) HADR.out.symm), Lib.hid ⟨F3, by rw [HST.out 2, HSS.out _ _ HEK.out, HWS.out]; rw [← HADR.out] at hR3; exact hR3, HM.out.trans hM3⟩⟩
          case measure => simp [intOf]
        · have hc : wr.cell? ⟨g, 0, none⟩ = some (.int .u32 x0) := (cell_heap hrow 0).trans rfl
          have hadr : Ds.adr a 0 = a := by unfold Ds.adr; omega
          have hw := write_ok p F1 (st 3).1 who (Ds.adr a 0) x0 (adr_is a HA.out 0 (by omega)) (by have := HWF.out 0 (by omega); simpa using this) wr hR (by have := HL.out 3; omega)
          rw [hadr] at hw
          have HWR := Lib.hid hw
          have HADR := Lib.hid hadr
          clear hw hR hadr hrow
          go_wp2_with (go_at_call 18; refine HWR.out.mono ?_; rintro e w3 ⟨rfl, F3, hR3, hM3⟩)
          go_roundw
          case rel => exact ⟨4, by omega, rfl, int_ret (by rw [HST.out 3, HSS.out _ _ HEK.out]; exact congrArg (Rm.rdE (st 3).1) HADR.out.symm), Lib.hid ⟨F3, by rw [HST.out 3, HSS.out _ _ HEK.out, HWS.out]; rw [← HADR.out] at hR3; exact hR3, HM.out.trans hM3⟩⟩
          case measure => simp [intOf]
      · obtain rfl : ek = 7 := hek.symm.trans h7
        have HEK := Lib.hid hek
        clear hek h7
        go_wp2
        go_roundw
        case rel => exact ⟨k + 1, by omega, by go_num, by rw [HST.out, HSN.out _ _ (by rw [HEK.out]; decide), HEK.out], by rw [HST.out, HSN.out _ _ (by rw [HEK.out]; decide)]; exact HS⟩
        case measure => simp [intOf]; omega
    · obtain rfl : k = 4 := by omega
      have HEK := Lib.hid hek
      clear hek
      go_wp2
      go_ret
      obtain ⟨F1, hR, hM⟩ := HS.out
      exact ⟨by rw [HEK.out]; rfl, F1, hR, HM1.out.trans hM⟩
end Go.Proofs.Ytkegljcndhckead
