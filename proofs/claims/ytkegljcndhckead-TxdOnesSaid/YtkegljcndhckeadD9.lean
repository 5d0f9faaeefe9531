import Derived.Test.YtkegljcndhckeadD8
import Derived.Test.YtkegljcndhckeadD6
namespace Go.Proofs.Ytkegljcndhckead
open Go.RowKit
set_option linter.unusedVariables false
theorem lyD_may (n bufs size : Int) (own : Bool) (i : Nat) (h : 4 ≤ size ∧ size ≤ 2048) : (Ds.lyD n bufs size own i).may = true := by
  simp [Ds.D.may, Ds.lyD]; omega
def LyRel (p : Nat) (F : List Nat) (w0 : World) (R : Rm.Ram) (wr : World) : Prop := ∃ F', RamAt wr p F' R ∧ Mv F F' w0 wr
theorem lay_no (P : Option Addr) (a n bufs size : Int) (own : Bool) (h : n < 2 ∨ 64 < n ∨ size < 4 ∨ 2048 < size ∨ size % 4 ≠ 0) (w : World) :
    Calls Try.prog 36 #[.pointer P, .int .u32 a, .int .i64 n, .int .u32 bufs, .int .i64 size, .bool own] w fun e w' => e = .returned (.int .i64 1) ∧ w = w' := by
  by_cases c1 : n < 2
  · clear h
    go_enter Try.func36, Try.ntmps36
    go_wp2
    go_ret
    exact ⟨rfl, rfl⟩
  by_cases c2 : 64 < n
  · clear h
    go_enter Try.func36, Try.ntmps36
    go_wp2
    go_ret
    exact ⟨rfl, rfl⟩
  by_cases c3 : size < 4
  · clear h
    go_enter Try.func36, Try.ntmps36
    go_wp2
    go_ret
    exact ⟨rfl, rfl⟩
  by_cases c4 : 2048 < size
  · clear h
    go_enter Try.func36, Try.ntmps36
    go_wp2
    go_ret
    exact ⟨rfl, rfl⟩
  have c5 : (size % 4 != 0) = true := by rw [bne_iff_ne]; omega
  have c6 : 0 ≤ size := by omega
  clear h
  go_enter Try.func36, Try.ntmps36
  go_wp2
  go_ret
  exact ⟨rfl, rfl⟩
set_option maxHeartbeats 2000000 in
theorem lay_ok (p : Nat) (F : List Nat) (R : Rm.Ram) (a : Int) (n : Nat) (bufs size : Int) (own : Bool) (ha : 0 ≤ a ∧ a < 4294967296) (hb : 0 ≤ bufs ∧ bufs < 4294967296) (hn : 2 ≤ n ∧ n ≤ 64) (hs : 4 ≤ size ∧ size ≤ 2048) (hs4 : size % 4 = 0) (w : World) (h : RamAt w p F R) (hl : R.log.length < 800000000) :
    Calls Try.prog 36 #[.pointer (some ⟨p, 0, none⟩), .int .u32 a, .int .i64 n, .int .u32 bufs, .int .i64 size, .bool own] w fun e w' => e = .returned (.int .i64 (Ds.lyK R a n bufs size own n).2) ∧ ∃ F', RamAt w' p F' (Ds.lyK R a n bufs size own n).1 ∧ Mv F F' w w' := by
  have HLEN := Lib.hid (fun k => Ds.lyK_len R a n bufs size own k)
  have HSTOP := Lib.hid (fun k j => Ds.lyK_stop R a n bufs size own k j)
  have HST := Lib.hid (show ∀ k, Ds.lyK R a n bufs size own (k + 1) = Ds.lyStep a n bufs size own k (Ds.lyK R a n bufs size own k) from fun _ => rfl)
  have ly0 : Ds.lyK R a n bufs size own 0 = (R, 0) := rfl
  obtain ⟨ly, hly⟩ : ∃ ly, Ds.lyK R a n bufs size own = ly := ⟨_, rfl⟩
  rw [hly] at HLEN HSTOP HST ly0
  rw [hly]
  have LY0 := Lib.hid ly0
  have HR := Lib.hid h
  have c5 : (size % 4 != 0) = false := by rw [hs4]; rfl
  obtain ⟨ha1, ha2⟩ := ha; obtain ⟨hb1, hb2⟩ := hb; obtain ⟨hn1, hn2⟩ := hn; obtain ⟨hs1, hs2⟩ := hs
  have hn1' : (2 : Int) ≤ n := by omega
  have hn2' : (n : Int) ≤ 64 := by omega
  clear hly ly0 h hs4
  go_enter Try.func36, Try.ntmps36
  go_wp2
  go_loopw [36] (fun i wr => ∃ k : Nat, k ≤ n ∧ i = .int .i64 k ∧ Hid ((ly k).2 = 0 ∧ LyRel p F w (ly k).1 wr)) (fun i _ => n - (intOf i).toNat)
  case atStart => exact ⟨0, by omega, rfl, Lib.hid ⟨by rw [LY0.out], by rw [LY0.out]; exact ⟨F, HR.out, Mv.refl _ _⟩⟩⟩
  case round =>
    obtain ⟨k, hk, rfl, HS⟩ := hrel
    by_cases hlt : (k : Int) < n
    · obtain ⟨h0, F1, hR, hM⟩ := HS.out
      have hk2 : k < 64 := by omega
      have hm1 : 0 ≤ (k : Int) * size := Int.mul_nonneg (by omega) (by omega)
      have hm2 : (k : Int) * size ≤ 64 * 2048 := Int.mul_le_mul (by omega) hs2 (by omega) (by omega)
      have hstk := HST.out k
      unfold Ds.lyStep at hstk
      rw [if_pos h0] at hstk
      have hb1 : Below wr.heap.size wr (wr.alloc (.cells (Ds.lyD n bufs size own k).cells.toArray 54)) := (Below.refl _ wr).alloc (Nat.le_refl _) _
      have hst := store_ok p F1 (ly k).1 1 (Ds.lyA a k) (by unfold Ds.lyA; omega) (Ds.lyD n bufs size own k) (lyD_may n bufs size own k ⟨hs1, hs2⟩) (by simp only [Ds.lyD]; omega) (by simp [Ds.lyD]) _ (hR.below hb1) (by have := HLEN.out k; omega)
      have h7 := stE_or (ly k).1 1 (Ds.lyA a k) (Ds.lyD n bufs size own k) 4
      rw [← hstk] at hst h7
      have eA : Ds.lyA a k = (a + (k : Int) * 4 * 4) % 4294967296 := by unfold Ds.lyA; omega
      have eD : (Ds.lyD n bufs size own k).cells.toArray = #[.bool own, .bool ((k : Int) == (n : Int) - 1), .bool false, .bool false, .bool false, .int .i64 0, .int .u32 ((bufs + wrap64 ((k : Int) * size)) % 4294967296), .int .i64 size, .int .u32 0] := by
        rw [IntWalk.wrap64_in _ ⟨by omega, by omega⟩, Int.mul_comm]
        rfl
      rw [eA, eD] at hst
      rw [eD] at hb1
      obtain ⟨E, hE⟩ : ∃ E, (ly (k + 1)).2 = E := ⟨_, rfl⟩
      rw [hE] at hst h7
      have HST1 := Lib.hid hst; have HM := Lib.hid hM; have HB1 := Lib.hid hb1; have HE := Lib.hid hE; have H7 := Lib.hid h7
      clear h0 hR hM hm1 hm2 hstk hb1 hst h7 eA eD hE HS
      go_wp2_with fail
      refine HST1.out.mono ?_
      rintro e w3 ⟨rfl, F3, hR3, hM3⟩
      have HR3 := Lib.hid hR3
      have HM3 := Lib.hid ((HM.out.trans (Mv.of_below HB1.out)).trans hM3)
      clear hR3 hM3
      rcases H7.out with rfl | rfl
      · go_wp2
        go_roundw
        case rel => exact ⟨k + 1, by omega, by go_num, Lib.hid ⟨HE.out, F3, HR3.out, HM3.out⟩⟩
        case measure => simp [intOf]; omega
      · have hstop : ly n = ly (k + 1) := by
          have := HSTOP.out (k + 1) (n - (k + 1)) (by rw [HE.out]; decide)
          rw [show k + 1 + (n - (k + 1)) = n by omega] at this
          exact this
        have HSTP := Lib.hid hstop
        clear hstop
        go_wp2
        go_ret
        rw [HSTP.out, HE.out]
        exact ⟨rfl, F3, HR3.out, HM3.out⟩
    · obtain rfl : k = n := by omega
      obtain ⟨h0, F1, hR, hM⟩ := HS.out
      have HRR := Lib.hid (And.intro hR hM)
      have H0 := Lib.hid h0
      clear h0 hR hM HS
      go_wp2
      go_ret
      rw [H0.out]
      exact ⟨rfl, F1, HRR.out.1, HRR.out.2⟩
end Go.Proofs.Ytkegljcndhckead
