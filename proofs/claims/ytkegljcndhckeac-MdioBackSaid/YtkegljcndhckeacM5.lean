import Derived.Test.YtkegljcndhckeacM4
import Derived.Test.YtkegljcndhckeacMLaw
namespace Go.Proofs.Ytkegljcndhckeac
open Go.RowKit
set_option linter.unusedVariables false
theorem mnew_no (n : Int) (h : n < 0 ∨ 32 ≤ n) (w : World) : Calls Try.prog 10 #[.int .i64 n] w fun e w' => e = .returned (.tuple #[.pointer none, .int .i64 1]) ∧ w = w' := by
  by_cases c : n < 0
  · clear h
    go_enter Try.func10, Try.ntmps10
    go_wp2
    go_ret2
    exact ⟨rfl, rfl⟩
  · have h2 : 32 ≤ n := by omega
    clear h
    go_enter Try.func10, Try.ntmps10
    go_wp2
    go_ret2
    exact ⟨rfl, rfl⟩
theorem mnew_ok (n : Int) (h : 0 ≤ n ∧ n < 32) (w : World) : Calls Try.prog 10 #[.int .i64 n] w fun e w' => e = .returned (.tuple #[.pointer (some ⟨w.heap.size, 0, none⟩), .int .i64 0]) ∧ SlaveAt w' w.heap.size (Md.new n) ∧ Below w.heap.size w w' := by
  have hok := Lib.hid (Md.Ok.new n h).fit
  obtain ⟨h1, h2⟩ := h
  go_enter Try.func10, Try.ntmps10
  go_wp2
  go_ret2
  refine ⟨rfl, ⟨⟨_, heap_alloc_new w _, ⟨rfl, rfl, ?_, rfl, rfl, rfl, rfl, rfl, rfl, rfl, rfl, rfl⟩⟩, hok.out⟩, (Below.refl _ w).alloc (Nat.le_refl _) _⟩
  intro i hi
  match i, hi with
  | 0, _ => rfl
  | 1, _ => rfl
  | 2, _ => rfl
  | 3, _ => rfl
  | 4, _ => rfl
  | 5, _ => rfl
  | 6, _ => rfl
  | 7, _ => rfl
  | 8, _ => rfl
  | 9, _ => rfl
  | 10, _ => rfl
  | 11, _ => rfl
  | 12, _ => rfl
  | 13, _ => rfl
  | 14, _ => rfl
  | 15, _ => rfl
  | 16, _ => rfl
  | 17, _ => rfl
  | 18, _ => rfl
  | 19, _ => rfl
  | 20, _ => rfl
  | 21, _ => rfl
  | 22, _ => rfl
  | 23, _ => rfl
  | 24, _ => rfl
  | 25, _ => rfl
  | 26, _ => rfl
  | 27, _ => rfl
  | 28, _ => rfl
  | 29, _ => rfl
  | 30, _ => rfl
  | 31, _ => rfl
  | n + 32, h => exact absurd h (by omega)
theorem took_nil (w : World) : Calls Try.prog 13 #[.pointer none] w fun e w' => e = .returned (.tuple #[.int .i64 0, .int .u16 0, .bool false]) ∧ w = w' := by
  go_enter Try.func13, Try.ntmps13
  go_wp2
  go_ret3
  exact ⟨rfl, rfl⟩
theorem took_no (p : Nat) (s : Md.S) (w : World) (h : SlaveAt w p s) (ht : s.took = false) : Calls Try.prog 13 #[.pointer (some ⟨p, 0, none⟩)] w fun e w' => e = .returned (.tuple #[.int .i64 0, .int .u16 0, .bool false]) ∧ w = w' := by
  obtain ⟨c0, c33, c34, c35, c36, c37, c38, c39, c40, c41⟩ := slave_cells h
  rw [ht] at c41
  clear h ht
  go_enter Try.func13, Try.ntmps13
  go_wp2
  go_ret3
  exact ⟨rfl, rfl⟩
theorem took_ok (p : Nat) (s : Md.S) (w : World) (h : SlaveAt w p s) (ht : s.took = true) : Calls Try.prog 13 #[.pointer (some ⟨p, 0, none⟩)] w fun e w' => Turns p w e (.returned (.tuple #[.int .i64 s.to, .int .u16 s.v, .bool true])) { s with took := false } w' := by
  obtain ⟨c0, c33, c34, c35, c36, c37, c38, c39, c40, c41⟩ := slave_cells h
  rw [ht] at c41
  have f := h.free
  have hf := h.fit
  have HF := Lib.hid (show Md.Fit { s with took := false } from ⟨hf.ph, hf.rl, hf.rb, hf.addr, hf.ones, hf.bits, hf.got, hf.out, hf.reg, hf.to, hf.v⟩)
  obtain ⟨⟨cs, hh, hk⟩, -⟩ := h
  have HH := Lib.hid (And.intro hh hk)
  clear hh hk hf ht
  go_enter Try.func13, Try.ntmps13
  go_wp2
  go_quiet (fail)
  go_wp2
  go_ret3
  exact ⟨rfl, SlaveAt.keep (w := w.setCell ⟨p, 41, none⟩ (.bool false)) ⟨⟨_, at_set HH.out (HH.out.2.took_ false)⟩, HF.out⟩ rfl, mv_drewN (mv_set (Mv.refl _ _) _ _) _⟩
theorem or16 (o t : Nat) (ho : o < 65536) (ht : t < 2) : bits .or .u16 (IntKind.u16.wrap ((o : Int) * 2)) (t : Int) = (((o * 2 + t) % 65536 : Nat) : Int) := by
  have e : IntKind.u16.wrap ((o : Int) * 2) = ((o * 2 % 65536 : Nat) : Int) := by rw [IntKind.wrap_u16]; omega
  rw [e, u16_or_nat _ _ (by omega) (by omega)]
  have h1 : o * 2 % 65536 = 2 ^ 1 * (o % 32768) := by omega
  rw [h1, ← Nat.two_pow_add_eq_or_of_lt (by omega)]
  congr 1
  omega
set_option maxHeartbeats 1000000 in
theorem send_ok (p : Nat) (s : Md.S) (wd : Nat) (hw : wd < 4294967296) (w : World) (h : SlaveAt w p s) (ho : Md.Ok s) :
    Calls Try.prog 30 #[.pointer (some ⟨p, 0, none⟩), .int .u32 wd] w fun e w' => Turns p w e (.returned (.int .u16 ((Md.send s wd).2 : Int))) (Md.send s wd).1 w' := by
  have HO := Lib.hid (fun k => ho.onesK k)
  have HC := Lib.hid (fun s n w h o => clock_ok p s n w h o)
  have HS := Lib.hid h
  have H1 := Lib.hid (show Md.ones s 0 = s from rfl)
  have H2 := Lib.hid (show ∀ k, Md.clock (Md.ones s k) 1 = Md.ones s (k + 1) from fun _ => rfl)
  obtain ⟨on, hon⟩ : ∃ on, Md.ones s = on := ⟨_, rfl⟩
  have hsend : Md.send s wd = Md.sends (on 32) wd 32 := by unfold Md.send; rw [hon]
  rw [hsend]
  rw [hon] at HO H1 H2
  have HO2 := Lib.hid (fun k => (HO.out 32).sends wd k)
  have H3 := Lib.hid (show Md.sends (on 32) wd 0 = (on 32, 0) from rfl)
  have H4 := Lib.hid (fun k => show Md.sends (on 32) wd (k + 1) = (Md.clock (Md.sends (on 32) wd k).1 (wd / 2 ^ (31 - k) % 2), ((Md.sends (on 32) wd k).2 * 2 + (Md.told (Md.sends (on 32) wd k).1 (wd / 2 ^ (31 - k) % 2)).toNat) % 65536) from rfl)
  have H5 := Lib.hid (fun k => Md.sends_lt (on 32) wd k)
  obtain ⟨sd, hsd⟩ : ∃ sd, Md.sends (on 32) wd = sd := ⟨_, rfl⟩
  rw [hsd] at HO2 H3 H4 H5
  rw [hsd]
  clear h ho hon hsend hsd
  go_enter Try.func30, Try.ntmps30
  go_wp2
  go_loopw [7] (fun i wr => ∃ k : Nat, k ≤ 32 ∧ i = .int .i64 k ∧ Hid (SlaveAt wr p (on k) ∧ Mv [p] [p] w wr)) (fun i _ => 32 - (intOf i).toNat)
  case atStart => exact ⟨0, by omega, rfl, Lib.hid ⟨by rw [H1.out]; exact HS.out, Mv.refl _ _⟩⟩
  case round =>
    obtain ⟨k, hk, rfl, HR⟩ := hrel
    by_cases hlt : (k : Int) < 32
    · go_wp2_with (go_at_call 12; refine (HC.out (on k) 1 _ HR.out.1 (HO.out k)).mono ?_; rintro e w1 ⟨rfl, hS1, hM1⟩)
      go_roundw
      case rel => exact ⟨k + 1, by omega, by go_num, Lib.hid ⟨by rw [← H2.out]; exact hS1, HR.out.2.trans hM1⟩⟩
      case measure => simp [intOf]; omega
    · obtain rfl : k = 32 := by omega
      go_wp2
      go_loopw [5, 6] (fun o i wr => ∃ k : Nat, k ≤ 32 ∧ i = .int .i64 (31 - (k : Int)) ∧ o = .int .u16 ((sd k).2 : Int) ∧ Hid (SlaveAt wr p (sd k).1 ∧ Mv [p] [p] w wr)) (fun _ i _ => (intOf i + 1).toNat)
      case atStart => exact ⟨0, by omega, rfl, by rw [H3.out]; rfl, Lib.hid ⟨by rw [H3.out]; exact HR.out.1, HR.out.2⟩⟩
      case round =>
        obtain ⟨k, hk, rfl, rfl, HR2⟩ := hrel
        by_cases hlt : k < 32
        · obtain ⟨j, hj⟩ : ∃ j, 31 - k = j := ⟨_, rfl⟩
          have hji : (31 : Int) - k = j := by omega
          have hj31 : j < 32 := by omega
          have hb2 : wd / 2 ^ j % 2 < 2 := Nat.mod_lt _ (by decide)
          have h4 := H4.out k
          have hod := H5.out k
          have hcl := HC.out (sd k).1 ((wd / 2 ^ j % 2 : Nat) : Int) wr HR2.out.1 (HO2.out k)
          have hin : inN ((wd / 2 ^ j % 2 : Nat) : Int) = wd / 2 ^ j % 2 := by unfold inN; split <;> omega
          rw [hin] at hcl
          have ht := Md.told_or (sd k).1 (wd / 2 ^ j % 2)
          rw [hj] at h4
          have hw1 : wrap64 (bits .and .u32 ((wd : Int) / 2 ^ j) 1) = ((wd / 2 ^ j % 2 : Nat) : Int) := by rw [shr_nat, and1 _ (shr_lt hw _), IntWalk.wrap64_in _ ⟨by omega, by omega⟩]
          obtain ⟨o, ho⟩ : ∃ o, (sd k).2 = o := ⟨_, rfl⟩
          obtain ⟨t, htt⟩ : ∃ t, Md.told (sd k).1 (wd / 2 ^ j % 2) = t := ⟨_, rfl⟩
          rw [ho] at hod h4
          rw [htt] at hcl h4 ht
          rw [ho, hji]
          have HJI := Lib.hid hji
          have HT := Lib.hid ht; have HW1 := Lib.hid hw1; have HCL := Lib.hid hcl; have HH4 := Lib.hid h4
          clear hj hji h4 hin ht hw1 ho htt hcl
          go_wp2_with fail
          rw [HW1.out]
          refine HCL.out.mono ?_
          rintro e w1 ⟨rfl, hS1, hM1⟩
          have HS1 := Lib.hid hS1; have HM1 := Lib.hid hM1
          clear hS1 hM1
          rcases HT.out with rfl | rfl
          · go_wp2
            go_roundw
            case rel => exact ⟨k + 1, by omega, by have := HJI.out; exact int_ret (by omega), by rw [HH4.out]; exact int_ret (or16 o 0 hod (by decide)), Lib.hid ⟨by rw [HH4.out]; exact HS1.out, HR2.out.2.trans HM1.out⟩⟩
            case measure => simp [intOf]
          · go_wp2
            go_roundw
            case rel => exact ⟨k + 1, by omega, by have := HJI.out; exact int_ret (by omega), by rw [HH4.out]; exact int_ret (or16 o 1 hod (by decide)), Lib.hid ⟨by rw [HH4.out]; exact HS1.out, HR2.out.2.trans HM1.out⟩⟩
            case measure => simp [intOf]
        · obtain rfl : k = 32 := by omega
          go_wp2
          go_ret
          exact ⟨rfl, HR2.out.1, HR2.out.2⟩
set_option maxHeartbeats 1000000 in
theorem send_zero (p : Nat) (wd : Nat) (hw : wd < 4294967296) (w : World) (h : w.cell? ⟨p, 0, none⟩ = some .nilFunc) :
    Calls Try.prog 30 #[.pointer (some ⟨p, 0, none⟩), .int .u32 wd] w fun e w' => e = .returned (.int .u16 65535) ∧ w = w' := by
  have HC := Lib.hid (fun n => clock_zero p n w h)
  have HP := Lib.hid (show ∀ k, k < 32 → ((2 ^ k - 1) % 65536 * 2 + 1) % 65536 = (2 ^ (k + 1) - 1) % 65536 from fun k _ => by
    have : 0 < 2 ^ k := Nat.pow_pos (by decide)
    rw [Nat.pow_succ]; omega)
  clear h
  go_enter Try.func30, Try.ntmps30
  go_wp2
  go_loop [7] (fun i => ∃ k : Nat, k ≤ 32 ∧ i = .int .i64 k) (fun i => 32 - (intOf i).toNat)
  case atStart => exact ⟨0, by omega, rfl⟩
  case round =>
    obtain ⟨k, hk, rfl⟩ := hrel
    by_cases hlt : (k : Int) < 32
    · go_wp2_with (go_at_call 12; refine (HC.out 1).mono ?_; rintro e w1 ⟨rfl, rfl⟩)
      go_round
      case rel => exact ⟨k + 1, by omega, by go_num⟩
      case measure => simp [intOf]; omega
    · obtain rfl : k = 32 := by omega
      go_wp2
      go_loop [5, 6] (fun o i => ∃ k : Nat, k ≤ 32 ∧ i = .int .i64 (31 - (k : Int)) ∧ o = .int .u16 (((2 ^ k - 1) % 65536 : Nat) : Int)) (fun _ i => (intOf i + 1).toNat)
      case atStart => exact ⟨0, by omega, rfl, rfl⟩
      case round =>
        obtain ⟨k, hk, rfl, rfl⟩ := hrel
        by_cases hlt : k < 32
        · obtain ⟨j, hj⟩ : ∃ j, 31 - k = j := ⟨_, rfl⟩
          have hji : (31 : Int) - k = j := by omega
          have hj31 : j < 32 := by omega
          have hp := HP.out k hlt
          obtain ⟨o, ho⟩ : ∃ o, (2 ^ k - 1) % 65536 = o := ⟨_, rfl⟩
          have hod : o < 65536 := by omega
          rw [ho] at hp
          rw [ho, hji]
          have HJI := Lib.hid hji
          have HPP := Lib.hid hp
          clear hj hji hp ho
          go_wp2_with fail
          refine (HC.out _).mono ?_
          rintro e w1 ⟨rfl, rfl⟩
          go_wp2
          go_round
          case rel => exact ⟨k + 1, by omega, by have := HJI.out; exact int_ret (by omega), int_ret ((or16 o 1 hod (by decide)).trans (by rw [HPP.out]))⟩
          case measure => simp [intOf]
        · obtain rfl : k = 32 := by omega
          go_wp2
          go_ret
          exact ⟨rfl, rfl⟩
end Go.Proofs.Ytkegljcndhckeac
