import Derived.Test.YtkegljcndhckeacM5
import Derived.Test.YtkegljcndhckeacWF
namespace Go.Proofs.Ytkegljcndhckeac
open Go.RowKit
set_option linter.unusedVariables false
theorem frame_bits (op p r v : Nat) (h1 : op < 4) (h2 : p < 32) (h3 : r < 32) (h4 : v < 65536) :
    bits .or .u32 (bits .or .u32 (bits .or .u32 (bits .or .u32 (bits .or .u32 1073741824 ((op * 268435456 : Nat) : Int)) ((p : Int) * 8388608)) ((r : Int) * 262144)) 131072) (v : Int) = ((Md.frameN op p r v : Nat) : Int) := by
  have e1 : 1073741824 ||| op * 268435456 = 2 ^ 28 * (4 + op) := by
    rw [show (1073741824 : Nat) = 2 ^ 30 * 1 by rfl, ← Nat.two_pow_add_eq_or_of_lt (by omega)]; omega
  have e2 : 2 ^ 28 * (4 + op) ||| p * 8388608 = 2 ^ 23 * (32 * (4 + op) + p) := by
    rw [← Nat.two_pow_add_eq_or_of_lt (by omega)]; omega
  have e3 : 2 ^ 23 * (32 * (4 + op) + p) ||| r * 262144 = 2 ^ 18 * (32 * (32 * (4 + op) + p) + r) := by
    rw [← Nat.two_pow_add_eq_or_of_lt (by omega)]; omega
  have e4 : 2 ^ 18 * (32 * (32 * (4 + op) + p) + r) ||| 131072 = 2 ^ 17 * (2 * (32 * (32 * (4 + op) + p) + r) + 1) := by
    rw [← Nat.two_pow_add_eq_or_of_lt (by omega)]; omega
  have e5 : 2 ^ 17 * (2 * (32 * (32 * (4 + op) + p) + r) + 1) ||| v = Md.frameN op p r v := by
    rw [← Nat.two_pow_add_eq_or_of_lt (by omega)]; unfold Md.frameN; omega
  have cp : (p : Int) * 8388608 = ((p * 8388608 : Nat) : Int) := by omega
  have cr : (r : Int) * 262144 = ((r * 262144 : Nat) : Int) := by omega
  rw [cp, cr]
  rw [show (1073741824 : Int) = ((1073741824 : Nat) : Int) from rfl, u32_or_nat 1073741824 _ (by decide) (by omega), e1, u32_or_nat _ _ (by omega) (by omega), e2, u32_or_nat _ _ (by omega) (by omega), e3,
    show (131072 : Int) = ((131072 : Nat) : Int) from rfl, u32_or_nat _ 131072 (by omega) (by decide), e4, u32_or_nat _ _ (by omega) (by omega), e5]
theorem frame_no (wr : Bool) (p r v : Int) (h : p < 0 ∨ 32 ≤ p ∨ r < 0 ∨ 32 ≤ r) (w : World) : Calls Try.prog 11 #[.bool wr, .int .i64 p, .int .i64 r, .int .u16 v] w fun e w' => e = .returned (.tuple #[.int .u32 0, .int .i64 1]) ∧ w = w' := by
  by_cases c1 : p < 0
  · clear h
    go_enter Try.func11, Try.ntmps11
    go_wp2
    go_ret2
    exact ⟨rfl, rfl⟩
  by_cases c2 : 32 ≤ p
  · clear h
    go_enter Try.func11, Try.ntmps11
    go_wp2
    go_ret2
    exact ⟨rfl, rfl⟩
  by_cases c3 : r < 0
  · clear h
    go_enter Try.func11, Try.ntmps11
    go_wp2
    go_ret2
    exact ⟨rfl, rfl⟩
  have c4 : 32 ≤ r := by omega
  clear h
  go_enter Try.func11, Try.ntmps11
  go_wp2
  go_ret2
  exact ⟨rfl, rfl⟩
theorem frame_ok (wr : Bool) (p r v : Nat) (h1 : p < 32) (h2 : r < 32) (h3 : v < 65536) (w : World) : Calls Try.prog 11 #[.bool wr, .int .i64 p, .int .i64 r, .int .u16 v] w fun e w' => e = .returned (.tuple #[.int .u32 (Md.frameN (Md.opN wr) p r v), .int .i64 0]) ∧ w = w' := by
  have FB := Lib.hid (frame_bits (Md.opN wr) p r v (by unfold Md.opN; split <;> decide) h1 h2 h3)
  cases wr with
  | true =>
    go_enter Try.func11, Try.ntmps11
    go_wp2
    go_ret2
    exact ⟨tup2 (int_ret FB.out) rfl, rfl⟩
  | false =>
    go_enter Try.func11, Try.ntmps11
    go_wp2
    go_ret2
    exact ⟨tup2 (int_ret FB.out) rfl, rfl⟩
theorem IsFr (wr : Bool) (p r v : Nat) (h1 : p < 32) (h2 : r < 32) (h3 : v < 65536) : Md.IsFrame (Md.frameN (Md.opN wr) p r v) (Md.opN wr) p r v := ⟨rfl, by unfold Md.opN; split <;> simp, h1, h2, h3⟩
theorem mread_no (P : Option Addr) (p r : Int) (h : p < 0 ∨ 32 ≤ p ∨ r < 0 ∨ 32 ≤ r) (w : World) : Calls Try.prog 19 #[.pointer P, .int .i64 p, .int .i64 r] w fun e w' => e = .returned (.tuple #[.int .u16 0, .int .i64 1]) ∧ w = w' := by
  have F := Lib.hid (frame_no false p r 0 h)
  clear h
  go_enter Try.func19, Try.ntmps19
  go_wp2_with (go_at_call 11; refine (F.out _).mono ?_; rintro e w1 ⟨rfl, rfl⟩)
  go_ret2
  exact ⟨rfl, rfl⟩
theorem mread_ok (q : Nat) (s : Md.S) (p r : Nat) (h1 : p < 32) (h2 : r < 32) (w : World) (h : SlaveAt w q s) (ho : Md.Ok s) : Calls Try.prog 19 #[.pointer (some ⟨q, 0, none⟩), .int .i64 p, .int .i64 r] w fun e w' => Turns q w e (.returned (.tuple #[.int .u16 ((Md.send s (Md.frameN 2 p r 0)).2 : Int), .int .i64 0])) (Md.send s (Md.frameN 2 p r 0)).1 w' := by
  have F := Lib.hid (frame_ok false p r 0 h1 h2 (by decide))
  have S := Lib.hid (send_ok q s (Md.frameN 2 p r 0) (by have := (IsFr false p r 0 h1 h2 (by decide)).lt; exact Nat.lt_trans this (by decide)) w h ho)
  clear h ho
  go_enter Try.func19, Try.ntmps19
  go_wp2_with fail
  refine (F.out _).mono ?_
  rintro e w1 ⟨rfl, rfl⟩
  go_wp2_with (go_at_call 30; refine S.out.mono ?_; rintro e w1 ⟨rfl, hS, hM⟩)
  go_ret2
  exact ⟨rfl, hS, hM⟩
theorem mread_zero (q : Nat) (p r : Nat) (h1 : p < 32) (h2 : r < 32) (w : World) (h : w.cell? ⟨q, 0, none⟩ = some .nilFunc) : Calls Try.prog 19 #[.pointer (some ⟨q, 0, none⟩), .int .i64 p, .int .i64 r] w fun e w' => e = .returned (.tuple #[.int .u16 65535, .int .i64 0]) ∧ w = w' := by
  have F := Lib.hid (frame_ok false p r 0 h1 h2 (by decide))
  have S := Lib.hid (send_zero q (Md.frameN 2 p r 0) (by have := (IsFr false p r 0 h1 h2 (by decide)).lt; exact Nat.lt_trans this (by decide)) w h)
  clear h
  go_enter Try.func19, Try.ntmps19
  go_wp2_with fail
  refine (F.out _).mono ?_
  rintro e w1 ⟨rfl, rfl⟩
  go_wp2_with (go_at_call 30; refine S.out.mono ?_; rintro e w1 ⟨rfl, rfl⟩)
  go_ret2
  exact ⟨rfl, rfl⟩
theorem mwrite_no (P : Option Addr) (p r v : Int) (h : p < 0 ∨ 32 ≤ p ∨ r < 0 ∨ 32 ≤ r) (w : World) : Calls Try.prog 21 #[.pointer P, .int .i64 p, .int .i64 r, .int .u16 v] w fun e w' => e = .returned (.int .i64 1) ∧ w = w' := by
  have F := Lib.hid (frame_no true p r v h)
  clear h
  go_enter Try.func21, Try.ntmps21
  go_wp2_with (go_at_call 11; refine (F.out _).mono ?_; rintro e w1 ⟨rfl, rfl⟩)
  go_ret
  exact ⟨rfl, rfl⟩
theorem mwrite_ok (q : Nat) (s : Md.S) (p r v : Nat) (h1 : p < 32) (h2 : r < 32) (h3 : v < 65536) (w : World) (h : SlaveAt w q s) (ho : Md.Ok s) : Calls Try.prog 21 #[.pointer (some ⟨q, 0, none⟩), .int .i64 p, .int .i64 r, .int .u16 v] w fun e w' => Turns q w e (.returned (.int .i64 0)) (Md.send s (Md.frameN 1 p r v)).1 w' := by
  have F := Lib.hid (frame_ok true p r v h1 h2 h3)
  have S := Lib.hid (send_ok q s (Md.frameN 1 p r v) (by have := (IsFr true p r v h1 h2 h3).lt; exact Nat.lt_trans this (by decide)) w h ho)
  clear h ho
  go_enter Try.func21, Try.ntmps21
  go_wp2_with fail
  refine (F.out _).mono ?_
  rintro e w1 ⟨rfl, rfl⟩
  go_wp2_with (go_at_call 30; refine S.out.mono ?_; rintro e w1 ⟨rfl, hS, hM⟩)
  go_ret
  exact ⟨rfl, hS, hM⟩
end Go.Proofs.Ytkegljcndhckeac
