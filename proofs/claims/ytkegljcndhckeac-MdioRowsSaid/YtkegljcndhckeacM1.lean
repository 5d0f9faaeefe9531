import Derived.Test.YtkegljcndhckeacM0
import Derived.BigRegion
namespace Go.Proofs.Ytkegljcndhckeac
open Go.RowKit
set_option linter.unusedVariables false
/-- A call that turns the slave at p, and nothing else. -/
def Turns (p : Nat) (w : World) (e : Ending) (r : Ending) (s' : Md.S) (w' : World) : Prop := e = r ∧ SlaveAt w' p s' ∧ Mv [p] [p] w w'
theorem push_bits (g i : Nat) (hi : i < 2) : bits .or .u32 ((g : Int) * 2 % 4294967296) (i : Int) = (((g * 2 + i) % 4294967296 : Nat) : Int) := by
  have e : ((g : Int) * 2 % 4294967296) = ((g * 2 % 4294967296 : Nat) : Int) := by omega
  rw [e, u32_or_nat _ _ (by omega) (by omega)]
  have h1 : g * 2 % 4294967296 = 2 ^ 1 * (g % 2147483648) := by omega
  rw [h1, ← Nat.two_pow_add_eq_or_of_lt (by omega)]
  congr 1
  omega
set_option maxHeartbeats 400000 in
theorem push_ok (p : Nat) (s : Md.S) (i : Nat) (hi : i < 2) (w : World) (h : SlaveAt w p s) (hb : s.bits < 32) :
    Calls Try.prog 35 #[.pointer (some ⟨p, 0, none⟩), .int .i64 i] w fun e w' => Turns p w e (.returned (.tuple #[])) (Md.push s i) w' := by
  obtain ⟨c0, c33, c34, c35, c36, c37, c38, c39, c40, c41⟩ := slave_cells h
  have f := h.free
  have ho := h.fit.push i hb
  have hg := h.fit.got
  obtain ⟨b1, b2⟩ := h.fit.bits
  obtain ⟨⟨cs, hh, hk⟩, -⟩ := h
  have HH := Lib.hid (And.intro hh hk); have HO := Lib.hid ho
  clear hh hk ho
  go_enter Try.func35, Try.ntmps35
  go_wp2
  go_end0
  rw [push_bits _ _ hi]
  exact ⟨rfl, ⟨⟨_, at_set (at_set HH.out (HH.out.2.got_ _)) ((HH.out.2.got_ _).bits_ _)⟩, HO.out⟩, mv_set (mv_set (Mv.refl _ _) _ _) _ _⟩
theorem over_ok (p : Nat) (s : Md.S) (i : Int) (hi : 0 ≤ i ∧ i ≤ 32) (w : World) (h : SlaveAt w p s) :
    Calls Try.prog 36 #[.pointer (some ⟨p, 0, none⟩), .int .i64 i] w fun e w' => Turns p w e (.returned (.tuple #[])) { s with ones := i, ph := 0 } w' := by
  obtain ⟨c0, c33, c34, c35, c36, c37, c38, c39, c40, c41⟩ := slave_cells h
  have f := h.free
  have ho := h.fit.over i hi
  obtain ⟨⟨cs, hh, hk⟩, -⟩ := h
  have HH := Lib.hid (And.intro hh hk); have HO := Lib.hid ho
  clear hh hk ho
  go_enter Try.func36, Try.ntmps36
  go_wp2
  go_end0
  exact ⟨rfl, ⟨⟨_, at_set (at_set HH.out (HH.out.2.ones_ i)) ((HH.out.2.ones_ i).next 0)⟩, HO.out⟩, mv_set (mv_set (Mv.refl _ _) _ _) _ _⟩
theorem idle_ok (p : Nat) (s : Md.S) (i : Nat) (hi : i < 2) (w : World) (h : SlaveAt w p s) (h0 : s.ph = 0) :
    Calls Try.prog 26 #[.pointer (some ⟨p, 0, none⟩), .int .i64 i] w fun e w' => Turns p w e (.returned (.int .i64 1)) (Md.idle s i) w' := by
  have ho := h.fit.idle i
  obtain ⟨c0, c33, c34, c35, c36, c37, c38, c39, c40, c41⟩ := slave_cells h
  have f := h.free
  obtain ⟨b1, b2⟩ := h.fit.ones
  obtain ⟨⟨cs, hh, hk⟩, -⟩ := h
  have HH := Lib.hid (And.intro hh hk); have HO := Lib.hid ho
  clear hh hk ho h0
  unfold Md.idle at *
  by_cases hi1 : i = 1
  · subst hi1
    rw [if_pos rfl] at *
    by_cases h32 : s.ones = 32
    · rw [h32] at HO c34
      have h33 := Lib.hid h32
      clear h32
      go_enter Try.func26, Try.ntmps26
      go_wp2
      go_ret
      rw [show min (s.ones + 1) 32 = (32 : Int) by rw [h33.out]; rfl] at *
      exact ⟨rfl, ⟨⟨_, at_set HH.out (HH.out.2.ones_ 32)⟩, HO.out⟩, mv_set (Mv.refl _ _) _ _⟩
    · have hlt : s.ones < 32 := by omega
      go_enter Try.func26, Try.ntmps26
      go_wp2
      go_ret
      rw [show min (s.ones + 1) 32 = s.ones + 1 by omega] at *
      exact ⟨rfl, ⟨⟨_, at_set HH.out (HH.out.2.ones_ _)⟩, HO.out⟩, mv_set (Mv.refl _ _) _ _⟩
  · obtain rfl : i = 0 := by omega
    rw [if_neg (by decide)] at *
    by_cases h32 : s.ones = 32
    · rw [if_pos h32] at *
      rw [h32] at c34
      have h33 := Lib.hid h32
      clear h32
      go_enter Try.func26, Try.ntmps26
      go_wp2
      go_ret
      exact ⟨rfl, ⟨⟨_, at_set (at_set (at_set HH.out (HH.out.2.bits_ 1)) ((HH.out.2.bits_ 1).got_ 0)) (((HH.out.2.bits_ 1).got_ 0).next 1)⟩, HO.out⟩, mv_set (mv_set (mv_set (Mv.refl _ _) _ _) _ _) _ _⟩
    · have hlt : s.ones < 32 := by omega
      rw [if_neg h32] at *
      have hne : (s.ones == 32) = false := by simp [h32]
      go_enter Try.func26, Try.ntmps26
      go_wp2
      go_ret
      exact ⟨rfl, ⟨⟨_, at_set HH.out (HH.out.2.ones_ 0)⟩, HO.out⟩, mv_set (Mv.refl _ _) _ _⟩
end Go.Proofs.Ytkegljcndhckeac
