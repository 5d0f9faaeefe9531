import Derived.Test.YtkegljcndhckeadRM3
import Derived.Test.YtkegljcndhckeadRM4
namespace Go.Proofs.Ytkegljcndhckead
open Go.RowKit
set_option linter.unusedVariables false
theorem blank_is (n : Nat) (a : Int) : Rm.is (Rm.blank n) a = decide (a % 4 = 0 ∧ a / 4 < n) := by simp [Rm.is, Rm.blank]
theorem blank_rdV (n : Nat) (a : Int) : Rm.rdV (Rm.blank n) a = 0 := by
  unfold Rm.rdV
  split
  · simp [Rm.blank, List.getD_eq_getElem?_getD, List.getElem?_replicate]
    split <;> rfl
  · rfl
@[simp] theorem rdE_read (R : Rm.Ram) (who a b : Int) : Rm.rdE (Rm.read R who a) b = Rm.rdE R b := by simp [Rm.rdE]
@[simp] theorem rdE_write (R : Rm.Ram) (who a v b : Int) : Rm.rdE (Rm.write R who a v) b = Rm.rdE R b := by simp [Rm.rdE]
@[simp] theorem rdV_read (R : Rm.Ram) (who a b : Int) : Rm.rdV (Rm.read R who a) b = Rm.rdV R b := by simp [Rm.rdV]
theorem write_log {R : Rm.Ram} (h : R.keep = false) (who a v : Int) : (Rm.write R who a v).log = R.log := by
  unfold Rm.write Rm.note
  split <;> (rw [if_neg (by simp [h])])
theorem read_log {R : Rm.Ram} (h : R.keep = false) (who a : Int) : (Rm.read R who a).log = R.log := by
  unfold Rm.read Rm.note
  rw [if_neg (by simp [h])]
theorem rdV_write_same (R : Rm.Ram) (who a v : Int) (h0 : 0 ≤ a) (h : Rm.is R a = true) : Rm.rdV (Rm.write R who a v) a = v := by
  have h' := Rm.is_iff.1 h
  simp only [Rm.rdV, Rm.is_write, h, if_true, Rm.write_ws]
  rw [List.getD_eq_getElem?_getD, List.getElem?_set_self (by omega)]
  rfl
theorem rdV_write_far (R : Rm.Ram) (who a v b : Int) (h0 : 0 ≤ a) (h1 : 0 ≤ b) (hne : a / 4 ≠ b / 4) : Rm.rdV (Rm.write R who a v) b = Rm.rdV R b := by
  simp only [Rm.rdV, Rm.is_write, Rm.write_ws]
  split
  · split
    · rw [List.getD_eq_getElem?_getD, List.getElem?_set_ne (by omega), List.getD_eq_getElem?_getD]
    · rfl
  · rfl
abbrev Reads (p : Nat) (F : List Nat) (R : Rm.Ram) (who a V E : Int) (w : World) : Prop :=
  Calls Try.prog 56 #[.pointer (some ⟨p, 0, none⟩), .int .i64 who, .int .u32 a] w fun e w' =>
      e = .returned (.tuple #[.int .u32 V, .int .i64 E]) ∧ ∃ F', RamAt w' p F' (Rm.read R who a) ∧ Mv F F' w w'
theorem read_at (p : Nat) (F : List Nat) (R : Rm.Ram) (who a : Int) (ha : 0 ≤ a ∧ a < 4294967296) (w : World) (h : RamAt w p F R) (hl : R.log.length < 1000000000) (V E : Int) (hV : Rm.rdV R a = V) (hE : Rm.rdE R a = E) :
    Reads p F R who a V E w := by
  subst hV; subst hE; exact read_ok p F R who a ha w h hl
theorem write_at (p : Nat) (F : List Nat) (R : Rm.Ram) (who a v : Int) (ha : 0 ≤ a ∧ a < 4294967296) (hv : 0 ≤ v ∧ v < 4294967296) (w : World) (h : RamAt w p F R) (hl : R.log.length < 1000000000) (E : Int) (hE : Rm.rdE R a = E) :
    Calls Try.prog 18 #[.pointer (some ⟨p, 0, none⟩), .int .i64 who, .int .u32 a, .int .u32 v] w fun e w' =>
      e = .returned (.int .i64 E) ∧ ∃ F', RamAt w' p F' (Rm.write R who a v) ∧ Mv F F' w w' := by
  subst hE; exact write_ok p F R who a v ha hv w h hl
end Go.Proofs.Ytkegljcndhckead
