import Derived.Test.YtkegljcndhckeacM7
namespace Go.Proofs.Ytkegljcndhckeac
open Go.RowKit
set_option linter.unusedVariables false
namespace Md
def wrP (w : Nat) : Bool := decide (w / 2 ^ 28 % 4 = 1)
def phyP (w : Nat) : Nat := w / 2 ^ 23 % 32
def regP (w : Nat) : Nat := w / 2 ^ 18 % 32
def okP (w : Nat) : Bool := decide (frameN (opN (wrP w)) (phyP w) (regP w) (w % 65536) = w)
theorem parse_frame (wr : Bool) (p r v : Nat) (h1 : p < 32) (h2 : r < 32) (h3 : v < 65536) :
    wrP (frameN (opN wr) p r v) = wr ∧ phyP (frameN (opN wr) p r v) = p ∧ regP (frameN (opN wr) p r v) = r ∧ frameN (opN wr) p r v % 65536 = v ∧ okP (frameN (opN wr) p r v) = true := by
  have ho : opN wr = 1 ∨ opN wr = 2 := by unfold opN; split <;> simp
  have e0 : wrP (frameN (opN wr) p r v) = wr := by
    unfold wrP frameN
    cases wr with
    | true => simp [opN]; omega
    | false => simp [opN]; omega
  have e1 : phyP (frameN (opN wr) p r v) = p := by unfold phyP frameN; omega
  have e2 : regP (frameN (opN wr) p r v) = r := by unfold regP frameN; omega
  have e3 : frameN (opN wr) p r v % 65536 = v := by unfold frameN; omega
  exact ⟨e0, e1, e2, e3, by unfold okP; rw [e0, e1, e2, e3]; simp⟩
theorem field_p (w : Nat) : Wd.fieldN w 23 5 = phyP w := by rw [Wd.fieldN_eq _ _ _ (by decide)]; rfl
theorem field_r (w : Nat) : Wd.fieldN w 18 5 = regP w := by rw [Wd.fieldN_eq _ _ _ (by decide)]; rfl
end Md
set_option maxHeartbeats 1000000 in
theorem parse_ok (wd : Nat) (hw : wd < 4294967296) (ok : Md.okP wd = true) (w : World) : Calls Try.prog 24 #[.int .u32 wd] w fun e w' => e = .returned (.tuple #[.bool (Md.wrP wd), .int .i64 (Md.phyP wd), .int .i64 (Md.regP wd), .int .u16 ((wd % 65536 : Nat) : Int), .int .i64 0]) ∧ w = w' := by
  have hp : Md.phyP wd < 32 := Nat.mod_lt _ (by decide)
  have hr : Md.regP wd < 32 := Nat.mod_lt _ (by decide)
  have F1 := Lib.hid (fun w => field_ok (wd : Int) 23 5 (by omega) (by decide) w)
  have F2 := Lib.hid (fun w => field_ok (wd : Int) 18 5 (by omega) (by decide) w)
  rw [show Wd.fieldN (wd : Int).toNat (23 : Int).toNat (5 : Int).toNat = Md.phyP wd from Md.field_p wd] at F1
  rw [show Wd.fieldN (wd : Int).toNat (18 : Int).toNat (5 : Int).toNat = Md.regP wd from Md.field_r wd] at F2
  have FR := Lib.hid (fun w => frame_ok (Md.wrP wd) (Md.phyP wd) (Md.regP wd) (wd % 65536) hp hr (by omega) w)
  have ok2 := of_decide_eq_true (show decide (Md.frameN (Md.opN (Md.wrP wd)) (Md.phyP wd) (Md.regP wd) (wd % 65536) = wd) = true from ok)
  rw [ok2] at FR
  have e3 : (bits .and .u32 ((wd : Int) / 268435456) 3 == 1) = Md.wrP wd := by
    rw [show (268435456 : Int) = 2 ^ 28 from rfl, shr_nat, and3 _ (shr_lt hw _)]
    exact beq_cast _ 1
  have ev : IntKind.u16.wrap (wd : Int) = ((wd % 65536 : Nat) : Int) := by rw [IntKind.wrap_u16]; omega
  obtain ⟨ph, hph⟩ : ∃ ph, Md.phyP wd = ph := ⟨_, rfl⟩
  obtain ⟨rg, hrg⟩ : ∃ rg, Md.regP wd = rg := ⟨_, rfl⟩
  obtain ⟨wr, hwr⟩ : ∃ wr, Md.wrP wd = wr := ⟨_, rfl⟩
  rw [hph] at hp F1 FR
  rw [hrg] at hr F2 FR
  rw [hwr] at FR e3
  rw [hph, hrg, hwr]
  have E3 := Lib.hid e3; have EV := Lib.hid ev
  clear ok ok2 hph hrg hwr e3 ev
  go_enter Try.func24, Try.ntmps24
  go_wp2_with fail
  refine (F1.out _).mono ?_
  rintro e w1 ⟨rfl, rfl⟩
  go_wp2_with fail
  refine (F2.out _).mono ?_
  rintro e w1 ⟨rfl, rfl⟩
  go_wp2_with fail
  rw [E3.out, EV.out]
  refine (FR.out _).mono ?_
  rintro e w1 ⟨rfl, rfl⟩
  go_wp2
  rw [EV.out]
  exact bodyPost_ret (v := .tuple #[.bool wr, .int .i64 ph, .int .i64 rg, .int .u16 ((wd % 65536 : Nat) : Int), .int .i64 0]) (by simp [results, Try.results24, go_sem]) rfl ⟨rfl, rfl⟩
set_option maxHeartbeats 1000000 in
theorem parse_no (wd : Nat) (hw : wd < 4294967296) (ok : Md.okP wd = false) (w : World) : Calls Try.prog 24 #[.int .u32 wd] w fun e w' => e = .returned (.tuple #[.bool false, .int .i64 0, .int .i64 0, .int .u16 0, .int .i64 5]) ∧ w = w' := by
  have hp : Md.phyP wd < 32 := Nat.mod_lt _ (by decide)
  have hr : Md.regP wd < 32 := Nat.mod_lt _ (by decide)
  have F1 := Lib.hid (fun w => field_ok (wd : Int) 23 5 (by omega) (by decide) w)
  have F2 := Lib.hid (fun w => field_ok (wd : Int) 18 5 (by omega) (by decide) w)
  rw [show Wd.fieldN (wd : Int).toNat (23 : Int).toNat (5 : Int).toNat = Md.phyP wd from Md.field_p wd] at F1
  rw [show Wd.fieldN (wd : Int).toNat (18 : Int).toNat (5 : Int).toNat = Md.regP wd from Md.field_r wd] at F2
  have FR := Lib.hid (fun w => frame_ok (Md.wrP wd) (Md.phyP wd) (Md.regP wd) (wd % 65536) hp hr (by omega) w)
  have ok2 := of_decide_eq_false (show decide (Md.frameN (Md.opN (Md.wrP wd)) (Md.phyP wd) (Md.regP wd) (wd % 65536) = wd) = false from ok)
  have e3 : (bits .and .u32 ((wd : Int) / 268435456) 3 == 1) = Md.wrP wd := by
    rw [show (268435456 : Int) = 2 ^ 28 from rfl, shr_nat, and3 _ (shr_lt hw _)]
    exact beq_cast _ 1
  have ev : IntKind.u16.wrap (wd : Int) = ((wd % 65536 : Nat) : Int) := by rw [IntKind.wrap_u16]; omega
  obtain ⟨ph, hph⟩ : ∃ ph, Md.phyP wd = ph := ⟨_, rfl⟩
  obtain ⟨rg, hrg⟩ : ∃ rg, Md.regP wd = rg := ⟨_, rfl⟩
  obtain ⟨wr, hwr⟩ : ∃ wr, Md.wrP wd = wr := ⟨_, rfl⟩
  rw [hph] at hp F1 FR ok2
  rw [hrg] at hr F2 FR ok2
  rw [hwr] at FR e3 ok2
  obtain ⟨fr, hfr⟩ : ∃ fr, Md.frameN (Md.opN wr) ph rg (wd % 65536) = fr := ⟨_, rfl⟩
  rw [hfr] at FR ok2
  have E3 := Lib.hid e3; have EV := Lib.hid ev
  have hne : ((fr : Int) != (wd : Int)) = true := by rw [bne_iff_ne]; omega
  clear ok ok2 hph hrg hwr e3 ev hfr
  go_enter Try.func24, Try.ntmps24
  go_wp2_with fail
  refine (F1.out _).mono ?_
  rintro e w1 ⟨rfl, rfl⟩
  go_wp2_with fail
  refine (F2.out _).mono ?_
  rintro e w1 ⟨rfl, rfl⟩
  go_wp2_with fail
  rw [E3.out, EV.out]
  refine (FR.out _).mono ?_
  rintro e w1 ⟨rfl, rfl⟩
  go_wp2
  exact bodyPost_ret (v := .tuple #[.bool false, .int .i64 0, .int .i64 0, .int .u16 0, .int .i64 5]) (by simp [results, Try.results24, go_sem]) rfl ⟨rfl, rfl⟩
end Go.Proofs.Ytkegljcndhckeac
