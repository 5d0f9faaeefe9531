import Derived.Test.YtkegljcndhckeacM8
namespace Go.Proofs.Ytkegljcndhckeac
open Go.RowKit
set_option linter.unusedVariables false
set_option maxHeartbeats 2000000 in
theorem mdioWhole_any (wr : Bool) (p r v wd : Nat) (w : World) (hp : p < 32) (hr : r < 32) (hv : v < 65536) (hw : wd < 4294967296) (n1 n2 : Int) (q1 : 0 ≤ n1 ∧ n1 < 256) (q2 : 0 ≤ n2 ∧ n2 < 256) (k1 : n1 % 32 = p) (k2 : n2 % 32 = r) :
    Calls Try.prog 8 #[.bool wr, .int .u8 n1, .int .u8 n2, .int .u16 v, .int .u32 wd] w fun e w' => e = .returned (.bool true) ∧ Below w.heap.size w w' := by
  obtain ⟨f1, f2, f3, f4, f5⟩ := Md.parse_frame wr p r v hp hr hv
  have hfl : Md.frameN (Md.opN wr) p r v < 4294967296 := Nat.lt_trans (IsFr wr p r v hp hr hv).lt (by decide)
  have FR := Lib.hid (fun w => frame_ok wr p r v hp hr hv w)
  have PA := Lib.hid (fun w => parse_ok _ hfl f5 w)
  rw [f1, f2, f3, f4] at PA
  obtain ⟨fr, hfr⟩ : ∃ fr, Md.frameN (Md.opN wr) p r v = fr := ⟨_, rfl⟩
  rw [hfr] at FR PA hfl
  obtain ⟨a1, a2⟩ := q1; obtain ⟨b1, b2⟩ := q2
  have P2 := Lib.hid (fun ok w => parse_ok wd hw ok w)
  have P3 := Lib.hid (fun ok w => parse_no wd hw ok w)
  have FR2 := Lib.hid (fun w => frame_ok (Md.wrP wd) (Md.phyP wd) (Md.regP wd) (wd % 65536) (Nat.mod_lt _ (by decide)) (Nat.mod_lt _ (by decide)) (Nat.mod_lt _ (by decide)) w)
  have HOK := Lib.hid (show Md.okP wd = true → Md.frameN (Md.opN (Md.wrP wd)) (Md.phyP wd) (Md.regP wd) (wd % 65536) = wd from fun h => of_decide_eq_true h)
  have hpp : (Md.phyP wd : Int) < 32 := by have : Md.phyP wd < 32 := Nat.mod_lt _ (by decide); omega
  have hrr : (Md.regP wd : Int) < 32 := by have : Md.regP wd < 32 := Nat.mod_lt _ (by decide); omega
  obtain ⟨ok, hok⟩ : ∃ ok, Md.okP wd = ok := ⟨_, rfl⟩
  obtain ⟨ph, hph⟩ : ∃ ph, Md.phyP wd = ph := ⟨_, rfl⟩
  obtain ⟨rg, hrg⟩ : ∃ rg, Md.regP wd = rg := ⟨_, rfl⟩
  obtain ⟨wp, hwp⟩ : ∃ wp, Md.wrP wd = wp := ⟨_, rfl⟩
  obtain ⟨vv, hvv⟩ : ∃ vv, wd % 65536 = vv := ⟨_, rfl⟩
  rw [hok, hph, hrg, hwp, hvv] at P2
  rw [hok] at P3
  rw [hph, hrg, hwp, hvv] at FR2
  rw [hok, hph, hrg, hwp, hvv] at HOK
  rw [hph] at hpp; rw [hrg] at hrr
  have hp' : (p : Int) < 32 := by omega
  have hr' : (r : Int) < 32 := by omega
  clear f1 f2 f3 f4 f5 hfr hok hph hrg hwp hvv
  go_enter Try.func8, Try.ntmps8
  go_wp2_with fail
  refine (mshown_ok _).mono ?_
  rintro e w1 ⟨rfl, hb⟩
  have HB := Lib.hid hb
  clear hb
  go_wp2_with fail
  refine (FR.out _).mono ?_
  rintro e w2 ⟨rfl, rfl⟩
  go_wp2_with fail
  refine (PA.out _).mono ?_
  rintro e w2 ⟨rfl, rfl⟩
  cases ok with
  | true =>
    have e2 := HOK.out rfl
    go_wp2_with fail
    refine (P2.out (by first | rfl | trivial) _).mono ?_
    rintro e w2 ⟨rfl, rfl⟩
    go_wp2_with fail
    refine (FR2.out _).mono ?_
    rintro e w2 ⟨rfl, rfl⟩
    rw [e2]
    clear e2
    go_wp2
    go_ret
    exact ⟨rfl, HB.out⟩
  | false =>
    have F0 := Lib.hid (fun w => frame_ok false 0 0 0 (by decide) (by decide) (by decide) w)
    go_wp2_with fail
    refine (P3.out (by first | rfl | trivial) _).mono ?_
    rintro e w2 ⟨rfl, rfl⟩
    go_wp2_with fail
    refine (F0.out _).mono ?_
    rintro e w2 ⟨rfl, rfl⟩
    go_wp2
    go_ret
    exact ⟨rfl, HB.out⟩
theorem mdioWhole_walk (wr : Bool) (n1 n2 v wd : Int) (w : World) (x1 : (Lit.int .u8 n1).wf = true) (x2 : (Lit.int .u8 n2).wf = true) (x3 : (Lit.int .u16 v).wf = true) (x4 : (Lit.int .u32 wd).wf = true) :
    Calls Try.prog 8 #[.bool wr, .int .u8 n1, .int .u8 n2, .int .u16 v, .int .u32 wd] w fun e w' => e = .returned (.bool true) ∧ Below w.heap.size w w' := by
  have h3 := wf_u16 x3; have h4 := wf_u32 x4
  obtain ⟨v, rfl⟩ := Int.eq_ofNat_of_zero_le h3.1
  obtain ⟨wd, rfl⟩ := Int.eq_ofNat_of_zero_le h4.1
  exact mdioWhole_any wr (n1 % 32).toNat (n2 % 32).toNat v wd w (by omega) (by omega) (by omega) (by omega) n1 n2 (wf_u8 x1) (wf_u8 x2) (by omega) (by omega)
end Go.Proofs.Ytkegljcndhckeac
