import Derived.Test.YtkegljcndhckeabD9
import Derived.Test.YtkegljcndhckeabD2
import Derived.Test.YtkegljcndhckeabDLay
namespace Go.Proofs.Ytkegljcndhckeab
open Go.RowKit
set_option linter.unusedVariables false
def Lays (p : Nat) (F : List Nat) (w0 : World) (ws : List Int) (wr : World) : Prop := ∃ F' R, RamAt wr p F' R ∧ Mv F F' w0 wr ∧ R.ws = ws ∧ R.keep = false ∧ R.log = []
set_option maxHeartbeats 4000000 in
theorem descLays_any (k : Nat) (s : Int) (own : Bool) (hk : 2 ≤ k ∧ k ≤ 64) (hs : 4 ≤ s ∧ s ≤ 240) (hs4 : s % 4 = 0) (n m : Int) (hn : 0 ≤ n ∧ n < 256) (hm : 0 ≤ m ∧ m < 256) (kn : 2 + n % 63 = k) (sm : 4 + 4 * (m % 60) = s) (w : World) :
    Calls Try.prog 7 #[.int .u8 n, .int .u8 m, .bool own] w fun e w' => e = .returned (.bool true) ∧ Below w.heap.size w w' := by
  have hlen : (Rm.blank 1000).ws.length = 1000 := by show (List.replicate 1000 (0 : Int)).length = 1000; rw [List.length_replicate]
  obtain ⟨q1, q2, q3, q4, -⟩ := Ds.ly_all (Rm.blank 1000) 4 k 4096 s own (by rw [hlen]; omega) (by rw [hlen]; omega) k (Nat.le_refl _)
  have hload := fun R2 hw i hi => Ds.ly_load (Rm.blank 1000) R2 1 4 k 4096 s own (by rw [hlen]; omega) (by rw [hlen]; omega) (by omega) hw i hi
  have hlay := fun p F w h => lay_ok p F (Rm.blank 1000) 16 k 4096 s own (by omega) (by omega) hk (by omega) hs4 w h (by decide)
  rw [show (4 : Int) * ((4 : Nat) : Int) = 16 from rfl] at q1 q2 q3 q4 hload
  have q5 := q4 rfl
  rw [show (Rm.blank 1000).log = [] from rfl] at q5
  rw [show (Rm.blank 1000).keep = false from rfl] at q3
  obtain ⟨ly, hly⟩ : ∃ ly, Ds.lyK (Rm.blank 1000) 16 k 4096 s own k = ly := ⟨_, rfl⟩
  rw [hly] at q1 q2 q3 q5 hload hlay
  rw [q1] at hlay
  have hln : ly.1.ws.length = 1000 := by rw [q2, hlen]
  have HLAY := Lib.hid hlay; have HLOAD := Lib.hid hload; have Q3 := Lib.hid q3; have Q5 := Lib.hid q5; have HLN := Lib.hid hln
  have KN := Lib.hid kn; have SM := Lib.hid sm
  obtain ⟨n1, n2⟩ := hn; obtain ⟨m1, m2⟩ := hm; obtain ⟨k1, k2⟩ := hk; obtain ⟨s1, s2⟩ := hs
  have k1' : (2 : Int) ≤ k := by omega
  have k2' : (k : Int) ≤ 64 := by omega
  clear q1 q2 q3 q4 q5 hlay hload hly hln kn sm hlen
  go_enter Try.func7, Try.ntmps7
  go_wp2_with (go_at_call 9; refine (dshown_ok _).mono ?_; rintro e w1 ⟨rfl, hb⟩)
  refine (rnew_ok 1000 (by omega) _).mono ?_
  rintro e w2 ⟨rfl, hR, hb2⟩
  have HB := Lib.hid hb
  have HM := Lib.hid ((Mv.refl [w1.heap.size + 1, w1.heap.size] w1).trans (Mv.of_below hb2))
  have HR := Lib.hid hR
  clear hb2 hb hR
  go_wp2_with fail
  rw [KN.out, SM.out]
  refine (HLAY.out _ _ _ HR.out).mono ?_
  rintro e w3 ⟨rfl, F3, hR3, hM3⟩
  have HR3 := Lib.hid hR3; have HM3 := Lib.hid hM3
  clear hR3 hM3
  go_wp2_with fail
  go_loopw [12] (fun i wr => ∃ j : Nat, j ≤ k ∧ i = .int .i64 j ∧ Hid (Lays (w1.heap.size + 1) F3 w3 ly.1.ws wr)) (fun i _ => k - (intOf i).toNat)
  case atStart => exact ⟨0, by omega, rfl, Lib.hid ⟨F3, ly.1, HR3.out, Mv.refl _ _, rfl, Q3.out, Q5.out⟩⟩
  case round =>
    obtain ⟨j, hj, rfl, HS⟩ := hrel
    by_cases hlt : (j : Int) < k
    · obtain ⟨F1, R, hR, hM, hw, hkp, hlg⟩ := HS.out
      have hj64 : (j : Int) < 64 := by omega
      obtain ⟨g1, g2, g3, g4, g5⟩ := HLOAD.out R hw j (by omega)
      have hld := load_ok _ _ _ 1 (4 * ((4 + 4 * j : Nat) : Int)) (by omega) _ hR (by rw [hlg]; decide)
      rw [g1, g2, show 4 * ((4 + 4 * j : Nat) : Int) = 16 + 16 * (j : Int) by omega] at hld
      rw [show 4 * ((4 + 4 * j : Nat) : Int) = 16 + 16 * (j : Int) by omega] at g3 g4 g5
      have p1 : 0 ≤ s * (j : Int) := Int.mul_nonneg (by omega) (by omega)
      have p2 : s * (j : Int) ≤ 240 * 64 := Int.mul_le_mul s2 (by omega) (by omega) (by omega)
      obtain ⟨x, hx⟩ : ∃ x, s * (j : Int) = x := ⟨_, rfl⟩
      have eD : (Ds.lyD k 4096 s own j).cells.toArray = #[.bool own, .bool ((j : Int) == (k : Int) - 1), .bool false, .bool false, .bool false, .int .i64 0, .int .u32 (4096 + x), .int .i64 s, .int .u32 0] := by
        rw [← hx]
        rw [show (Ds.lyD k 4096 s own j).cells.toArray = #[.bool own, .bool ((j : Int) == (k : Int) - 1), .bool false, .bool false, .bool false, .int .i64 0, .int .u32 ((4096 + s * (j : Int)) % 4294967296), .int .i64 s, .int .u32 0] from rfl]
        rw [Int.emod_eq_of_lt (by omega) (by omega)]
      rw [eD] at hld
      rw [hx] at p1 p2
      have HLD := Lib.hid hld; have G := Lib.hid (And.intro (g3.trans hw) (And.intro (g4.trans hkp) ((g5 hkp).trans hlg))); have HM1 := Lib.hid hM
      have hwx : wrap64 (s * (j : Int)) = x := by rw [hx, IntWalk.wrap64_in _ ⟨by omega, by omega⟩]
      clear hR hM hw hkp hlg g1 g2 g3 g4 g5 hld eD hx HS
      go_wp2_with fail
      refine HLD.out.mono ?_
      rintro e w4 ⟨rfl, F4, hR4, hM4⟩
      have HR4 := Lib.hid hR4; have HM4 := Lib.hid hM4
      clear hR4 hM4
      go_wp2
      go_roundw
      case rel => exact ⟨j + 1, by omega, by go_num, Lib.hid ⟨F4, _, HR4.out.below ((Below.refl _ w4).alloc (Nat.le_refl _) _), (HM1.out.trans HM4.out).trans (Mv.of_below ((Below.refl _ w4).alloc (Nat.le_refl _) _)), G.out.1, G.out.2.1, G.out.2.2⟩⟩
      case measure => simp [intOf]; omega
    · obtain ⟨F1, R, hR, hM, hw, hkp, hlg⟩ := HS.out
      have hbad := lay_ok _ _ _ 3970 2 0 4 own (by omega) (by omega) (by omega) (by omega) (by omega) _ hR (by rw [hlg]; decide)
      rw [Ds.ly_bad R 3970 ((2 : Nat) : Int) 0 4 own 1 (by decide) (by omega)] at hbad
      have HBAD := Lib.hid hbad
      have HEND := Lib.hid (HM.out.trans (HM3.out.trans hM))
      clear hR hM hw hkp hlg hbad HS
      go_wp2_with fail
      refine (lay_no _ _ _ _ _ _ (by omega) _).mono ?_
      rintro e w4 ⟨rfl, rfl⟩
      go_wp2_with fail
      refine (lay_no _ _ _ _ _ _ (by omega) _).mono ?_
      rintro e w4 ⟨rfl, rfl⟩
      go_wp2_with fail
      refine HBAD.out.mono ?_
      rintro e w4 ⟨rfl, F4, hR4, hM4⟩
      have HFIN := Lib.hid (HEND.out.trans hM4)
      clear hR4 hM4
      go_wp2
      go_ret
      exact ⟨rfl, HB.out.trans ((HFIN.out.below (Nat.le_refl _) (by intro k hk; simp at hk; omega)).mono HB.out.size)⟩
theorem descLays_walk (n m : Int) (own : Bool) (w : World) (x1 : (Lit.int .u8 n).wf = true) (x2 : (Lit.int .u8 m).wf = true) :
    Calls Try.prog 7 #[.int .u8 n, .int .u8 m, .bool own] w fun e w' => e = .returned (.bool true) ∧ Below w.heap.size w w' :=
  descLays_any (2 + n % 63).toNat (4 + 4 * (m % 60)) own (by omega) (by omega) (by omega) n m (wf_u8 x1) (wf_u8 x2) (by omega) rfl w
end Go.Proofs.Ytkegljcndhckeab
