import Derived.Test.YtkegljcndhckeabD4
import Derived.StillTailTactics
namespace Go.Proofs.Ytkegljcndhckeab
open Go.RowKit
set_option linter.unusedVariables false
theorem rbit_at (n : Nat) (hn : n < 4294967296) (k : Nat) (hk : k ≤ 31) (i : Int) (hi : i = ((31 - k : Nat) : Int)) (w : World) :
    Calls Try.prog 32 #[.int .u32 n, .int .i64 i] w fun e w' => e = .returned (.int .u32 ((n / 2 ^ (31 - k) % 2 : Nat) : Int)) ∧ w' = w := by
  subst hi
  exact (bit_ok n ((31 - k : Nat) : Int) (by omega) (by omega) w).mono fun e w' ⟨he, hw⟩ => ⟨he, hw.symm⟩
set_option maxHeartbeats 2000000 in
theorem rof_ok (x0 x1 x2 x3 : Int) (v : Value) (h0 : 0 ≤ x0 ∧ x0 < 4294967296) (h0' : 0 ≤ x2) (w : World) (h : Rd w v (nums .u32 [x0, x1, x2, x3])) (hc : x2 ≤ 65535) (hf : x0.toNat / 65536 % 2048 = 0) :
    Calls Try.prog 13 #[v] w fun e w' => e = .returned (.tuple #[.agg (Ds.ofD x0 x1 x2 x3).cells.toArray, .int .i64 0]) ∧ Below w.heap.size w w' := by
  obtain ⟨n, rfl⟩ := Int.eq_ofNat_of_zero_le h0.1
  have hn : n < 4294967296 := by omega
  obtain ⟨a, c, rfl, h1, h2, q0, q1, q2, q3⟩ := rd4 h
  have hlt := World.block_lt_of_cell? w _ q0
  have hb : ((n : Int) / 65536 % 2048 != 0) = false := by simp at hf ⊢; omega
  unfold maxLen at h2
  have hb0 := DescAt.new w Ds.blank
  have HQ := Lib.hid (And.intro q0 (And.intro q1 (And.intro q2 q3)))
  have hB := Lib.hid (show Below w.heap.size w (w.alloc (.cells Ds.blank.cells.toArray 24)) from (Below.refl _ w).alloc (Nat.le_refl _) _)
  have HB0 := Lib.hid hb0
  have k0 := fun w => rbit_at n hn 0 (by omega) 31 rfl w
  have k1 := fun w => rbit_at n hn 1 (by omega) 30 rfl w
  have k2 := fun w => rbit_at n hn 2 (by omega) 29 rfl w
  have k3 := fun w => rbit_at n hn 3 (by omega) 28 rfl w
  have k4 := fun w => rbit_at n hn 4 (by omega) 27 rfl w
  have F : ∀ k, (((n / 2 ^ (31 - k) % 2 : Nat) : Int) == 1) = Ds.flagOf n k := fun k => by
    unfold Ds.flagOf
    by_cases h : n / 2 ^ (31 - k) % 2 = 1
    · rw [h]; rfl
    · have : n / 2 ^ (31 - k) % 2 = 0 := by omega
      rw [this]; rfl
  obtain ⟨b0, g0⟩ : ∃ b : Int, ((n / 2 ^ (31 - 0) % 2 : Nat) : Int) = b := ⟨_, rfl⟩
  obtain ⟨b1, g1⟩ : ∃ b : Int, ((n / 2 ^ (31 - 1) % 2 : Nat) : Int) = b := ⟨_, rfl⟩
  obtain ⟨b2, g2⟩ : ∃ b : Int, ((n / 2 ^ (31 - 2) % 2 : Nat) : Int) = b := ⟨_, rfl⟩
  obtain ⟨b3, g3⟩ : ∃ b : Int, ((n / 2 ^ (31 - 3) % 2 : Nat) : Int) = b := ⟨_, rfl⟩
  obtain ⟨b4, g4⟩ : ∃ b : Int, ((n / 2 ^ (31 - 4) % 2 : Nat) : Int) = b := ⟨_, rfl⟩
  rw [g0] at k0; rw [g1] at k1; rw [g2] at k2; rw [g3] at k3; rw [g4] at k4
  have t0 := F 0; have t1 := F 1; have t2 := F 2; have t3 := F 3; have t4 := F 4
  rw [g0] at t0; rw [g1] at t1; rw [g2] at t2; rw [g3] at t3; rw [g4] at t4
  have K0 := Lib.hid k0; have K1 := Lib.hid k1; have K2 := Lib.hid k2; have K3 := Lib.hid k3; have K4 := Lib.hid k4
  have T := Lib.hid (And.intro t0 (And.intro t1 (And.intro t2 (And.intro t3 t4))))
  clear k0 k1 k2 k3 k4 g0 g1 g2 g3 g4 t0 t1 t2 t3 t4 F h hf hb0
  go_enter Try.func13, Try.ntmps13
  go_wp2
  refine wp_region_still_tail 29 (by kernel_rfl) (by kernel_rfl) ?_
  simp only [List.take_succ_cons, List.take_zero, List.drop_succ_cons, List.drop_zero]
  change wpStill _ _ ((w.alloc (.cells #[.bool false, .bool false, .bool false, .bool false, .bool false, .int .i64 0, .int .u32 0, .int .i64 0, .int .u32 0] 24)).drew) _ _ _
  generalize hW : (w.alloc (.cells #[.bool false, .bool false, .bool false, .bool false, .bool false, .int .i64 0, .int .u32 0, .int .i64 0, .int .u32 0] 24)).drew = W
  have hBW : Below w.heap.size w W := by rw [← hW]; exact hB.out.drew
  have hDW : DescAt W w.heap.size Ds.blank := by rw [← hW]; exact HB0.out.below ((Below.refl _ _).drew)
  have r0 := below_cell hBW HQ.out.1; have r1 := below_cell hBW HQ.out.2.1; have r2 := below_cell hBW HQ.out.2.2.1; have r3 := below_cell hBW HQ.out.2.2.2
  obtain ⟨e0, e1, e2, e3, e4, e5, e6, e7, e8⟩ := desc_cells hDW
  have f1 := desc_frees hDW
  have HBW := Lib.hid hBW; have HDW := Lib.hid hDW
  have HWW := Lib.hid hW
  clear hW hBW hDW q0 q1 q2 q3
  still_step
  still_call (K0.out _)
  still_step
  still_step
  still_call (K1.out _)
  still_step
  still_step
  still_call (K2.out _)
  still_step
  still_step
  still_call (K3.out _)
  still_step
  still_step
  still_call (K4.out _)
  still_step
  iterate 14 still_step
  refine wpStill_nil ?_
  change wpList _ _ _ _ _ ((w.alloc (.cells #[.bool false, .bool false, .bool false, .bool false, .bool false, .int .i64 0, .int .u32 0, .int .i64 0, .int .u32 0] 24)).drew)
  rw [HWW.out]
  rw [show IntKind.i64.wrap ((n : Int).tmod 65536) = (n : Int) % 65536 by rw [Int.tmod_eq_emod_of_nonneg (by omega), IntKind.wrap_i64]; omega]
  try rw [show IntKind.i64.wrap x2 = x2 by rw [IntKind.wrap_i64]; omega]
  go_wp2
  (try simp only [Exit.inBlock, Exit.then])
  have hd : (⟨b0 == 1, b1 == 1, b2 == 1, b3 == 1, b4 == 1, (n : Int) % 65536, x1, x2, x3⟩ : Ds.D) = Ds.ofD n x1 x2 x3 := by
    obtain ⟨t0, t1, t2, t3, t4⟩ := T.out
    rw [t0, t1, t2, t3, t4]
    simp [Ds.ofD, Ds.ofK]
  rw [← hd]
  refine bodyPost_ret (v := .tuple #[.agg (⟨b0 == 1, b1 == 1, b2 == 1, b3 == 1, b4 == 1, (n : Int) % 65536, x1, x2, x3⟩ : Ds.D).cells.toArray, .int .i64 0]) ?hr rfl ⟨rfl, ?hb⟩
  case hr => exact ret_desc w.heap.size rfl (put9_at HDW.out ⟨b0 == 1, b1 == 1, b2 == 1, b3 == 1, b4 == 1, (n : Int) % 65536, x1, x2, x3⟩) rfl rfl
  case hb => exact put9_below HBW.out (Nat.le_refl _) ⟨b0 == 1, b1 == 1, b2 == 1, b3 == 1, b4 == 1, (n : Int) % 65536, x1, x2, x3⟩
end Go.Proofs.Ytkegljcndhckeab
