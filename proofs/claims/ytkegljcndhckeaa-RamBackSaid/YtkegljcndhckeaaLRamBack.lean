import Derived.Test.YtkegljcndhckeaaRM5
namespace Go.Proofs.Ytkegljcndhckeaa
open Go.RowKit
set_option linter.unusedVariables false
set_option maxHeartbeats 1000000 in
theorem ramBack_walk (m a v b u : Int) (w : World) (x0 : (Lit.int .u8 m).wf = true) (x1 : (Lit.int .u16 a).wf = true) (x2 : (Lit.int .u32 v).wf = true) (x3 : (Lit.int .u16 b).wf = true) (x4 : (Lit.int .u32 u).wf = true) :
    Calls Try.prog 3 #[.int .u8 m, .int .u16 a, .int .u32 v, .int .u16 b, .int .u32 u] w fun e w' => e = .returned (.bool true) ∧ Below w.heap.size w w' := by
  obtain ⟨h1, h2⟩ := wf_u8 x0
  obtain ⟨h3, h4⟩ := wf_u16 x1
  obtain ⟨h5, h6⟩ := wf_u16 x3
  have V := Lib.hid (wf_u32 x2)
  have U := Lib.hid (wf_u32 x4)
  clear x0 x1 x2 x3 x4
  have hr1 : 0 ≤ a % (1 + m) := Int.emod_nonneg _ (by omega)
  have hr2 : a % (1 + m) < 1 + m := Int.emod_lt_of_pos _ (by omega)
  have hs1 : 0 ≤ b % (1 + m) := Int.emod_nonneg _ (by omega)
  have hs2 : b % (1 + m) < 1 + m := Int.emod_lt_of_pos _ (by omega)
  obtain ⟨i, hi⟩ : ∃ i, a % (1 + m) = i := ⟨_, rfl⟩
  obtain ⟨j, hj⟩ : ∃ j, b % (1 + m) = j := ⟨_, rfl⟩
  have ht1 := hr1; have ht2 := hr2; have hu1 := hs1; have hu2 := hs2
  rw [hi] at ht1 ht2
  rw [hj] at hu1 hu2
  have I1 := Lib.hid (show Rm.is (Rm.blank (1 + m).toNat) (4 * i) = true by rw [blank_is]; simp; omega)
  have J1 := Lib.hid (show Rm.is (Rm.blank (1 + m).toNat) (4 * j) = true by rw [blank_is]; simp; omega)
  have E1 := Lib.hid (show Rm.rdE (Rm.blank (1 + m).toNat) (4 * i) = 0 by simp [Rm.rdE, I1.out])
  have E2 := Lib.hid (show Rm.rdE (Rm.blank (1 + m).toNat) (4 * j) = 0 by simp [Rm.rdE, J1.out])
  have E3 := Lib.hid (show Rm.rdE (Rm.blank (1 + m).toNat) (4 * (1 + m)) = 7 by unfold Rm.rdE; rw [blank_is, if_neg]; simp <;> omega)
  have E4 := Lib.hid (show Rm.rdE (Rm.blank (1 + m).toNat) (4 * i + 1) = 7 by unfold Rm.rdE; rw [blank_is, if_neg]; simp <;> omega)
  obtain ⟨x, hx⟩ : ∃ x, Rm.rdV (Rm.write (Rm.write (Rm.blank (1 + m).toNat) 1 (4 * i) v) 2 (4 * j) u) (4 * i) = x := ⟨_, rfl⟩
  have hxv : (4 * i == 4 * j || x == v) = true := by
    by_cases e : i = j
    · subst e; simp
    · rw [rdV_write_far _ _ _ _ _ (by omega) (by omega) (by omega), rdV_write_same _ _ _ _ (by omega) I1.out] at hx
      simp [hx]
  have HX := Lib.hid hx
  have HI := Lib.hid hi
  have HJ := Lib.hid hj
  have HXV := Lib.hid hxv
  clear hx hi hj hxv
  go_enter Try.func3, Try.ntmps3
  go_wp2_with (go_at_call 9; refine (rshown_ok _).mono ?_; rintro e w1 ⟨rfl, hb⟩)
  refine (rnew_ok _ (by omega) _).mono ?_
  rintro e w2 ⟨rfl, hR, hb2⟩
  have HB := Lib.hid hb
  have HM := Lib.hid ((Mv.refl [w1.heap.size + 1, w1.heap.size] w1).trans (Mv.of_below hb2))
  clear hb2 hb
  go_wp2_with fail
  rw [HI.out, HJ.out]
  refine (write_at _ _ _ _ _ _ (by omega) V.out _ hR (by simp [Rm.blank]) 0 E1.out).mono ?_
  clear hR
  rintro e w3 ⟨rfl, F3, hR, hM⟩
  replace HM := Lib.hid (HM.out.trans hM)
  clear hM
  go_wp2_with fail
  refine (write_at _ _ _ _ _ _ (by omega) U.out _ hR (by simp [write_log, Rm.blank]) 0 ((rdE_write _ _ _ _ _).trans E2.out)).mono ?_
  clear hR
  rintro e w4 ⟨rfl, F4, hR, hM⟩
  replace HM := Lib.hid (HM.out.trans hM)
  clear hM
  go_wp2_with fail
  refine (read_at _ _ _ _ _ (by omega) _ hR (by simp [write_log, Rm.blank]) x 0 HX.out (by simp [E1.out])).mono ?_
  clear hR
  rintro e w5 ⟨rfl, F5, hR, hM⟩
  replace HM := Lib.hid (HM.out.trans hM)
  clear hM
  go_wp2_with fail
  refine (read_at _ _ _ _ _ (by omega) _ hR (by simp [write_log, read_log, Rm.blank]) u 0 ((rdV_read _ _ _ _).trans (rdV_write_same _ _ _ _ (by omega) (by simpa using J1.out))) (by simp [E2.out])).mono ?_
  clear hR
  rintro e w6 ⟨rfl, F6, hR, hM⟩
  replace HM := Lib.hid (HM.out.trans hM)
  clear hM
  have W1 := Lib.hid (write_at _ _ _ 1 (4 * (1 + m)) v (by omega) V.out _ hR (by simp [write_log, read_log, Rm.blank]) 7 (by simp [E3.out]))
  clear hR
  have hlt : 4 * i + 1 < 4294967296 := by omega
  by_cases hij : i = j
  · have hc : (4 * i == 4 * j) = true := by simp [hij]
    have HIJ := Lib.hid hij; clear hij
    go_wp2_with (first | (go_at_call 11; with_reducible refine W1.out.mono ?_; rintro e w7 ⟨rfl, F7, hR, hM⟩; replace HM := Lib.hid (HM.out.trans hM); clear hM) | (go_at_call 11; refine (write_at _ _ _ 1 (4 * i + 1) v (by omega) V.out _ hR (by simp [write_log, read_log, Rm.blank]) 7 (by simp [E4.out])).mono ?_; clear hR; rintro e w8 ⟨rfl, F8, hR, hM⟩; replace HM := Lib.hid (HM.out.trans hM); clear hM))
    go_ret
    exact ⟨rfl, HB.out.trans (HM.out.below (Nat.le_refl _) (by intro k hk; simp at hk; omega) |>.mono HB.out.size)⟩
  · have hc : (4 * i == 4 * j) = false := by simp; omega
    have hd : (x == v) = true := by have := HXV.out; rw [hc] at this; simpa using this
    have HIJ := Lib.hid hij; clear hij
    go_wp2_with (first | (go_at_call 11; with_reducible refine W1.out.mono ?_; rintro e w7 ⟨rfl, F7, hR, hM⟩; replace HM := Lib.hid (HM.out.trans hM); clear hM) | (go_at_call 11; refine (write_at _ _ _ 1 (4 * i + 1) v (by omega) V.out _ hR (by simp [write_log, read_log, Rm.blank]) 7 (by simp [E4.out])).mono ?_; clear hR; rintro e w8 ⟨rfl, F8, hR, hM⟩; replace HM := Lib.hid (HM.out.trans hM); clear hM))
    go_ret
    exact ⟨rfl, HB.out.trans (HM.out.below (Nat.le_refl _) (by intro k hk; simp at hk; omega) |>.mono HB.out.size)⟩
end Go.Proofs.Ytkegljcndhckeaa
