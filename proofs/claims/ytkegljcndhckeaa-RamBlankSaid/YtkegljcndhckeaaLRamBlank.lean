import Derived.Test.YtkegljcndhckeaaRM5
namespace Go.Proofs.Ytkegljcndhckeaa
open Go.RowKit
set_option linter.unusedVariables false
theorem ramBlank_walk (m a : Int) (w : World) (x0 : (Lit.int .u16 m).wf = true) (x1 : (Lit.int .u16 a).wf = true) :
    Calls Try.prog 4 #[.int .u16 m, .int .u16 a] w fun e w' => e = .returned (.bool true) ∧ Below w.heap.size w w' := by
  obtain ⟨h1, h2⟩ := wf_u16 x0
  obtain ⟨h3, h4⟩ := wf_u16 x1
  clear x0 x1
  obtain ⟨k, hk⟩ : ∃ k, m % 16384 = k := ⟨_, rfl⟩
  have hk1 : 0 ≤ k := by omega
  have hk2 : k < 16384 := by omega
  have hr1 : 0 ≤ a % (k + 1) := Int.emod_nonneg _ (by omega)
  have hr2 : a % (k + 1) < k + 1 := Int.emod_lt_of_pos _ (by omega)
  have hK := Lib.hid (show m % 16384 = k from hk); clear hk
  have E1 := Lib.hid (show Rm.rdE (Rm.blank (k + 1).toNat) (4 * (a % (k + 1))) = 0 by unfold Rm.rdE; rw [blank_is, if_pos]; simp; omega)
  have E2 := fun u v => Lib.hid (show Rm.rdE (Rm.read (Rm.blank (k + 1).toNat) u v) (4 * (k + 1)) = 7 by unfold Rm.rdE; rw [Rm.is_read, blank_is, if_neg]; simp; omega)
  go_enter Try.func4, Try.ntmps4
  go_wp2_with (go_at_call 9; refine (rshown_ok _).mono ?_; rintro e w1 ⟨rfl, hb⟩)
  rw [hK.out]
  refine (rnew_ok _ (by omega) _).mono ?_
  rintro e w2 ⟨rfl, hR, hb2⟩
  have HB := Lib.hid hb
  have HM := Lib.hid ((Mv.refl [w1.heap.size + 1, w1.heap.size] w1).trans (Mv.of_below hb2))
  clear hb2 hb
  go_wp2_with fail
  refine (read_at _ _ _ _ _ (by omega) _ hR (by simp [Rm.blank]) 0 0 (blank_rdV _ _) E1.out).mono ?_
  clear hR
  rintro e w3 ⟨rfl, F3, hR, hM⟩
  replace HM := Lib.hid (HM.out.trans hM)
  clear hM
  go_wp2_with fail
  refine (read_at _ _ _ _ _ (by omega) _ hR (by exact Nat.lt_of_le_of_lt (Rm.read_len _ _ _) (by simp [Rm.blank])) 0 7 (by have := (E2 1 (4 * (a % (k + 1)))).out; unfold Rm.rdE at this; unfold Rm.rdV; split at this <;> simp_all) (E2 _ _).out).mono ?_
  clear hR
  rintro e w4 ⟨rfl, F4, hR, hM⟩
  replace HM := Lib.hid (HM.out.trans hM)
  clear hM E1 E2
  have hB := HB.out.trans (HM.out.below (Nat.le_refl _) (by intro k hk; simp at hk; omega) |>.mono HB.out.size)
  have hlen : ((Rm.read (Rm.read (Rm.blank (k + 1).toNat) 1 (4 * (a % (k + 1)))) 1 (4 * (k + 1))).ws.length : Int) = k + 1 := by simp [Rm.blank]; omega
  have HW := Lib.hid hlen
  have hwords := words_ok _ _ _ _ hR
  rw [hlen] at hwords
  have HWS := Lib.hid hwords
  clear hlen hwords hR HM
  go_wp2_with (first | (go_at_call 10; refine (rnew_no _ (by omega) _).mono ?_; rintro e w' ⟨rfl, rfl⟩) | (go_at_call 13; refine HWS.out.mono ?_; rintro e w' ⟨rfl, rfl⟩))
  go_ret
  exact ⟨rfl, hB⟩
end Go.Proofs.Ytkegljcndhckeaa
