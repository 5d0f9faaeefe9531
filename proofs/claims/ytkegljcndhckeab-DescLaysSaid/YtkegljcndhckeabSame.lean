import Derived.Test.YtkegljcndhckeabMm
namespace Go.Proofs.Ytkegljcndhckeab
open Go.RowKit
set_option linter.unusedVariables false
theorem same_next (xs ys : List Int) (hl : xs.length = ys.length) (k : Nat) (hk : k < xs.length) (h : xs.take k = ys.take k) (he : xs.getD k 0 = ys.getD k 0) : xs.take (k + 1) = ys.take (k + 1) := by
  rw [List.take_succ_eq_append_getElem hk, List.take_succ_eq_append_getElem (by omega), h]
  congr 2
  simpa [List.getD_eq_getElem?_getD, hk, hl ▸ hk] using he
theorem same_not (xs ys : List Int) (k : Nat) (he : xs.getD k 0 ≠ ys.getD k 0) : xs ≠ ys := fun h => he (by rw [h])
theorem same_ok (v1 v2 : Value) (xs ys : List Int) (w : World) (h1 : Rd w v1 (nums .u32 xs)) (h2 : Rd w v2 (nums .u32 ys)) :
    Calls Try.prog 14 #[v1, v2] w fun e w' => e = .returned (.bool (decide (xs = ys))) ∧ Below w.heap.size w w' := by
  obtain ⟨A1, c1, rfl, b1, m1, hc1⟩ := id h1
  obtain ⟨A2, c2, rfl, b2, m2, hc2⟩ := id h2
  rw [nums_len] at h1 h2 b1 b2
  rw [nums_len, nums_len]
  have H1 := Lib.hid hc1; have H2 := Lib.hid hc2; clear hc1 hc2
  unfold maxLen at m1 m2
  by_cases hl : xs.length = ys.length
  · have hb : ((xs.length : Int) != (ys.length : Int)) = false := by simp [hl]
    have HL := Lib.hid hl
    clear hl
    go_enter Try.func14, Try.ntmps14
    go_wp2
    clear hb
    go_loopw [5] (fun i wr => ∃ k : Nat, k ≤ xs.length ∧ i = .int .i64 k ∧ Hid (xs.take k = ys.take k) ∧ Below w.heap.size w wr) (fun i _ => xs.length - (intOf i).toNat)
    case atStart => exact ⟨0, by omega, rfl, by simp [Hid], Below.refl _ _⟩
    case round =>
      obtain ⟨k, hk, rfl, heq, hbl⟩ := hrel
      by_cases hlt : k < xs.length
      · obtain ⟨a1, rfl, q1⟩ := H1.out k _ (nums_at .u32 xs k hlt)
        obtain ⟨a2, rfl, q2⟩ := H2.out k _ (nums_at .u32 ys k (by have := HL.out; omega))
        have q1' := below_cell hbl q1
        have q2' := below_cell hbl q2
        have hy : (k : Int) < ys.length := by have := HL.out; omega
        have hy0 : k < ys.length := by omega
        have hx : (k : Int) < xs.length := by omega
        clear q1 q2
        obtain ⟨p, hp⟩ : ∃ p, p = xs.getD k 0 := ⟨_, rfl⟩
        obtain ⟨q, hq⟩ : ∃ q, q = ys.getD k 0 := ⟨_, rfl⟩
        rw [← hp] at q1'; rw [← hq] at q2'
        have HP := Lib.hid hp; have HQ := Lib.hid hq; clear hp hq
        by_cases he : p = q
        · subst he
          go_wp2
          go_quiet (fail)
          go_wp2
          go_roundw
          case rel => exact ⟨k + 1, by omega, by go_num, same_next xs ys HL.out k hlt heq.out (by rw [← HP.out, ← HQ.out]), below_drewN hbl _⟩
          case measure => simp [intOf]; omega
        · have hb : (p != q) = true := by simp [he]
          have HE := Lib.hid he; clear he
          go_wp2
          go_quiet (fail)
          go_wp2
          go_ret
          exact ⟨by simp [same_not xs ys k (by rw [← HP.out, ← HQ.out]; exact HE.out)], below_drewN hbl _⟩
      · have hkl : k = xs.length := by omega
        have hxy : xs = ys := by
          have h := heq.out
          rw [hkl, List.take_length, HL.out, List.take_length] at h
          exact h
        have HX := Lib.hid hxy; clear hxy hkl
        have hx : ¬ (k : Int) < xs.length := by omega
        go_wp2
        go_ret
        exact ⟨by simp [HX.out], hbl⟩
  · have hb : ((xs.length : Int) != (ys.length : Int)) = true := by simp; omega
    have HL := Lib.hid hl
    clear hl
    go_enter Try.func14, Try.ntmps14
    go_wp2
    go_ret
    exact ⟨by have := HL.out; simp; intro e; exact this (by rw [e]), Below.refl _ _⟩
end Go.Proofs.Ytkegljcndhckeab
