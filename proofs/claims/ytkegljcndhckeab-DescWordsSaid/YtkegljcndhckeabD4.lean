import Derived.Test.YtkegljcndhckeabWBit
import Derived.Test.YtkegljcndhckeabD3
import Derived.Test.YtkegljcndhckeabSame
namespace Go.Proofs.Ytkegljcndhckeab
open Go.RowKit
set_option linter.unusedVariables false
theorem bit16_ok (b : Bool) (v : Int) (w : World) : Calls Try.prog 30 #[.bool b, .int .u32 v] w fun e w' => e = .returned (.int .u32 (if b then v else 0)) ∧ w' = w := by
  cases b <;> (
    go_enter Try.func30, Try.ntmps30
    go_wp2
    go_ret
    exact ⟨rfl, rfl⟩)
theorem rwords_no (d : Ds.D) (hm : d.may = false) (w : World) :
    Calls Try.prog 11 #[.agg d.cells.toArray] w fun e w' => e = .returned (.tuple #[.slice none 0 0, .int .i64 1]) ∧ Below w.heap.size w w' := by
  obtain ⟨own, wrap, first, last, bad, len, at_, size, stamp⟩ := d
  simp only [Ds.D.cells]
  have h : ¬ (0 ≤ len ∧ len ≤ 65535 ∧ 0 ≤ size ∧ size ≤ 65535) := by simpa [Ds.D.may] using hm
  clear hm
  by_cases c1 : len < 0
  · clear h
    go_enter Try.func11, Try.ntmps11
    go_wp2
    go_ret2
    exact ⟨rfl, (Below.refl _ w).alloc (Nat.le_refl _) _⟩
  by_cases c2 : 65535 < len
  · clear h
    go_enter Try.func11, Try.ntmps11
    go_wp2
    go_ret2
    exact ⟨rfl, (Below.refl _ w).alloc (Nat.le_refl _) _⟩
  by_cases c3 : size < 0
  · clear h
    go_enter Try.func11, Try.ntmps11
    go_wp2
    go_ret2
    exact ⟨rfl, (Below.refl _ w).alloc (Nat.le_refl _) _⟩
  have c4 : 65535 < size := by omega
  clear h
  go_enter Try.func11, Try.ntmps11
  go_wp2
  go_ret2
  exact ⟨rfl, (Below.refl _ w).alloc (Nat.le_refl _) _⟩
theorem word_sum (d : Ds.D) (h : 0 ≤ d.len) : (d.word : Int) = d.len + (if d.own then 2147483648 else 0) + (if d.wrap then 1073741824 else 0) + (if d.first then 536870912 else 0) + (if d.last then 268435456 else 0) + (if d.bad then 134217728 else 0) := by
  obtain ⟨own, wrap, first, last, bad, len, at_, size, stamp⟩ := d
  simp only at h
  cases own <;> cases wrap <;> cases first <;> cases last <;> cases bad <;> simp [Ds.D.word, Ds.D.acc, Ds.D.high, Ds.D.flag] <;> omega
set_option maxHeartbeats 2000000 in
theorem rwords_ok (d : Ds.D) (hm : d.may = true) (w : World) :
    Calls Try.prog 11 #[.agg d.cells.toArray] w fun e w' => ∃ g, w.heap.size ≤ g ∧ e = .returned (.tuple #[.slice (some ⟨g, 0, none⟩) 4 4, .int .i64 0]) ∧ w'.heap[g]? = some (.cells (nums .u32 d.words).toArray 22 (0, 0)) ∧ Below w.heap.size w w' := by
  have h : 0 ≤ d.len ∧ d.len ≤ 65535 ∧ 0 ≤ d.size ∧ d.size ≤ 65535 := by simpa [Ds.D.may] using hm
  have hw := word_sum d h.1
  have e1 : d.words = [(d.word : Int), d.at_, d.size, d.stamp] := rfl
  rw [e1, hw]
  obtain ⟨own, wrap, first, last, bad, len, at_, size, stamp⟩ := d
  obtain ⟨h1, h2, h3, h4⟩ := h
  simp only [Ds.D.cells] at *
  have k0 := fun w => bit16_ok own 2147483648 w
  have k1 := fun w => bit16_ok wrap 1073741824 w
  have k2 := fun w => bit16_ok first 536870912 w
  have k3 := fun w => bit16_ok last 268435456 w
  have k4 := fun w => bit16_ok bad 134217728 w
  have b0 : (0 : Int) ≤ (if own then 2147483648 else 0) ∧ (if own then (2147483648 : Int) else 0) ≤ 2147483648 := by cases own <;> simp
  have b1 : (0 : Int) ≤ (if wrap then 1073741824 else 0) ∧ (if wrap then (1073741824 : Int) else 0) ≤ 1073741824 := by cases wrap <;> simp
  have b2 : (0 : Int) ≤ (if first then 536870912 else 0) ∧ (if first then (536870912 : Int) else 0) ≤ 536870912 := by cases first <;> simp
  have b3 : (0 : Int) ≤ (if last then 268435456 else 0) ∧ (if last then (268435456 : Int) else 0) ≤ 268435456 := by cases last <;> simp
  have b4 : (0 : Int) ≤ (if bad then 134217728 else 0) ∧ (if bad then (134217728 : Int) else 0) ≤ 134217728 := by cases bad <;> simp
  obtain ⟨f0, g0⟩ : ∃ f : Int, (if own then 2147483648 else 0) = f := ⟨_, rfl⟩
  obtain ⟨f1, g1⟩ : ∃ f : Int, (if wrap then 1073741824 else 0) = f := ⟨_, rfl⟩
  obtain ⟨f2, g2⟩ : ∃ f : Int, (if first then 536870912 else 0) = f := ⟨_, rfl⟩
  obtain ⟨f3, g3⟩ : ∃ f : Int, (if last then 268435456 else 0) = f := ⟨_, rfl⟩
  obtain ⟨f4, g4⟩ : ∃ f : Int, (if bad then 134217728 else 0) = f := ⟨_, rfl⟩
  rw [g0] at k0 b0; rw [g1] at k1 b1; rw [g2] at k2 b2; rw [g3] at k3 b3; rw [g4] at k4 b4
  rw [g0, g1, g2, g3, g4]
  obtain ⟨l0, u0⟩ := b0; obtain ⟨l1, u1⟩ := b1; obtain ⟨l2, u2⟩ := b2; obtain ⟨l3, u3⟩ := b3; obtain ⟨l4, u4⟩ := b4
  have K0 := Lib.hid k0; have K1 := Lib.hid k1; have K2 := Lib.hid k2; have K3 := Lib.hid k3; have K4 := Lib.hid k4
  clear k0 k1 k2 k3 k4 g0 g1 g2 g3 g4 hw e1 hm
  go_enter Try.func11, Try.ntmps11
  go_wp2
  go_quiet (first | exact Calls.quiet_of_same (K0.out _) | exact Calls.quiet_of_same (K1.out _) | exact Calls.quiet_of_same (K2.out _) | exact Calls.quiet_of_same (K3.out _) | exact Calls.quiet_of_same (K4.out _))
  go_wp2
  go_ret2
  have hs : ((w.alloc (.cells #[.bool own, .bool wrap, .bool first, .bool last, .bool bad, .int .i64 len, .int .u32 at_, .int .i64 size, .int .u32 stamp] 24)).drewN nq).heap.size = w.heap.size + 1 := World.size_alloc w _
  have hg := heap_alloc_new ((w.alloc (.cells #[.bool own, .bool wrap, .bool first, .bool last, .bool bad, .int .i64 len, .int .u32 at_, .int .i64 size, .int .u32 stamp] 24)).drewN nq) (.cells (nums .u32 [len + f0 + f1 + f2 + f3 + f4, at_, size, stamp]).toArray 22)
  rw [hs] at hg
  exact ⟨w.heap.size + 1, by omega, rfl, hg, (below_drewN ((Below.refl _ w).alloc (Nat.le_refl _) _) nq).alloc (by rw [hs]; omega) _⟩
/-! ### The document's: words as a descriptor -/
theorem rof_no (xs : List Int) (v : Value) (hx : ∀ x ∈ xs, 0 ≤ x ∧ x < 4294967296) (hl : xs.length ≠ 4 ∨ Ds.ofOk xs = false) (w : World) (h : Rd w v (nums .u32 xs)) :
    Calls Try.prog 13 #[v] w fun e w' => e = .returned (.tuple #[.agg Ds.blank.cells.toArray, .int .i64 5]) ∧ Below w.heap.size w w' := by
  by_cases hl4 : xs.length = 4
  · obtain ⟨x0, x1, x2, x3, rfl⟩ : ∃ a b c d, xs = [a, b, c, d] := by
      match xs, hl4 with
      | [a, b, c, d], _ => exact ⟨a, b, c, d, rfl⟩
    obtain ⟨a, c, rfl, h1, h2, q0, q1, q2, q3⟩ := rd4 h
    have hlt := World.block_lt_of_cell? w _ q0
    obtain ⟨n, rfl⟩ := Int.eq_ofNat_of_zero_le (hx x0 (by simp)).1
    obtain ⟨m, rfl⟩ := Int.eq_ofNat_of_zero_le (hx x2 (by simp)).1
    have hn := (hx n (by simp)).2
    have hm := (hx m (by simp)).2
    have hk : ¬ (m ≤ 65535 ∧ n / 65536 % 2048 = 0) := by
      rcases hl with hl | hl
      · exact absurd rfl hl
      · simp [Ds.ofOk] at hl; omega
    clear hl hx h hl4
    unfold maxLen at h2
    by_cases hf : n / 65536 % 2048 = 0
    · have hb : ((n : Int) / 65536 % 2048 != 0) = false := by simp; omega
      have hc : (65536 : Int) ≤ m := by omega
      clear hk hf
      go_enter Try.func13, Try.ntmps13
      go_wp2
      (try simp only [Exit.inBlock, Exit.then])
      refine bodyPost_ret (v := .tuple #[.agg Ds.blank.cells.toArray, .int .i64 5]) ?hr rfl ⟨rfl, ?hb⟩
      case hr => rw [results_cell_tmp rfl]; go_simp; rfl
      case hb => exact (Below.refl _ w).alloc (Nat.le_refl _) _
    · have hb : ((n : Int) / 65536 % 2048 != 0) = true := by simp; omega
      clear hk hf
      go_enter Try.func13, Try.ntmps13
      go_wp2
      (try simp only [Exit.inBlock, Exit.then])
      refine bodyPost_ret (v := .tuple #[.agg Ds.blank.cells.toArray, .int .i64 5]) ?hr rfl ⟨rfl, ?hb⟩
      case hr => rw [results_cell_tmp rfl]; go_simp; rfl
      case hb => exact (Below.refl _ w).alloc (Nat.le_refl _) _
  · obtain ⟨A, c, rfl, h1, h2, h3⟩ := h
    rw [nums_len] at h1
    rw [nums_len]
    unfold maxLen at h2
    have hb : ((xs.length : Int) != 4) = true := by simp; omega
    have HL := Lib.hid hl4
    clear h3 hl hl4 hx
    go_enter Try.func13, Try.ntmps13
    go_wp2
    (try simp only [Exit.inBlock, Exit.then])
    refine bodyPost_ret (v := .tuple #[.agg Ds.blank.cells.toArray, .int .i64 5]) ?hr rfl ⟨rfl, ?hb⟩
    case hr => rw [results_cell_tmp rfl]; go_simp; rfl
    case hb => exact (Below.refl _ w).alloc (Nat.le_refl _) _
end Go.Proofs.Ytkegljcndhckeab
