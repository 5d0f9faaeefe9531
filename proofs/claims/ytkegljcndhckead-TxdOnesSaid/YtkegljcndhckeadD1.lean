import Derived.Test.YtkegljcndhckeadMm
import Derived.Test.YtkegljcndhckeadDPure
namespace Go.Proofs.Ytkegljcndhckead
open Go.RowKit
set_option linter.unusedVariables false
theorem rd_heap {w : World} {g : Nat} {xs : List Value} {t : TypeId} {fr : Nat × Nat} (h : w.heap[g]? = some (.cells xs.toArray t fr)) (hm : xs.length ≤ maxLen) : Rd w (.slice (some ⟨g, 0, none⟩) xs.length xs.length) xs :=
  ⟨_, _, rfl, Nat.le_refl _, hm, fun i u hu => ⟨_, rfl, by
    have e : (⟨g, 0, none⟩ : Addr).add i = ⟨g, i, none⟩ := by unfold Addr.add; split <;> simp_all
    rw [e, cell_heap h]; simpa using hu⟩⟩
def Ds.D.cells (d : Ds.D) : List Value := [.bool d.own, .bool d.wrap, .bool d.first, .bool d.last, .bool d.bad, .int .i64 d.len, .int .u32 d.at_, .int .i64 d.size, .int .u32 d.stamp]
def fptrs (b : Nat) : List Value := [.pointer (some ⟨b, 0, none⟩), .pointer (some ⟨b, 1, none⟩), .pointer (some ⟨b, 2, none⟩), .pointer (some ⟨b, 3, none⟩), .pointer (some ⟨b, 4, none⟩)]
/-- The descriptor d lies at block b. -/
def DescAt (w : World) (b : Nat) (d : Ds.D) : Prop := w.heap[b]? = some (.cells d.cells.toArray 54 (0, 0))
theorem DescAt.new (w : World) (d : Ds.D) : DescAt (w.alloc (.cells d.cells.toArray 54)) w.heap.size d := heap_alloc_new w _
theorem DescAt.below {w w' : World} {b : Nat} {d : Ds.D} (h : DescAt w b d) (hb : Below w.heap.size w w') : DescAt w' b d := (hb.block b (Array.getElem?_eq_some_iff.1 h).1).trans h
theorem desc_cells {w : World} {b : Nat} {d : Ds.D} (h : DescAt w b d) : w.cell? ⟨b, 0, none⟩ = some (.bool d.own) ∧ w.cell? ⟨b, 1, none⟩ = some (.bool d.wrap) ∧ w.cell? ⟨b, 2, none⟩ = some (.bool d.first) ∧ w.cell? ⟨b, 3, none⟩ = some (.bool d.last) ∧
    w.cell? ⟨b, 4, none⟩ = some (.bool d.bad) ∧ w.cell? ⟨b, 5, none⟩ = some (.int .i64 d.len) ∧ w.cell? ⟨b, 6, none⟩ = some (.int .u32 d.at_) ∧ w.cell? ⟨b, 7, none⟩ = some (.int .i64 d.size) ∧ w.cell? ⟨b, 8, none⟩ = some (.int .u32 d.stamp) :=
  ⟨(cell_heap h 0).trans rfl, (cell_heap h 1).trans rfl, (cell_heap h 2).trans rfl, (cell_heap h 3).trans rfl, (cell_heap h 4).trans rfl, (cell_heap h 5).trans rfl, (cell_heap h 6).trans rfl, (cell_heap h 7).trans rfl, (cell_heap h 8).trans rfl⟩
theorem desc_frees {w : World} {b : Nat} {d : Ds.D} (h : DescAt w b d) (i : Nat) : w.frozen? ⟨b, i, none⟩ = false := by simp [World.frozen?, show w.heap[b]? = _ from h]
theorem flags_ok (b : Nat) (d : Ds.D) (w : World) (h : w.heap[b]? = some (.cells d.cells.toArray 54 (0, 0))) :
    Calls Try.prog 70 #[.pointer (some ⟨b, 0, none⟩)] w fun e w' => e = .returned (.agg (fptrs b).toArray) ∧ Below w.heap.size w w' := by
  simp only [fptrs]
  go_enter Try.func70, Try.ntmps70
  go_wp2
  go_region
  all_goals go_wp2
  all_goals (try simp only [Exit.inBlock, Exit.then])
  all_goals refine bodyPost_ret (v := .agg (fptrs b).toArray) ?hr rfl ⟨rfl, ?hb⟩
  case hb => exact ((Below.refl _ w).alloc (Nat.le_refl _) _).drew
  case hr => exact results_cell_row rfl _ _ w.heap.size 116 (fptrs b).toArray (0, 0) _ rfl (by exact heap_alloc_new w _) Try.underlying116 rfl (by kernel_rfl)
theorem ix0 (b : Nat) (w : World) : (Instr.index 116 (.agg #[.pointer (some ⟨b, 0, none⟩), .pointer (some ⟨b, 1, none⟩), .pointer (some ⟨b, 2, none⟩), .pointer (some ⟨b, 3, none⟩), .pointer (some ⟨b, 4, none⟩)]) (.int .i64 0)).run Try.prog w = .ok (.pointer (some ⟨b, 0, none⟩)) w := by kernel_rfl
theorem ix1 (b : Nat) (w : World) : (Instr.index 116 (.agg #[.pointer (some ⟨b, 0, none⟩), .pointer (some ⟨b, 1, none⟩), .pointer (some ⟨b, 2, none⟩), .pointer (some ⟨b, 3, none⟩), .pointer (some ⟨b, 4, none⟩)]) (.int .i64 1)).run Try.prog w = .ok (.pointer (some ⟨b, 1, none⟩)) w := by kernel_rfl
theorem ix2 (b : Nat) (w : World) : (Instr.index 116 (.agg #[.pointer (some ⟨b, 0, none⟩), .pointer (some ⟨b, 1, none⟩), .pointer (some ⟨b, 2, none⟩), .pointer (some ⟨b, 3, none⟩), .pointer (some ⟨b, 4, none⟩)]) (.int .i64 2)).run Try.prog w = .ok (.pointer (some ⟨b, 2, none⟩)) w := by kernel_rfl
theorem ix3 (b : Nat) (w : World) : (Instr.index 116 (.agg #[.pointer (some ⟨b, 0, none⟩), .pointer (some ⟨b, 1, none⟩), .pointer (some ⟨b, 2, none⟩), .pointer (some ⟨b, 3, none⟩), .pointer (some ⟨b, 4, none⟩)]) (.int .i64 3)).run Try.prog w = .ok (.pointer (some ⟨b, 3, none⟩)) w := by kernel_rfl
theorem ix4 (b : Nat) (w : World) : (Instr.index 116 (.agg #[.pointer (some ⟨b, 0, none⟩), .pointer (some ⟨b, 1, none⟩), .pointer (some ⟨b, 2, none⟩), .pointer (some ⟨b, 3, none⟩), .pointer (some ⟨b, 4, none⟩)]) (.int .i64 4)).run Try.prog w = .ok (.pointer (some ⟨b, 4, none⟩)) w := by kernel_rfl
theorem dwords_no (d : Ds.D) (hm : d.may = false) (w : World) :
    Calls Try.prog 58 #[.agg d.cells.toArray] w fun e w' => e = .returned (.tuple #[.slice none 0 0, .int .i64 1]) ∧ Below w.heap.size w w' := by
  obtain ⟨own, wrap, first, last, bad, len, at_, size, stamp⟩ := d
  simp only [Ds.D.cells]
  have h : ¬ (0 ≤ len ∧ len ≤ 65535 ∧ 0 ≤ size ∧ size ≤ 65535) := by simpa [Ds.D.may] using hm
  clear hm
  by_cases c1 : len < 0
  · clear h
    go_enter Try.func58, Try.ntmps58
    go_wp2
    go_ret2
    exact ⟨rfl, (Below.refl _ w).alloc (Nat.le_refl _) _⟩
  by_cases c2 : 65535 < len
  · clear h
    go_enter Try.func58, Try.ntmps58
    go_wp2
    go_ret2
    exact ⟨rfl, (Below.refl _ w).alloc (Nat.le_refl _) _⟩
  by_cases c3 : size < 0
  · clear h
    go_enter Try.func58, Try.ntmps58
    go_wp2
    go_ret2
    exact ⟨rfl, (Below.refl _ w).alloc (Nat.le_refl _) _⟩
  have c4 : 65535 < size := by omega
  clear h
  go_enter Try.func58, Try.ntmps58
  go_wp2
  go_ret2
  exact ⟨rfl, (Below.refl _ w).alloc (Nat.le_refl _) _⟩
theorem dwords_ok (d : Ds.D) (hm : d.may = true) (w : World) :
    Calls Try.prog 58 #[.agg d.cells.toArray] w fun e w' => ∃ g, w.heap.size ≤ g ∧ e = .returned (.tuple #[.slice (some ⟨g, 0, none⟩) 4 4, .int .i64 0]) ∧ w'.heap[g]? = some (.cells (nums .u32 d.words).toArray 22 (0, 0)) ∧ Below w.heap.size w w' := by
  have h : 0 ≤ d.len ∧ d.len ≤ 65535 ∧ 0 ≤ d.size ∧ d.size ≤ 65535 := by simpa [Ds.D.may] using hm
  have hfl := flags_ok w.heap.size d (((w.alloc (.cells d.cells.toArray 54)).alloc (.cells #[.int .i64 31, .int .i64 30, .int .i64 29, .int .i64 28, .int .i64 27] 120))) (by
    rw [Below.heap_alloc _ _ _ (by simp), heap_alloc_new])
  have a0 := Ds.acc_zero d
  have HA := Lib.hid (fun k hk hf => Ds.acc_or d k hk (by omega) hf)
  have HB := Lib.hid (fun k hk hf => Ds.acc_off d k hk hf)
  have HL := Lib.hid (fun k hk => Ds.acc_lt d k hk (by omega))
  have HW := Lib.hid (show d.words = [(d.acc 5 : Int), d.at_, d.size, d.stamp] from rfl)
  obtain ⟨acc, hacc⟩ : ∃ acc, d.acc = acc := ⟨_, rfl⟩
  rw [hacc] at a0 HA HB HL HW
  rw [HW.out]
  obtain ⟨own, wrap, first, last, bad, len, at_, size, stamp⟩ := d
  obtain ⟨h1, h2, h3, h4⟩ := h
  simp only [Ds.D.cells, fptrs] at *
  obtain ⟨n, rfl⟩ := Int.eq_ofNat_of_zero_le h1
  have hn : (acc 0 : Int) = n := by rw [a0]; simp
  have HN := Lib.hid hn
  have HF := Lib.hid hfl
  clear hn hfl a0 hacc hm
  go_enter Try.func58, Try.ntmps58
  go_wp2_with (go_at_call 70; refine HF.out.mono ?_; rintro e w1 ⟨rfl, hb⟩)
  have hD : w1.heap[w.heap.size]? = some (.cells #[.bool own, .bool wrap, .bool first, .bool last, .bool bad, .int .i64 n, .int .u32 at_, .int .i64 size, .int .u32 stamp] 54 (0, 0)) := by
    rw [hb.block _ (by simp; omega), Below.heap_alloc _ _ _ (by simp), heap_alloc_new]
  have hE : w1.heap[w.heap.size + 1]? = some (.cells #[.int .i64 31, .int .i64 30, .int .i64 29, .int .i64 28, .int .i64 27] 120 (0, 0)) := by
    rw [hb.block _ (by simp)]
    have := heap_alloc_new (w.alloc (.cells #[.bool own, .bool wrap, .bool first, .bool last, .bool bad, .int .i64 n, .int .u32 at_, .int .i64 size, .int .u32 stamp] 54)) (.cells #[.int .i64 31, .int .i64 30, .int .i64 29, .int .i64 28, .int .i64 27] 120)
    rw [World.size_alloc] at this
    exact this
  have c0 := (cell_heap hD 0).trans rfl; have c1 := (cell_heap hD 1).trans rfl; have c2 := (cell_heap hD 2).trans rfl; have c3 := (cell_heap hD 3).trans rfl; have c4 := (cell_heap hD 4).trans rfl
  have c6 := (cell_heap hD 6).trans rfl; have c7 := (cell_heap hD 7).trans rfl; have c8 := (cell_heap hD 8).trans rfl
  have b0 := (cell_heap hE 0).trans rfl; have b1 := (cell_heap hE 1).trans rfl; have b2 := (cell_heap hE 2).trans rfl; have b3 := (cell_heap hE 3).trans rfl; have b4 := (cell_heap hE 4).trans rfl
  have HBL := Lib.hid (((Below.refl _ w).alloc (Nat.le_refl _) _ |>.alloc (by simp) _).trans (hb.mono (by simp; omega)))
  clear hD hE hb
  have i0 := ix0 w.heap.size; have i1 := ix1 w.heap.size; have i2 := ix2 w.heap.size; have i3 := ix3 w.heap.size; have i4 := ix4 w.heap.size
  go_loop [5, 31] (fun s i => ∃ k : Nat, k ≤ 5 ∧ i = .int .i64 k ∧ s = .int .u32 (acc k)) (fun _ i => 5 - (intOf i).toNat)
  case atStart => exact ⟨0, by omega, rfl, by rw [HN.out]⟩
  case round =>
    obtain ⟨k, hk, rfl, rfl⟩ := hrel
    rcases (show k = 0 ∨ k = 1 ∨ k = 2 ∨ k = 3 ∨ k = 4 ∨ k = 5 by omega) with rfl | rfl | rfl | rfl | rfl | rfl
    · cases own with
      | true =>
        go_wp2
        go_round
        case rel => exact ⟨1, by omega, rfl, by rw [← HA.out 0 (by omega) rfl]; exact int_ret (u32_or_nat _ _ (HL.out 0 (by omega)) (by decide))⟩
        case measure => simp [intOf]
      | false =>
        go_wp2
        go_round
        case rel => exact ⟨1, by omega, rfl, by rw [HB.out 0 (by omega) rfl]⟩
        case measure => simp [intOf]
    · cases wrap with
      | true =>
        go_wp2
        go_round
        case rel => exact ⟨2, by omega, rfl, by rw [← HA.out 1 (by omega) rfl]; exact int_ret (u32_or_nat _ _ (HL.out 1 (by omega)) (by decide))⟩
        case measure => simp [intOf]
      | false =>
        go_wp2
        go_round
        case rel => exact ⟨2, by omega, rfl, by rw [HB.out 1 (by omega) rfl]⟩
        case measure => simp [intOf]
    · cases first with
      | true =>
        go_wp2
        go_round
        case rel => exact ⟨3, by omega, rfl, by rw [← HA.out 2 (by omega) rfl]; exact int_ret (u32_or_nat _ _ (HL.out 2 (by omega)) (by decide))⟩
        case measure => simp [intOf]
      | false =>
        go_wp2
        go_round
        case rel => exact ⟨3, by omega, rfl, by rw [HB.out 2 (by omega) rfl]⟩
        case measure => simp [intOf]
    · cases last with
      | true =>
        go_wp2
        go_round
        case rel => exact ⟨4, by omega, rfl, by rw [← HA.out 3 (by omega) rfl]; exact int_ret (u32_or_nat _ _ (HL.out 3 (by omega)) (by decide))⟩
        case measure => simp [intOf]
      | false =>
        go_wp2
        go_round
        case rel => exact ⟨4, by omega, rfl, by rw [HB.out 3 (by omega) rfl]⟩
        case measure => simp [intOf]
    · cases bad with
      | true =>
        go_wp2
        go_round
        case rel => exact ⟨5, by omega, rfl, by rw [← HA.out 4 (by omega) rfl]; exact int_ret (u32_or_nat _ _ (HL.out 4 (by omega)) (by decide))⟩
        case measure => simp [intOf]
      | false =>
        go_wp2
        go_round
        case rel => exact ⟨5, by omega, rfl, by rw [HB.out 4 (by omega) rfl]⟩
        case measure => simp [intOf]
    · go_wp2
      go_ret2
      exact ⟨w1.heap.size, by have := HBL.out.size; omega, rfl, heap_alloc_new w1 _, HBL.out.alloc HBL.out.size _⟩
end Go.Proofs.Ytkegljcndhckead
