import Derived.Test.YtkegljcndhckeadRM2
namespace Go.Proofs.Ytkegljcndhckead
open Go.RowKit
set_option linter.unusedVariables false
theorem write_nil (who a v : Int) (ha : 0 ≤ a ∧ a < 4294967296) (w : World) :
    Calls Try.prog 18 #[.pointer none, .int .i64 who, .int .u32 a, .int .u32 v] w fun e w' => e = .returned (.int .i64 7) ∧ Below w.heap.size w w' := by
  have HA := Lib.hid ha; clear ha
  have hn := note_nil ⟨who, true, a, v, 7⟩ (w.alloc (.cells #[.int .i64 who, .bool true, .int .u32 a, .int .u32 v, .int .i64 7] 43))
  simp only [Rm.Acc.cells] at hn
  have HN := Lib.hid hn; clear hn
  go_enter Try.func18, Try.ntmps18
  go_wp2_with (first | (go_at_call 45; refine (place_nil _ HA.out _).mono ?_; rintro e w' ⟨rfl, rfl⟩) | (go_at_call 46; refine HN.out.mono ?_; rintro e w2 ⟨rfl, hb⟩))
  go_ret
  exact ⟨rfl, ((Below.refl _ w).alloc (Nat.le_refl _) _).trans (hb.mono (by simp))⟩
/-- A word of it becomes another one. -/
theorem RamAt.put {w : World} {p : Nat} {F : List Nat} {R : Rm.Ram} {pw : Nat} {lv : Value} (h1 : w.heap[p]? = some (.cells #[.slice (some ⟨pw, 0, none⟩) R.ws.length R.ws.length, lv, .bool R.keep] 85 (0, 0)))
    (h2 : w.heap[pw]? = some (.cells (nums .u32 R.ws).toArray 22 (0, 0))) (h3 : w.ownsRow 0 43 5 lv R.log.length (accs R.log)) (hF : F = p :: pw :: lv.ownBlock.toList) (h5 : R.ws.length ≤ 16384) (h6 : Rm.Fit R)
    (i : Nat) (v : Int) (hv : 0 ≤ v ∧ v < 4294967296) : RamAt (w.setCell ⟨pw, i, none⟩ (.int .u32 v)) p F { R with ws := R.ws.set i v } := by
  have hpp : p ≠ pw := fun e => by subst e; rw [h1] at h2; simp at h2
  refine ⟨pw, lv, ?_, ?_, ?_, hF, by simpa using h5, ?_⟩
  · rw [far_heap hpp]; simpa using h1
  · rw [set_heap h2]; simp [nums, List.map_set]
  · refine h3.kept (row := some pw) ⟨rfl, rfl, rfl, by simp, fun k _ hne => far_heap (fun e => hne (by rw [e])) _ _⟩ ?_
    rcases h3.2 with ⟨hv, _⟩ | ⟨g, cap, cur, hv, _, hh, _⟩
    · subst hv; exact .inl rfl
    · subst hv
      refine .inr fun e => ?_
      simp [Value.ownBlock] at e
      subst e
      rw [hh] at h2; simp at h2
  · intro x hx
    rcases List.mem_or_eq_of_mem_set hx with hx | hx
    · exact h6 x hx
    · rw [hx]; exact hv
set_option maxHeartbeats 1000000 in
theorem write_ok (p : Nat) (F : List Nat) (R : Rm.Ram) (who a v : Int) (ha : 0 ≤ a ∧ a < 4294967296) (hv : 0 ≤ v ∧ v < 4294967296) (w : World) (h : RamAt w p F R) (hl : R.log.length < 1000000000) :
    Calls Try.prog 18 #[.pointer (some ⟨p, 0, none⟩), .int .i64 who, .int .u32 a, .int .u32 v] w fun e w' =>
      e = .returned (.int .i64 (Rm.rdE R a)) ∧ ∃ F', RamAt w' p F' (Rm.write R who a v) ∧ Mv F F' w w' := by
  have HA := Lib.hid ha; clear ha
  have hlt := h.lt
  by_cases hi : Rm.is R a = true
  · obtain ⟨hm, hlt2⟩ := Rm.is_iff.1 hi
    have he : Rm.rdE R a = 0 := by simp [Rm.rdE, hi]
    rw [he]
    have hwr : Rm.write R who a v = Rm.note { R with ws := R.ws.set (a / 4).toNat v } ⟨who, true, a, v, 0⟩ := by simp [Rm.write, hi, he]
    rw [hwr]
    obtain ⟨pw, lv, h1, h2, h3, hF, h5, h6⟩ := id h
    have hplt := lt_of_heap h1
    have hpwlt := lt_of_heap h2
    have hput0 := RamAt.put h1 h2 h3 hF h5 h6 (a / 4).toNat v hv
    have hput := hput0.below ((Below.refl _ (w.setCell ⟨pw, (a / 4).toNat, none⟩ (.int .u32 v))).alloc (Nat.le_refl _) (.cells #[.int .i64 who, .bool true, .int .u32 a, .int .u32 v, .int .i64 0] 43))
    have hmv : Mv F F w ((w.setCell ⟨pw, (a / 4).toNat, none⟩ (.int .u32 v)).alloc (.cells #[.int .i64 who, .bool true, .int .u32 a, .int .u32 v, .int .i64 0] 43)) := by
      refine ⟨rfl, rfl, rfl, by simp, fun k hk hn => ?_, fun b hb => .inl hb⟩
      rw [hF] at hn; simp at hn
      rw [Below.heap_alloc _ _ _ (by simpa using hk), far_heap hn.2.1]
    have hcw : w.cell? ⟨pw, (a / 4).toNat, none⟩ = some (.int .u32 (R.ws.getD (a / 4).toNat 0)) := by
      rw [cell_heap h2, List.getElem?_toArray]
      exact nums_at .u32 R.ws (a / 4).toNat (by have := HA.out; omega)
    obtain ⟨old, hold⟩ : ∃ old, R.ws.getD (a / 4).toNat 0 = old := ⟨_, rfl⟩
    rw [hold] at hcw
    have hfw := free_heap h2 (a / 4).toNat
    have hc := cell_heap h1 0
    simp at hc
    have hca := Lib.hid ((World.cell?_alloc_lt w (.cells #[.int .i64 who, .bool true, .int .u32 a, .int .u32 v, .int .i64 7] 43) ⟨p, 0, none⟩ hplt).trans hc)
    have hn := note_ok p F { R with ws := R.ws.set (a / 4).toNat v } ⟨who, true, a, v, 0⟩ _ hput hl
    simp only [Rm.Acc.cells] at hn
    have HN := Lib.hid hn; have HM := Lib.hid hm; have HMV := Lib.hid hmv
    clear hn h1 h2 h3 hput0 hput hmv hF hold hc h5 h6 hi he hwr hm hlt h
    go_enter Try.func18, Try.ntmps18
    go_wp2_with (first | (go_at_call 45; refine (place_ok p pw _ a HA.out _ hca.out HM.out hlt2).mono ?_; rintro e w' ⟨rfl, rfl⟩) | (go_at_call 46; refine HN.out.mono ?_; rintro e w2 ⟨rfl, F', hR, hM⟩))
    go_ret
    exact ⟨rfl, F', hR, HMV.out.trans hM⟩
  · have he : Rm.rdE R a = 7 := by simp [Rm.rdE, hi]
    rw [he]
    have hwr : Rm.write R who a v = Rm.note R ⟨who, true, a, v, 7⟩ := by simp [Rm.write, hi, he]
    rw [hwr]
    have hb0 : Below w.heap.size w (w.alloc (.cells #[.int .i64 who, .bool true, .int .u32 a, .int .u32 v, .int .i64 7] 43)) := (Below.refl _ w).alloc (Nat.le_refl _) _
    have hn := note_ok p F R ⟨who, true, a, v, 7⟩ _ (h.below hb0) hl
    simp only [Rm.Acc.cells] at hn
    obtain ⟨pw, lv, h1, h2, -⟩ := h
    have hplt := lt_of_heap h1
    have hc := cell_heap h1 0
    simp at hc
    have hca := Lib.hid ((World.cell?_alloc_lt w (.cells #[.int .i64 who, .bool true, .int .u32 a, .int .u32 v, .int .i64 7] 43) ⟨p, 0, none⟩ hplt).trans hc)
    have HI := Lib.hid (fun h => hi (Rm.is_iff.2 h))
    have HN := Lib.hid hn; have HB := Lib.hid hb0
    clear hn h1 h2 hi he hwr hb0 hc hlt
    go_enter Try.func18, Try.ntmps18
    go_wp2_with (first | (go_at_call 45; refine (place_no p pw _ a HA.out _ hca.out HI.out).mono ?_; rintro e w' ⟨rfl, rfl⟩) | (go_at_call 46; refine HN.out.mono ?_; rintro e w2 ⟨rfl, F', hR, hM⟩))
    go_ret
    exact ⟨rfl, F', hR, (Mv.of_below HB.out).trans hM⟩
end Go.Proofs.Ytkegljcndhckead
