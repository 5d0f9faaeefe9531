import Derived.Test.YtkegljcndhckeadRM2
namespace Go.Proofs.Ytkegljcndhckead
open Go.RowKit
set_option linter.unusedVariables false
set_option maxHeartbeats 1000000 in
theorem read_ok (p : Nat) (F : List Nat) (R : Rm.Ram) (who a : Int) (ha : 0 ≤ a ∧ a < 4294967296) (w : World) (h : RamAt w p F R) (hl : R.log.length < 1000000000) :
    Calls Try.prog 56 #[.pointer (some ⟨p, 0, none⟩), .int .i64 who, .int .u32 a] w fun e w' =>
      e = .returned (.tuple #[.int .u32 (Rm.rdV R a), .int .i64 (Rm.rdE R a)]) ∧ ∃ F', RamAt w' p F' (Rm.read R who a) ∧ Mv F F' w w' := by
  have HA := Lib.hid ha; clear ha
  have hn := note_ok p F R ⟨who, false, a, Rm.rdV R a, Rm.rdE R a⟩ (w.alloc (.cells #[.int .i64 who, .bool false, .int .u32 a, .int .u32 (Rm.rdV R a), .int .i64 (Rm.rdE R a)] 43)).drew (h.below (((Below.refl _ w).alloc (Nat.le_refl _) _).drew)) hl
  simp only [Rm.Acc.cells] at hn
  have hsz : w.heap.size ∉ F := fun e => Nat.lt_irrefl _ (h.lt _ e)
  have HSZ := Lib.hid hsz; clear hsz
  obtain ⟨pw, lv, h1, h2, -⟩ := h
  have hc := cell_heap h1 0
  simp at hc
  have hplt := lt_of_heap h1
  have hpwlt := lt_of_heap h2
  by_cases hi : Rm.is R a = true
  · obtain ⟨hm, hlt⟩ := Rm.is_iff.1 hi
    have hv : Rm.rdV R a = R.ws.getD (a / 4).toNat 0 := by simp [Rm.rdV, hi]
    have he : Rm.rdE R a = 0 := by simp [Rm.rdE, hi]
    have hcw : w.cell? ⟨pw, (a / 4).toNat, none⟩ = some (.int .u32 (R.ws.getD (a / 4).toNat 0)) := by
      rw [cell_heap h2, List.getElem?_toArray]
      exact nums_at .u32 R.ws (a / 4).toNat (by have := HA.out; omega)
    rw [← hv] at hcw
    rw [he] at hn
    have HE := Lib.hid he
    rw [he]
    obtain ⟨V, hV⟩ : ∃ V, Rm.rdV R a = V := ⟨_, rfl⟩
    rw [hV] at hn hcw
    rw [hV]
    have hca := Lib.hid ((World.cell?_alloc_lt w (.cells #[.int .i64 who, .bool false, .int .u32 a, .int .u32 0, .int .i64 7] 43) ⟨p, 0, none⟩ hplt).trans hc)
    have HN := Lib.hid hn; have HM := Lib.hid hm; have HV := Lib.hid hV
    clear hn h1 h2 hi hv he hV hm
    go_enter Try.func56, Try.ntmps56
    go_wp2_with (go_at_call 45; refine (place_ok p pw _ a HA.out _ hca.out HM.out hlt).mono ?_; rintro e w' ⟨rfl, rfl⟩)
    go_region_with (go_at_call 46; refine HN.out.mono ?_; rintro e w2 ⟨rfl, F', hR, hM⟩; have hc2 := (World.cell?_of_block (a := ⟨w.heap.size, 3, none⟩) (hM.block w.heap.size (by simp) HSZ.out)).trans (show _ = some (Value.int .u32 V) from World.cell?_alloc_new w _ _ 3))
    all_goals go_wp2
    all_goals go_ret2
    all_goals exact ⟨rfl, F', by unfold Rm.read; rw [HV.out, HE.out]; exact hR, (Mv.of_below (((Below.refl _ w).alloc (Nat.le_refl _) _).drew)).trans hM⟩
  · have hv : Rm.rdV R a = 0 := by simp [Rm.rdV, hi]
    have he : Rm.rdE R a = 7 := by simp [Rm.rdE, hi]
    rw [he, hv] at hn
    have HE := Lib.hid he; have HV := Lib.hid hv
    rw [he, hv]
    have hca := Lib.hid ((World.cell?_alloc_lt w (.cells #[.int .i64 who, .bool false, .int .u32 a, .int .u32 0, .int .i64 7] 43) ⟨p, 0, none⟩ hplt).trans hc)
    have HI := Lib.hid (fun h => hi (Rm.is_iff.2 h))
    have HN := Lib.hid hn
    clear hn h1 h2 hi hv he
    go_enter Try.func56, Try.ntmps56
    go_wp2_with (go_at_call 45; refine (place_no p pw _ a HA.out _ hca.out HI.out).mono ?_; rintro e w' ⟨rfl, rfl⟩)
    go_region_with (go_at_call 46; refine HN.out.mono ?_; rintro e w2 ⟨rfl, F', hR, hM⟩; have hc2 := (World.cell?_of_block (a := ⟨w.heap.size, 3, none⟩) (hM.block w.heap.size (by simp) HSZ.out)).trans (show _ = some (Value.int .u32 0) from World.cell?_alloc_new w _ _ 3))
    all_goals go_wp2
    all_goals go_ret2
    all_goals exact ⟨rfl, F', by unfold Rm.read; rw [HV.out, HE.out]; exact hR, (Mv.of_below (((Below.refl _ w).alloc (Nat.le_refl _) _).drew)).trans hM⟩
end Go.Proofs.Ytkegljcndhckead
