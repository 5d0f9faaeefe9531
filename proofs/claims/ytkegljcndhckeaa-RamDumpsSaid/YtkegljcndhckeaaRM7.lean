import Derived.Test.YtkegljcndhckeaaRM6
namespace Go.Proofs.Ytkegljcndhckeaa
open Go.RowKit
set_option linter.unusedVariables false
theorem add_at (g o i : Nat) : (⟨g, o, none⟩ : Addr).add i = ⟨g, o + i, none⟩ := by unfold Addr.add; split <;> simp_all
theorem dump_nil (a n : Int) (ha : 0 ≤ a ∧ a < 4294967296) (hn : 0 < n) (w : World) : Calls Try.prog 18 #[.pointer none, .int .u32 a, .int .i64 n] w fun e w' => e = .returned (.tuple #[.slice none 0 0, .int .i64 7]) ∧ w = w' := by
  obtain ⟨h1, h2⟩ := ha
  have h3 : (0 : Int) ≤ a / 4 := by omega
  by_cases hm : a % 4 = 0
  · have hb : (a % 4 != 0) = false := by simp [hm]
    have HM := Lib.hid hm; clear hm
    go_enter Try.func18, Try.ntmps18
    go_wp2_with (go_at_call 13; refine (words_nil _).mono ?_; rintro e w' ⟨rfl, rfl⟩)
    go_ret2
    exact ⟨rfl, rfl⟩
  · have hb : (a % 4 != 0) = true := by simp [hm]
    have HM := Lib.hid hm; clear hm
    go_enter Try.func18, Try.ntmps18
    go_wp2
    go_ret2
    exact ⟨rfl, rfl⟩
theorem dump_no (p : Nat) (F : List Nat) (R : Rm.Ram) (a n : Int) (ha : 0 ≤ a ∧ a < 4294967296) (hi : (Lit.int .i64 n).wf = true) (w : World) (h : RamAt w p F R) (hd : Rm.dumpOk R a n = false) :
    Calls Try.prog 18 #[.pointer (some ⟨p, 0, none⟩), .int .u32 a, .int .i64 n] w fun e w' => e = .returned (.tuple #[.slice none 0 0, .int .i64 7]) ∧ w = w' := by
  obtain ⟨h1, h2⟩ := ha
  have h3 : (0 : Int) ≤ a / 4 := by omega
  have hW := words_ok p F R w h
  have hmost := h.most
  have hd2 : ¬ (a % 4 = 0 ∧ 0 ≤ n ∧ n ≤ R.ws.length ∧ (n ≤ 0 ∨ a / 4 ≤ R.ws.length - n)) := by simpa [Rm.dumpOk] using hd
  have HI := Lib.hid hi
  have HW := Lib.hid hW
  obtain ⟨L, hL⟩ : ∃ L, R.ws.length = L := ⟨_, rfl⟩
  rw [hL] at hd2 HW hmost
  clear hW hd h hL hi
  by_cases hm : a % 4 = 0
  · have hb : (a % 4 != 0) = false := by simp [hm]
    by_cases hn0 : n < 0
    · have HM := Lib.hid hm; clear hm hd2
      go_enter Try.func18, Try.ntmps18
      go_wp2_with (go_at_call 13; refine HW.out.mono ?_; rintro e w' ⟨rfl, rfl⟩)
      go_ret2
      exact ⟨rfl, rfl⟩
    · by_cases hn1 : (L : Int) < n
      · have HM := Lib.hid hm; clear hm hd2
        go_enter Try.func18, Try.ntmps18
        go_wp2_with (go_at_call 13; refine HW.out.mono ?_; rintro e w' ⟨rfl, rfl⟩)
        go_ret2
        exact ⟨rfl, rfl⟩
      · have hn2 : 0 < n := by omega
        have hn3 : (L : Int) - n < a / 4 := by omega
        have HM := Lib.hid hm; clear hm hd2
        go_enter Try.func18, Try.ntmps18
        go_wp2_with (go_at_call 13; refine HW.out.mono ?_; rintro e w' ⟨rfl, rfl⟩)
        go_ret2
        exact ⟨rfl, rfl⟩
  · have hb : (a % 4 != 0) = true := by simp [hm]
    have HM := Lib.hid hm; clear hm hd2
    go_enter Try.func18, Try.ntmps18
    go_wp2
    go_ret2
    exact ⟨rfl, rfl⟩
theorem dump_ok (p : Nat) (F : List Nat) (R : Rm.Ram) (a n : Int) (ha : 0 ≤ a ∧ a < 4294967296) (w : World) (h : RamAt w p F R) (hd : Rm.dumpOk R a n = true) :
    Calls Try.prog 18 #[.pointer (some ⟨p, 0, none⟩), .int .u32 a, .int .i64 n] w fun e w' => ∃ v, e = .returned (.tuple #[v, .int .i64 0]) ∧ Rd w' v (nums .u32 (Rm.dump R a n)) ∧ (∀ b, v.ownBlock = some b → w.heap.size ≤ b) ∧ Below w.heap.size w w' := by
  obtain ⟨h1, h2⟩ := ha
  have h3 : (0 : Int) ≤ a / 4 := by omega
  have hW := fun w (h : RamAt w p F R) => words_ok p F R w h
  have hd2 : a % 4 = 0 ∧ 0 ≤ n ∧ n ≤ R.ws.length ∧ (n ≤ 0 ∨ a / 4 ≤ R.ws.length - n) := by simpa [Rm.dumpOk] using hd
  have HW := Lib.hid (words_ok p F R w h)
  have hmost := h.most
  obtain ⟨pw, lv, g1, g2, -⟩ := h
  have hc0 := cell_heap g1 0
  simp at hc0
  have hplt := lt_of_heap g1
  obtain ⟨hm, hn0, hn1, hn2⟩ := hd2
  obtain ⟨k, rfl⟩ := Int.eq_ofNat_of_zero_le hn0
  obtain ⟨q, hq⟩ := Int.eq_ofNat_of_zero_le h3
  have hb : (a % 4 != 0) = false := by simp [hm]
  have hdump : Rm.dump R a k = (R.ws.drop q).take k := by simp [Rm.dump, hq]
  rw [hdump]
  have hlen : (nums .u32 ((R.ws.drop q).take k)).length = k := by rw [nums_len]; simp; omega
  have hsrc : ∀ j v, (nums .u32 ((R.ws.drop q).take k))[j]? = some v → (w.alloc (.cells (madeCells #[.int .u32 0] k) 23)).cell? ((⟨pw, q, none⟩ : Addr).add j) = some v := fun j v hv => by
    refine below_cell ((Below.refl _ w).alloc (Nat.le_refl _) _) ?_
    rw [add_at, cell_heap g2]
    simp [nums, List.getElem?_take] at hv ⊢
    exact hv.2
  have hone := nums_one .u32 ((R.ws.drop q).take k)
  have hRd : Rd (w.setRow 0 #[]) (.slice none 0 0) [] := Rd.nil _
  have hmk := run_make_row' (P := Try.prog) 36 23 (.int .u32 0) 4 Try.underlying36 info_u32 rfl .i64 .i64 k (by omega) (by omega)
  have hw1 : (w.alloc (.cells (madeCells #[.int .u32 0] k) 23)).heap[w.heap.size]? = some (.cells (madeCells #[.int .u32 0] k) 23 (0, 0)) := heap_alloc_new w _
  have hmks : (madeCells #[Value.int .u32 0] k).size = k * 1 := by rw [size_madeCells]; omega
  obtain ⟨cs, hcs⟩ : ∃ cs, nums .u32 ((R.ws.drop q).take k) = cs := ⟨_, rfl⟩
  rw [hcs] at hlen hsrc hone ⊢
  obtain ⟨L, hL⟩ : ∃ L, R.ws.length = L := ⟨_, rfl⟩
  rw [hL] at hn1 hn2 HW hmost hc0
  have hend := setRow_heap _ _ _ cs.toArray _ _ hw1
  have hrd : Rd ((w.alloc (.cells (madeCells #[.int .u32 0] k) 23)).setRow w.heap.size cs.toArray) (.slice (some ⟨w.heap.size, 0, none⟩) k k) cs :=
    ⟨_, k, by rw [hlen], by omega, by simp [maxLen]; omega, fun i u hu => ⟨_, rfl, by rw [add_at, cell_heap hend]; simpa using hu⟩⟩
  have HRD := Lib.hid hrd
  have hbel := Lib.hid (below_setRow (((Below.refl _ w).alloc (Nat.le_refl _) (.cells (madeCells #[Value.int .u32 0] k) 23))) (Nat.le_refl _) cs.toArray)
  have HLEN := Lib.hid hlen; have HSRC := Lib.hid hsrc; have HONE := Lib.hid hone; have HMS := Lib.hid hmks; have HW1 := Lib.hid hw1
  have HM := Lib.hid hm; have HQ := Lib.hid hq; have HCS := Lib.hid hcs
  have hqq : a / 4 = (q : Int) := hq
  clear hlen hsrc hone hmks hw1 hend hrd hcs hL hm hq g1 g2 hd hdump hRd
  by_cases hk : k = 0
  · subst hk
    obtain rfl : cs = [] := List.eq_nil_of_length_eq_zero HLEN.out
    go_enter Try.func18, Try.ntmps18
    go_wp2_with (go_at_call 13; refine HW.out.mono ?_; rintro e w' ⟨rfl, rfl⟩)
    go_ret2
    exact ⟨_, rfl, Rd.nil _, (fun b hb => by simp [Value.ownBlock] at hb), Below.refl _ _⟩
  · have hk1 : (0 : Int) < k := by omega
    have hk2 : (q : Int) ≤ L - k := by omega
    have hk3 : q < L := by omega
    clear hn2 hk
    go_enter Try.func18, Try.ntmps18
    go_wp2_with (first | (go_at_call 13; refine HW.out.mono ?_; rintro e w' ⟨rfl, rfl⟩) | (refine wpList_copy_rows rfl (.tmp 42) (.tmp 48) 36 36 rfl 23 Try.underlying36 1 (by kernel_rfl) w.heap.size k k (L - q) (L - q) _ rfl rfl (by omega) _ _ HW1.out HMS.out cs (HLEN.out.trans (Nat.mul_one k).symm) (fun h => nomatch h) (fun ad h => by cases h; exact HSRC.out) HONE.out ?_))
    go_ret2
    exact ⟨_, rfl, HRD.out, (fun b hb => by simp [Value.ownBlock] at hb; omega), hbel.out⟩
theorem Rd.mv {w w' : World} {F F' : List Nat} {v : Value} {xs : List Value} (h : Rd w v xs) (hm : Mv F F' w w') (hb : ∀ b, v.ownBlock = some b → b ∉ F) : Rd w' v xs := by
  obtain ⟨A, c, hv, h1, h2, h3⟩ := h
  refine ⟨A, c, hv, h1, h2, fun i u hu => ?_⟩
  obtain ⟨ad, rfl, hc⟩ := h3 i u hu
  refine ⟨ad, rfl, ?_⟩
  rw [World.cell?_of_block (hm.block _ (World.block_lt_of_cell? w _ hc) ?_)]
  · exact hc
  · rw [add_block]
    exact hb _ (by rw [hv]; rfl)
end Go.Proofs.Ytkegljcndhckeaa
