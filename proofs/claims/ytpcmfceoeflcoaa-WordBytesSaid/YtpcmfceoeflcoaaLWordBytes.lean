import Derived.Test.YtpcmfceoeflcoaaW5
import Derived.Test.YtpcmfceoeflcoaaW4
import Derived.Laws.BytesArg
namespace Go.Proofs.Ytpcmfceoeflcoaa
open Go.RowKit
set_option linter.unusedVariables false
theorem add_off (b o i : Nat) : (⟨b, o, none⟩ : Addr).add i = ⟨b, o + i, none⟩ := by
  unfold Addr.add
  by_cases h : i = 0 <;> simp [h]
theorem addr_of_cell {w : World} {ad : Addr} {u : Value} (h : w.cell? ad = some u) : ad = ⟨ad.block, ad.off, none⟩ := by
  obtain ⟨b, o, s⟩ := ad
  cases s with
  | none => rfl
  | some x =>
    unfold World.cell? at h
    split at h
    · simp at h
    · cases h
/-- 'string(b)', b whatever reads. -/
theorem conv_rd {P : Program} {w : World} {src dst e : TypeId} {v : Value} {xs : List Int} (hs : P.underlying src = some (.slice e)) (he : P.underlying e = some (.int .u8)) (hd : P.underlying dst = some .string) (h : Rd w v (nums .u8 xs)) :
    (convert src dst v).run P w = .ok (.string (strOfNums xs)) w := by
  obtain ⟨A, c, rfl, h1, h2, h3⟩ := id h
  rw [nums_len] at h ⊢
  rcases Nat.eq_zero_or_pos xs.length with h0 | h0
  · have hx : xs = [] := List.eq_nil_of_length_eq_zero h0
    subst hx
    cases A with
    | none => exact run_convert_bytes_nil w src e hs he 0 c dst hd
    | some ad =>
      rw [run_convert_bytes_string w src dst e _ _ c hs he hd]
      simp [Conv.bytesToString, loadCells]
      rfl
  · obtain ⟨ad, rfl, hc⟩ := rd_at h 0 h0
    have ha : ad = ⟨ad.block, ad.off, none⟩ := addr_of_cell (u := .int .u8 (xs.getD 0 0)) hc
    rw [ha]
    refine run_convert_bytes_arg w src e hs he ad.block ad.off xs.length c xs rfl (fun i hi => ?_) dst hd
    obtain ⟨ad', hA, hc'⟩ := rd_at h i hi
    injection hA with hA
    subst hA
    rw [ha] at hc'
    rwa [add_off] at hc'
theorem wf_bytes {xs : List Int} (h : ∀ n ∈ xs, (Lit.int .u8 n).wf = true) : Wd.Bytes xs := fun x hx => wf_u8 (h x hx)
theorem wf_words {xs : List Int} (h : ∀ n ∈ xs, (Lit.int .u32 n).wf = true) : Wd.Words xs := fun x hx => wf_u32 (h x hx)
theorem packL_words {xs : List Int} (h : Wd.Bytes xs) : Wd.Words (Wd.packL xs) := by
  intro x hx
  simp only [Wd.packL, List.mem_map] at hx
  obtain ⟨i, _, rfl⟩ := hx
  exact Wd.ofL_bounds (h.drop _)
/-- Two calls that pack: what they make is the same. -/
theorem wordBytes_walk (v0 : Value) (xs : List Int) (v1 : Value) (ws : List Int) (n : Int) (w : World) (r0 : Rd w v0 (nums .u8 xs)) (x0 : ∀ n ∈ xs, (Lit.int .u8 n).wf = true) (l0 : xs.length * 1 ≤ 140737488351232)
    (r1 : Rd w v1 (nums .u32 ws)) (x1 : ∀ n ∈ ws, (Lit.int .u32 n).wf = true) (l1 : ws.length * 4 ≤ 140737488351232) (x2 : (Lit.int .i64 n).wf = true) :
    Calls Try.prog 8 #[v0, v1, .int .i64 n] w fun e w' => e = .returned (.bool true) ∧ Below w.heap.size w w' := by
  have X0 := Lib.hid (wf_bytes x0); have X1 := Lib.hid (wf_words x1)
  have R0 := Lib.hid r0; have R1 := Lib.hid r1
  clear x0 x1 x2
  obtain ⟨A0, c0, rfl, -, -, -⟩ := r0
  obtain ⟨A1, c1, rfl, -, -, -⟩ := r1
  rw [nums_len] at R0 R1
  rw [nums_len, nums_len]
  by_cases hn : 0 ≤ n ∧ n ≤ 4 * ws.length
  · have HN := Lib.hid hn
    clear hn
    go_enter Try.func8, Try.ntmps8
    go_wp2_with fail
    refine (wshown_ok _).mono ?_
    rintro e w1 ⟨rfl, hb1⟩
    go_wp2_with fail
    refine (unpack_ok _ ws n _ (R1.out.below hb1) X1.out HN.out l1).mono ?_
    rintro e w2 ⟨u, rfl, hu, hb2⟩
    have HU := Lib.hid (Rd.of_own hu); clear hu
    have hb2' := below_next hb1 hb1.size hb2
    go_wp2_with fail
    refine (runpack_ok _ ws n _ (R1.out.below hb2') X1.out HN.out l1).mono ?_
    rintro e w3 ⟨u', rfl, hu', hb3⟩
    have HU' := Lib.hid (Rd.of_own hu'); clear hu'
    have hb3' := below_next hb2' hb2'.size hb3
    go_wp2_with fail
    refine (pack_ok _ xs _ (R0.out.below hb3') X0.out (by omega)).mono ?_
    rintro e w4 ⟨p, rfl, hp, hb4⟩
    have hb4' := below_next hb3' hb3'.size hb4
    have HP := Lib.hid (Rd.of_own hp); clear hp
    go_wp2_with fail
    refine (rpack_ok _ xs _ (R0.out.below hb4') X0.out (by omega)).mono ?_
    rintro e w5 ⟨p', rfl, hp', hb5⟩
    have hb5' := below_next hb4' hb4'.size hb5
    have HP' := Lib.hid (Rd.of_own hp'); clear hp'
    go_wp2_with fail
    refine (same_ok _ _ _ _ _ (HP.out.below hb5) HP'.out).mono ?_
    rintro e w6 ⟨rfl, hb6⟩
    have hb6' := below_next hb5' hb5'.size hb6
    have hd : decide (Wd.packL xs = Wd.packL xs) = true := by simp
    have h36 := below_next (below_next hb4 hb4.size hb5) (below_next hb4 hb4.size hb5).size hb6
    have k1 := conv_rd (P := Try.prog) (dst := 9) Try.underlying38 Try.underlying5 Try.underlying9 ((HU.out.below hb3).below h36)
    have k2 := conv_rd (P := Try.prog) (dst := 9) Try.underlying38 Try.underlying5 Try.underlying9 (HU'.out.below h36)
    go_wp2_with (first | (go_at_call 22; refine (of_ok _ xs _ (R0.out.below hb6') X0.out).mono ?_; rintro e w' ⟨rfl, rfl⟩) | (go_at_call 23; refine (rof_ok _ xs _ (R0.out.below hb6') X0.out).mono ?_; rintro e w' ⟨rfl, rfl⟩))
    go_ret
    exact ⟨rfl, hb6'⟩
  · have HN := Lib.hid (show n < 0 ∨ 4 * (ws.length : Int) < n by omega)
    clear hn
    go_enter Try.func8, Try.ntmps8
    go_wp2_with fail
    refine (wshown_ok _).mono ?_
    rintro e w1 ⟨rfl, hb1⟩
    go_wp2_with fail
    refine (unpack_no _ ws n _ (R1.out.below hb1) HN.out l1).mono ?_
    rintro e w' ⟨rfl, rfl⟩
    go_wp2_with fail
    refine (runpack_no _ ws n _ (R1.out.below hb1) HN.out l1).mono ?_
    rintro e w' ⟨rfl, rfl⟩
    have hb3' := hb1
    go_wp2_with fail
    refine (pack_ok _ xs _ (R0.out.below hb3') X0.out (by omega)).mono ?_
    rintro e w4 ⟨p, rfl, hp, hb4⟩
    have hb4' := below_next hb3' hb3'.size hb4
    have HP := Lib.hid (Rd.of_own hp); clear hp
    go_wp2_with fail
    refine (rpack_ok _ xs _ (R0.out.below hb4') X0.out (by omega)).mono ?_
    rintro e w5 ⟨p', rfl, hp', hb5⟩
    have hb5' := below_next hb4' hb4'.size hb5
    have HP' := Lib.hid (Rd.of_own hp'); clear hp'
    go_wp2_with fail
    refine (same_ok _ _ _ _ _ (HP.out.below hb5) HP'.out).mono ?_
    rintro e w6 ⟨rfl, hb6⟩
    have hb6' := below_next hb5' hb5'.size hb6
    have hd : decide (Wd.packL xs = Wd.packL xs) = true := by simp
    have k1 := run_convert_bytes_nil (P := Try.prog) (w := w6) 38 5 Try.underlying38 Try.underlying5 0 0 9 Try.underlying9
    go_wp2_with (first | (go_at_call 22; refine (of_ok _ xs _ (R0.out.below hb6') X0.out).mono ?_; rintro e w' ⟨rfl, rfl⟩) | (go_at_call 23; refine (rof_ok _ xs _ (R0.out.below hb6') X0.out).mono ?_; rintro e w' ⟨rfl, rfl⟩))
    go_ret
    exact ⟨rfl, hb6'⟩
theorem strOf_inj {xs ys : List Int} (h : xs = ys) : strOfNums xs = strOfNums ys := by rw [h]
theorem wordBack_walk (v0 : Value) (xs : List Int) (x : Int) (w : World) (r0 : Rd w v0 (nums .u8 xs)) (x0 : ∀ n ∈ xs, (Lit.int .u8 n).wf = true) (l0 : xs.length * 1 ≤ 140737488351232) (x1 : (Lit.int .u32 x).wf = true) :
    Calls Try.prog 9 #[v0, .int .u32 x] w fun e w' => e = .returned (.bool true) ∧ Below w.heap.size w w' := by
  have X0 := Lib.hid (wf_bytes x0)
  have B1 := Lib.hid (wf_u32 x1)
  have R0 := Lib.hid r0
  clear x0 x1
  obtain ⟨A0, c0, rfl, -, -, -⟩ := r0
  rw [nums_len] at R0
  rw [nums_len]
  have PW := Lib.hid (packL_words X0.out)
  have hpl := Wd.packL_len xs
  obtain ⟨m, hm⟩ : ∃ m, (Wd.packL xs).length = m := ⟨_, rfl⟩
  have hm1 : m = (xs.length + 3) / 4 := by omega
  have HM := Lib.hid hm
  have hm2 : xs.length ≤ 4 * m := by omega
  have hm3 : m * 4 ≤ xs.length + 3 := by omega
  clear hpl hm hm1
  go_enter Try.func9, Try.ntmps9
  go_wp2_with fail
  refine (wshown_ok _).mono ?_
  rintro e w1 ⟨rfl, hb1⟩
  go_wp2_with fail
  refine (pack_ok _ xs _ (R0.out.below hb1) X0.out (by omega)).mono ?_
  rintro e w2 ⟨p, rfl, hp, hb2⟩
  have hb2' := below_next hb1 hb1.size hb2
  have hpr := Rd.of_own hp
  obtain ⟨A, c, rfl⟩ := own_form hp
  rw [HM.out] at hpr
  have HP := Lib.hid hpr
  clear hp hpr
  rw [HM.out]
  go_wp2_with fail
  refine (unpack_ok _ (Wd.packL xs) _ _ HP.out PW.out (by rw [HM.out]; omega) (by rw [HM.out]; omega)).mono ?_
  rintro e w3 ⟨u, rfl, hu, hb3⟩
  have hb3' := below_next hb2' hb2'.size hb3
  have hur := Rd.of_own hu
  rw [Int.toNat_natCast, Wd.unpack_pack _ X0.out] at hur
  have k1 := conv_rd (P := Try.prog) (dst := 9) Try.underlying38 Try.underlying5 Try.underlying9 hur
  have k2 := conv_rd (P := Try.prog) (dst := 9) Try.underlying38 Try.underlying5 Try.underlying9 (R0.out.below hb3')
  clear hu hur
  go_wp2_with fail
  refine (unpack_no _ (Wd.packL xs) _ _ (HP.out.below hb3) (by rw [HM.out]; omega) (by rw [HM.out]; omega)).mono ?_
  rintro e w' ⟨rfl, rfl⟩
  have hb0 := Wd.bytesL_bytes x
  have HB0 := Lib.hid hb0; clear hb0
  have hbl : Below w.heap.size w (w3.alloc (.cells (nums .u8 (Wd.bytesL x)).toArray 5)) := hb3'.alloc hb3'.size _
  have hR4 := Lib.hid (rd_lit w3 .u8 (Wd.bytesL x) 5 (by simp [Wd.bytesL, maxLen]))
  go_wp2_with fail
  refine (bytes_ok x B1.out _).mono ?_
  rintro e w' ⟨rfl, rfl⟩
  go_wp2_with fail
  refine (of_ok _ (Wd.bytesL x) _ hR4.out HB0.out).mono ?_
  rintro e w' ⟨rfl, rfl⟩
  rw [Wd.of_bytes x B1.out]
  go_wp2_with fail
  refine (bytes_ok x B1.out _).mono ?_
  rintro e w' ⟨rfl, rfl⟩
  go_wp2
  go_ret
  exact ⟨rfl, hbl.alloc hbl.size _⟩
end Go.Proofs.Ytpcmfceoeflcoaa
