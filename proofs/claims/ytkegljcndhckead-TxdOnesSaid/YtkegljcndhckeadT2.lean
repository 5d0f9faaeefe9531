import Derived.Test.YtkegljcndhckeadT1
import Derived.Test.YtkegljcndhckeadWF
namespace Go.Proofs.Ytkegljcndhckead
open Go.RowKit
set_option linter.unusedVariables false
theorem top_bit (v : Int) (hv : 0 ≤ v ∧ v < 4294967296) (w : World) : Calls Try.prog 60 #[.int .u32 v, .int .i64 31, .int .i64 1] w fun r w' => r = .returned (.tuple #[.int .u32 ((v.toNat / 2147483648 % 2 : Nat) : Int), .int .i64 0]) ∧ w = w' := by
  have := field_ok v 31 1 hv (by decide) w
  rwa [show Wd.fieldN v.toNat (31 : Int).toNat (1 : Int).toNat = v.toNat / 2147483648 % 2 from Wd.fieldN_eq _ _ _ (by decide)] at this
set_option maxRecDepth 100000 in
set_option maxHeartbeats 2000000 in
theorem tfetch_ok (p q : Nat) (F : List Nat) (fv : Value) (e : Tx.E) (R : Rm.Ram) (ho : Tx.Ok e) (w : World) (h : SysF w p q F fv e R) (hl : R.log.length < 1000000000) :
    Calls Try.prog 38 #[.pointer (some ⟨q, 0, none⟩)] w fun r w' => r = .returned (.bool (Tx.fetchF e (Rm.rdV R e.at_) (Rm.is R e.at_)).2) ∧
      Goes p q F fv w (Tx.fetchF e (Rm.rdV R e.at_) (Rm.is R e.at_)).1 (Rm.read R 2 e.at_) w' := by
  obtain ⟨c0, c1, c2, -⟩ := eng_cells h
  have RD := Lib.hid (eread_ok p q F fv e R e.at_ ho.at_ w h hl)
  have hvf := h.ram.fit.rdV e.at_
  have hff : ∀ v b, Tx.fetchF e v b = if b then (if v.toNat / 2147483648 % 2 = 0 then (e, true) else if (Ds.ofR [v, 0, 0, 0]).2 ≠ 0 ∨ (Ds.ofR [v, 0, 0, 0]).1.first = e.inner then (e, false) else ({ e with d := (Ds.ofR [v, 0, 0, 0]).1, got := 0, phase := 1 }, true)) else (e, false) := fun _ _ => rfl
  have HFF := Lib.hid hff
  obtain ⟨V, hV⟩ : ∃ V, Rm.rdV R e.at_ = V := ⟨_, rfl⟩
  obtain ⟨b, hb⟩ : ∃ b, Rm.is R e.at_ = b := ⟨_, rfl⟩
  rw [hV, hb] at RD
  rw [hV] at hvf
  rw [hV, hb]
  have HVF := Lib.hid hvf
  have TB := Lib.hid (fun w => top_bit V hvf w)
  clear h hV hb hff hvf
  cases b with
  | false =>
    rw [show Tx.fetchF e V false = (e, false) from HFF.out V false]
    go_enter Try.func38, Try.ntmps38
    go_wp2_with fail
    refine RD.out.mono ?_
    rintro r w1 ⟨rfl, F1, hS, hM⟩
    have HS1 := Lib.hid hS; have HM1 := Lib.hid hM
    clear hS hM
    go_wp2
    go_ret
    exact ⟨rfl, goes_ram HS1.out HM1.out⟩
  | true =>
    by_cases k : V.toNat / 2147483648 % 2 = 0
    · have hz := HFF.out V true
      rw [if_pos rfl, if_pos k] at hz
      rw [hz]
      rw [k] at TB
      clear hz k
      go_enter Try.func38, Try.ntmps38
      go_wp2_with fail
      refine RD.out.mono ?_
      rintro r w1 ⟨rfl, F1, hS, hM⟩
      have HS1 := Lib.hid hS; have HM1 := Lib.hid hM
      clear hS hM
      go_wp2_with fail
      refine (TB.out _).mono ?_
      rintro r w2 ⟨rfl, rfl⟩
      go_wp2
      go_ret
      exact ⟨rfl, goes_ram HS1.out HM1.out⟩
    · have k1 : V.toNat / 2147483648 % 2 = 1 := by omega
      have hz := HFF.out V true
      rw [if_pos rfl, if_neg k] at hz
      rw [k1] at TB
      have OF := Lib.hid (fun w v h => of_any [V, 0, 0, 0] (by intro x hx; have := HVF.out; simp at hx; omega) w v h)
      have h5 := Ds.of_five [V, 0, 0, 0]
      obtain ⟨⟨Down, Dwrap, Dfirst, Dlast, Dbad, Dlen, Dat, Dsize, Dstamp⟩, hD⟩ : ∃ D, (Ds.ofR [V, 0, 0, 0]).1 = D := ⟨_, rfl⟩
      obtain ⟨g, hg⟩ : ∃ g, (Ds.ofR [V, 0, 0, 0]).2 = g := ⟨_, rfl⟩
      rw [hD, hg] at OF
      rw [hg] at h5
      rw [hD, hg] at hz
      simp only [Ds.D.cells] at OF
      have HZ := Lib.hid hz
      have hg5 : g = 0 ∨ g = 5 := by rcases h5 with h | ⟨h, _⟩ <;> simp [h]
      clear h5 hD hg k k1 hz HFF
      obtain ⟨inr, hin⟩ : ∃ i, e.inner = i := ⟨_, rfl⟩
      have HIN := Lib.hid hin
      clear hin
      go_enter Try.func38, Try.ntmps38
      go_wp2_with fail
      refine RD.out.mono ?_
      rintro r w1 ⟨rfl, F1, hS, hM⟩
      have HS1 := Lib.hid hS; have HM1 := Lib.hid hM
      clear hS hM
      go_wp2_with fail
      refine (TB.out _).mono ?_
      rintro r w2 ⟨rfl, rfl⟩
      go_wp2_with fail
      have hrd : Rd (w1.alloc (.cells #[.int .u32 V, .int .u32 0, .int .u32 0, .int .u32 0] 22)) (.slice (some ⟨w1.heap.size, 0, none⟩) 4 4) (nums .u32 [V, 0, 0, 0]) := Rd.new w1 (nums .u32 [V, 0, 0, 0]) 22 (by simp [nums, maxLen])
      have hoa := OF.out _ _ hrd
      clear hrd
      refine hoa.mono ?_
      clear hoa
      rintro r w2 ⟨rfl, hb2⟩
      have hb12 := ((Below.refl w1.heap.size w1).alloc (Nat.le_refl _) (.cells (nums .u32 [V, 0, 0, 0]).toArray 22)).trans (hb2.mono (by simp))
      have hb13 := hb12.alloc hb12.size (.cells #[.bool Down, .bool Dwrap, .bool Dfirst, .bool Dlast, .bool Dbad, .int .i64 Dlen, .int .u32 Dat, .int .i64 Dsize, .int .u32 Dstamp] 54)
      have hS3 := HS1.out.below hb13
      obtain ⟨d0, d1, d2, d3, d4, d5, d6, d7, d8, d9, d10, d11, d12, d13, d14, d15, d16, d17⟩ := eng_cells hS3
      have f := eng_free hS3
      rw [HIN.out] at d15
      have HS3 := Lib.hid hS3
      have HM3 := Lib.hid (HM1.out.trans (Mv.of_below hb13))
      have hq2 : q < w2.heap.size := Nat.lt_of_lt_of_le HS1.out.lt hb12.size
      have hdl : DescAt (w2.alloc (.cells #[.bool Down, .bool Dwrap, .bool Dfirst, .bool Dlast, .bool Dbad, .int .i64 Dlen, .int .u32 Dat, .int .i64 Dsize, .int .u32 Dstamp] 54)) w2.heap.size ⟨Down, Dwrap, Dfirst, Dlast, Dbad, Dlen, Dat, Dsize, Dstamp⟩ := DescAt.new w2 ⟨Down, Dwrap, Dfirst, Dlast, Dbad, Dlen, Dat, Dsize, Dstamp⟩
      obtain ⟨x0, x1, x2, x3, x4, x5, x6, x7, x8⟩ := desc_cells hdl
      obtain ⟨lb, hlb⟩ : ∃ lb, w2.heap.size = lb := ⟨_, rfl⟩
      clear hb2 hb12 hb13 hS3 hdl
      rcases hg5 with rfl | rfl
      · by_cases hi : Dfirst = inr
        · subst hi
          have hz := HZ.out
          rw [if_pos (.inr HIN.out.symm)] at hz
          have HZ1 := Lib.hid hz
          clear hz hlb
          go_wp2
          generalize w2.alloc (.cells #[.bool Down, .bool Dwrap, .bool Dfirst, .bool Dlast, .bool Dbad, .int .i64 Dlen, .int .u32 Dat, .int .i64 Dsize, .int .u32 Dstamp] 54) = W at *
          go_quiet (fail)
          go_wp2
          go_ret
          rw [HZ1.out]
          exact ⟨rfl, goes_ram (HS3.out.drewN _) (HM3.out.drewN _)⟩
        · have hz := HZ.out
          rw [if_neg (by rintro (a | a); exact a rfl; exact hi (a.trans HIN.out))] at hz
          have HZ1 := Lib.hid hz
          have hne : (Dfirst == inr) = false := by simp [hi]
          clear hz hlb hi
          go_wp2
          generalize w2.alloc (.cells #[.bool Down, .bool Dwrap, .bool Dfirst, .bool Dlast, .bool Dbad, .int .i64 Dlen, .int .u32 Dat, .int .i64 Dsize, .int .u32 Dstamp] 54) = W at *
          go_quiet (fail)
          go_wp2
          go_ret
          rw [HZ1.out]
          exact ⟨rfl, F1, fv, (((HS3.out.drewN _).setD ⟨Down, Dwrap, Dfirst, Dlast, Dbad, Dlen, Dat, Dsize, Dstamp⟩).set 14 (.int .i64 0) { e with d := ⟨Down, Dwrap, Dfirst, Dlast, Dbad, Dlen, Dat, Dsize, Dstamp⟩, got := 0 } rfl rfl).set 4 (.int .i64 1) { e with d := ⟨Down, Dwrap, Dfirst, Dlast, Dbad, Dlen, Dat, Dsize, Dstamp⟩, got := 0, phase := 1 } rfl rfl,
            (((HM3.out.drewN _).wide.setD (q_in q F fv) ⟨Down, Dwrap, Dfirst, Dlast, Dbad, Dlen, Dat, Dsize, Dstamp⟩).set_in (q_in q F fv) _ _).set_in (q_in q F fv) _ _⟩
      · have hz := HZ.out
        rw [if_pos (.inl (by decide))] at hz
        have HZ1 := Lib.hid hz
        clear hz hlb
        go_wp2
        generalize w2.alloc (.cells #[.bool Down, .bool Dwrap, .bool Dfirst, .bool Dlast, .bool Dbad, .int .i64 Dlen, .int .u32 Dat, .int .i64 Dsize, .int .u32 Dstamp] 54) = W at *
        go_quiet (fail)
        go_wp2
        go_ret
        rw [HZ1.out]
        exact ⟨rfl, goes_ram (HS3.out.drewN _) (HM3.out.drewN _)⟩
end Go.Proofs.Ytkegljcndhckead
