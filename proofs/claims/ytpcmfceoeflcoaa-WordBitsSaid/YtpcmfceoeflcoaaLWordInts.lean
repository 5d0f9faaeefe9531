import Derived.Test.YtpcmfceoeflcoaaW5
namespace Go.Proofs.Ytpcmfceoeflcoaa
open Go.RowKit
set_option linter.unusedVariables false
/-- A call's contract with its result under a name. -/
abbrev FieldIs (w0 at_ n r e : Int) : Prop := ∀ w : World, Calls Try.prog 11 #[.int .u32 w0, .int .i64 at_, .int .i64 n] w fun x w' => x = .returned (.tuple #[.int .u32 r, .int .i64 e]) ∧ w = w'
abbrev WithIs (w0 at_ n v r e : Int) : Prop := ∀ w : World, Calls Try.prog 13 #[.int .u32 w0, .int .i64 at_, .int .i64 n, .int .u32 v] w fun x w' => x = .returned (.tuple #[.int .u32 r, .int .i64 e]) ∧ w = w'
abbrev RevIs (w0 n r e : Int) : Prop := ∀ w : World, Calls Try.prog 15 #[.int .u32 w0, .int .i64 n] w fun x w' => x = .returned (.tuple #[.int .u32 r, .int .i64 e]) ∧ w = w'
theorem fieldIs_ok (w0 at_ n r : Int) (hw : 0 ≤ w0 ∧ w0 < 4294967296) (h : Wd.fitsB at_ n = true) (hr : ((Wd.fieldN w0.toNat at_.toNat n.toNat : Nat) : Int) = r) : FieldIs w0 at_ n r 0 := fun w => hr ▸ field_ok w0 at_ n hw h w
theorem withIs_ok (w0 at_ n v r : Int) (hw : 0 ≤ w0 ∧ w0 < 4294967296) (hv : 0 ≤ v ∧ v < 4294967296) (h : Wd.fitsB at_ n = true) (hr : ((Wd.withN w0.toNat at_.toNat n.toNat v.toNat : Nat) : Int) = r) : WithIs w0 at_ n v r 0 := fun w => hr ▸ with_ok w0 at_ n v hw hv h w
theorem revIs_ok (w0 n r : Int) (hw : 0 ≤ w0 ∧ w0 < 4294967296) (h : 0 ≤ n ∧ n ≤ 32) (hr : ((Wd.revN w0.toNat n.toNat : Nat) : Int) = r) : RevIs w0 n r 0 := fun w => hr ▸ rev_ok w0 n hw h w
theorem nat_bd (x : Nat) (h : x < 4294967296) : 0 ≤ (x : Int) ∧ (x : Int) < 4294967296 := by omega
theorem wordPut_walk (w0 at_ n v to m : Int) (w : World) (x0 : (Lit.int .u32 w0).wf = true) (x1 : (Lit.int .i64 at_).wf = true) (x2 : (Lit.int .i64 n).wf = true) (x3 : (Lit.int .u32 v).wf = true) (x4 : (Lit.int .i64 to).wf = true) (x5 : (Lit.int .i64 m).wf = true) :
    Calls Try.prog 4 #[.int .u32 w0, .int .i64 at_, .int .i64 n, .int .u32 v, .int .i64 to, .int .i64 m] w fun e w' => e = .returned (.bool true) ∧ Below w.heap.size w w' := by
  have b0 := wf_u32 x0; have b3 := wf_u32 x3
  cases h : Wd.fitsB at_ n with
  | false =>
    have C1 := Lib.hid (with_no w0 at_ n v x2 h)
    clear x0 x1 x2 x3 x4 x5 h
    go_enter Try.func4, Try.ntmps4
    go_wp2_with (first | (go_at_call 10; refine (wshown_ok _).mono ?_; rintro e w1 ⟨rfl, hb⟩) | (go_at_call 13; refine (C1.out _).mono ?_; rintro e w' ⟨rfl, rfl⟩))
    go_ret
    exact ⟨rfl, hb⟩
  | true =>
    obtain ⟨f1, f2, f3, f4⟩ := Wd.fits_nat h
    have hn0 : Wd.fitsB 0 n = true := by simp [Wd.fitsB]; omega
    have hat : at_.toNat + n.toNat ≤ 32 := by omega
    have hw32 : w0.toNat < 4294967296 := by omega
    obtain ⟨X, hX⟩ : ∃ X : Nat, Wd.withN w0.toNat at_.toNat n.toNat v.toNat = X := ⟨_, rfl⟩
    have hX32 : X < 4294967296 := hX ▸ Wd.withN_lt _ _ _ _ hat hw32
    obtain ⟨Y, hY⟩ : ∃ Y : Nat, Wd.fieldN v.toNat 0 n.toNat = Y := ⟨_, rfl⟩
    have C1 := Lib.hid (withIs_ok w0 at_ n v X b0 b3 h (by rw [hX]))
    have C2 := Lib.hid (fieldIs_ok X at_ n Y (nat_bd X hX32) h (by rw [Int.toNat_natCast, ← hX, Wd.put_read _ _ _ _ hat hw32, hY]))
    have C3 := Lib.hid (fieldIs_ok v 0 n Y b3 hn0 (by rw [← hY]; rfl))
    have hXY := Lib.hid hX
    cases h2 : Wd.fitsB to m with
    | false =>
      have C4 := Lib.hid (field_no X to m x5 h2)
      have C5 := Lib.hid (field_no w0 to m x5 h2)
      clear x0 x1 x2 x3 x4 x5 h h2 hX hY f1 f2 f3 f4 hn0 hat hw32 b0 b3
      go_enter Try.func4, Try.ntmps4
      go_wp2_with (first | (go_at_call 10; refine (wshown_ok _).mono ?_; rintro e w1 ⟨rfl, hb⟩) | (go_at_call 13; refine (C1.out _).mono ?_; rintro e w' ⟨rfl, rfl⟩) | (with_reducible refine (C2.out _).mono ?_; rintro e w' ⟨rfl, rfl⟩) | (with_reducible refine (C3.out _).mono ?_; rintro e w' ⟨rfl, rfl⟩) | (with_reducible refine (C4.out _).mono ?_; rintro e w' ⟨rfl, rfl⟩) | (with_reducible refine (C5.out _).mono ?_; rintro e w' ⟨rfl, rfl⟩))
      go_ret
      exact ⟨rfl, hb⟩
    | true =>
      obtain ⟨g1, g2, g3, g4⟩ := Wd.fits_nat h2
      by_cases hap : to + m ≤ at_ ∨ at_ + n ≤ to
      · obtain ⟨Z, hZ⟩ : ∃ Z : Nat, Wd.fieldN w0.toNat to.toNat m.toNat = Z := ⟨_, rfl⟩
        have C4 := Lib.hid (fieldIs_ok X to m Z (nat_bd X hX32) h2 (by rw [Int.toNat_natCast, ← hX, Wd.put_apart _ _ _ _ _ _ hat (by omega) hw32 (by omega), hZ]))
        have C5 := Lib.hid (fieldIs_ok w0 to m Z b0 h2 (by rw [hZ]))
        clear x0 x1 x2 x3 x4 x5 h h2 hX hY hn0 hat hw32 b0 b3 hZ
        rcases hap with hap | hap
        · go_enter Try.func4, Try.ntmps4
          go_wp2_with (first | (go_at_call 10; refine (wshown_ok _).mono ?_; rintro e w1 ⟨rfl, hb⟩) | (go_at_call 13; refine (C1.out _).mono ?_; rintro e w' ⟨rfl, rfl⟩) | (with_reducible refine (C2.out _).mono ?_; rintro e w' ⟨rfl, rfl⟩) | (with_reducible refine (C3.out _).mono ?_; rintro e w' ⟨rfl, rfl⟩) | (with_reducible refine (C4.out _).mono ?_; rintro e w' ⟨rfl, rfl⟩) | (with_reducible refine (C5.out _).mono ?_; rintro e w' ⟨rfl, rfl⟩))
          go_ret
          exact ⟨rfl, hb⟩
        · by_cases hap2 : to + m ≤ at_
          · go_enter Try.func4, Try.ntmps4
            go_wp2_with (first | (go_at_call 10; refine (wshown_ok _).mono ?_; rintro e w1 ⟨rfl, hb⟩) | (go_at_call 13; refine (C1.out _).mono ?_; rintro e w' ⟨rfl, rfl⟩) | (with_reducible refine (C2.out _).mono ?_; rintro e w' ⟨rfl, rfl⟩) | (with_reducible refine (C3.out _).mono ?_; rintro e w' ⟨rfl, rfl⟩) | (with_reducible refine (C4.out _).mono ?_; rintro e w' ⟨rfl, rfl⟩) | (with_reducible refine (C5.out _).mono ?_; rintro e w' ⟨rfl, rfl⟩))
            go_ret
            exact ⟨rfl, hb⟩
          · go_enter Try.func4, Try.ntmps4
            go_wp2_with (first | (go_at_call 10; refine (wshown_ok _).mono ?_; rintro e w1 ⟨rfl, hb⟩) | (go_at_call 13; refine (C1.out _).mono ?_; rintro e w' ⟨rfl, rfl⟩) | (with_reducible refine (C2.out _).mono ?_; rintro e w' ⟨rfl, rfl⟩) | (with_reducible refine (C3.out _).mono ?_; rintro e w' ⟨rfl, rfl⟩) | (with_reducible refine (C4.out _).mono ?_; rintro e w' ⟨rfl, rfl⟩) | (with_reducible refine (C5.out _).mono ?_; rintro e w' ⟨rfl, rfl⟩))
            go_ret
            exact ⟨rfl, hb⟩
      · obtain ⟨Z, hZ⟩ : ∃ Z : Nat, Wd.fieldN w0.toNat to.toNat m.toNat = Z := ⟨_, rfl⟩
        obtain ⟨Z2, hZ2⟩ : ∃ Z2 : Nat, Wd.fieldN X to.toNat m.toNat = Z2 := ⟨_, rfl⟩
        have C4 := Lib.hid (fieldIs_ok X to m Z2 (nat_bd X hX32) h2 (by rw [Int.toNat_natCast, hZ2]))
        have C5 := Lib.hid (fieldIs_ok w0 to m Z b0 h2 (by rw [hZ]))
        have hap1 : ¬ to + m ≤ at_ := by omega
        have hap2 : ¬ at_ + n ≤ to := by omega
        clear x0 x1 x2 x3 x4 x5 h h2 hX hY hn0 hat hw32 b0 b3 hZ hZ2 hap
        go_enter Try.func4, Try.ntmps4
        go_wp2_with (first | (go_at_call 10; refine (wshown_ok _).mono ?_; rintro e w1 ⟨rfl, hb⟩) | (go_at_call 13; refine (C1.out _).mono ?_; rintro e w' ⟨rfl, rfl⟩) | (with_reducible refine (C2.out _).mono ?_; rintro e w' ⟨rfl, rfl⟩) | (with_reducible refine (C3.out _).mono ?_; rintro e w' ⟨rfl, rfl⟩) | (with_reducible refine (C4.out _).mono ?_; rintro e w' ⟨rfl, rfl⟩) | (with_reducible refine (C5.out _).mono ?_; rintro e w' ⟨rfl, rfl⟩))
        go_ret
        exact ⟨rfl, hb⟩
theorem wordTurns_walk (w0 n : Int) (w : World) (x0 : (Lit.int .u32 w0).wf = true) (x1 : (Lit.int .u8 n).wf = true) :
    Calls Try.prog 5 #[.int .u32 w0, .int .u8 n] w fun e w' => e = .returned (.bool true) ∧ Below w.heap.size w w' := by
  have b0 := wf_u32 x0; have b1 := wf_u8 x1
  have hw32 : w0.toNat < 4294967296 := by omega
  obtain ⟨k, hk⟩ : ∃ k : Nat, n % 33 = k := ⟨(n % 33).toNat, by omega⟩
  have hk32 : k ≤ 32 := by omega
  obtain ⟨A, hA⟩ : ∃ A : Nat, Wd.revN w0.toNat k = A := ⟨_, rfl⟩
  have hA32 : A < 4294967296 := by
    have := Wd.revN_lt w0.toNat k
    have h2 : 2 ^ k ≤ 2 ^ 32 := Nat.pow_le_pow_right (by decide) hk32
    omega
  have C1 := Lib.hid (revIs_ok w0 k A b0 (by omega) (by rw [Int.toNat_natCast, hA]))
  obtain ⟨B, hB⟩ : ∃ B : Nat, Wd.revN A k = B := ⟨_, rfl⟩
  have C2 := Lib.hid (revIs_ok A k B (nat_bd A hA32) (by omega) (by rw [Int.toNat_natCast, Int.toNat_natCast, hB]))
  by_cases h0 : k = 0
  · have hm : n % 33 = 0 := by omega
    clear C1 C2
    have C1 := Lib.hid (revIs_ok w0 0 0 b0 (by omega) rfl)
    have C2 := Lib.hid (revIs_ok 0 0 0 (by omega) (by omega) rfl)
    clear x0 x1 hA hB hA32 hw32 hk hk32 h0
    go_enter Try.func5, Try.ntmps5
    go_wp2_with (first | (go_at_call 10; refine (wshown_ok _).mono ?_; rintro e w1 ⟨rfl, hb⟩) | (with_reducible refine (C1.out _).mono ?_; rintro e w' ⟨rfl, rfl⟩) | (with_reducible refine (C2.out _).mono ?_; rintro e w' ⟨rfl, rfl⟩))
    go_ret
    exact ⟨rfl, hb⟩
  · have hBL : Wd.fieldN w0.toNat 0 k = B := by rw [← hB, ← hA, Wd.turn_turn _ _ hk32]
    obtain ⟨E, hE⟩ : ∃ E : Nat, Wd.fieldN w0.toNat 0 1 = E := ⟨_, rfl⟩
    have C3 := Lib.hid (fieldIs_ok w0 0 k B b0 (by simp [Wd.fitsB]; omega) (by rw [← hBL]; rfl))
    have C4 := Lib.hid (fieldIs_ok w0 0 1 E b0 (by decide) (by rw [← hE]; rfl))
    have C5 := Lib.hid (fieldIs_ok A ((k : Int) - 1) 1 E (nat_bd A hA32) (by simp [Wd.fitsB]; omega) (by rw [← hE, Wd.turn_ends _ _ (by omega) hk32, hA]; congr 2; omega))
    have hk0 : ¬ (k : Int) = 0 := by omega
    have hk1 : (((k : Int)) == 0) = false := by simp; omega
    have hk2 : (k : Int) ≤ 32 := by omega
    clear x0 x1 hA hB hA32 hw32 hBL hE h0
    go_enter Try.func5, Try.ntmps5
    go_wp2_with (first | (go_at_call 10; refine (wshown_ok _).mono ?_; rintro e w1 ⟨rfl, hb⟩) | (with_reducible refine (C1.out _).mono ?_; rintro e w' ⟨rfl, rfl⟩) | (with_reducible refine (C2.out _).mono ?_; rintro e w' ⟨rfl, rfl⟩) | (with_reducible refine (C3.out _).mono ?_; rintro e w' ⟨rfl, rfl⟩) | (with_reducible refine (C4.out _).mono ?_; rintro e w' ⟨rfl, rfl⟩) | (with_reducible refine (C5.out _).mono ?_; rintro e w' ⟨rfl, rfl⟩))
    go_ret
    exact ⟨rfl, hb⟩
theorem wordShares_walk (w0 v cut : Int) (w : World) (x0 : (Lit.int .u32 w0).wf = true) (x1 : (Lit.int .u32 v).wf = true) (x2 : (Lit.int .u8 cut).wf = true) :
    Calls Try.prog 6 #[.int .u32 w0, .int .u32 v, .int .u8 cut] w fun e w' => e = .returned (.bool true) ∧ Below w.heap.size w w' := by
  have b0 := wf_u32 x0; have b1 := wf_u32 x1; have b2 := wf_u8 x2
  have hw32 : w0.toNat < 4294967296 := by omega
  have hv32 : v.toNat < 4294967296 := by omega
  obtain ⟨c, hc⟩ : ∃ c : Int, cut % 31 = c := ⟨_, rfl⟩
  have hc2 : 0 ≤ c ∧ c < 31 := by omega
  obtain ⟨A, hA⟩ : ∃ A : Nat, Wd.fieldN w0.toNat 0 (1 + c).toNat = A := ⟨_, rfl⟩
  obtain ⟨B, hB⟩ : ∃ B : Nat, Wd.fieldN w0.toNat (1 + c).toNat (32 - (1 + c)).toNat = B := ⟨_, rfl⟩
  have hA32 : A < 4294967296 := hA ▸ Wd.fieldN_lt32 _ _ _ (by omega)
  have hB32 : B < 4294967296 := hB ▸ Wd.fieldN_lt32 _ _ _ (by omega)
  obtain ⟨X, hX⟩ : ∃ X : Nat, Wd.withN v.toNat 0 (1 + c).toNat A = X := ⟨_, rfl⟩
  have hX32 : X < 4294967296 := hX ▸ Wd.withN_lt _ _ _ _ (by omega) hv32
  have C1 := Lib.hid (fieldIs_ok w0 0 (1 + c) A b0 (by simp [Wd.fitsB]; omega) (by rw [← hA]; rfl))
  have C2 := Lib.hid (fieldIs_ok w0 (1 + c) (32 - (1 + c)) B b0 (by simp [Wd.fitsB]; omega) (by rw [← hB]))
  have C3 := Lib.hid (withIs_ok v 0 (1 + c) A X b1 (nat_bd A hA32) (by simp [Wd.fitsB]; omega) (by rw [← hX]; rfl))
  have C4 := Lib.hid (withIs_ok X (1 + c) (32 - (1 + c)) B w0 (nat_bd X hX32) (nat_bd B hB32) (by simp [Wd.fitsB]; omega) (by
    have h1 : (32 - (1 + c)).toNat = 32 - (1 + c).toNat := by omega
    have h2 := Wd.share w0.toNat v.toNat (1 + c).toNat (by omega) (by omega) hw32 hv32
    rw [← h1, hA, hB, hX] at h2
    rw [Int.toNat_natCast, Int.toNat_natCast, h2]; omega))
  have C5 := Lib.hid (fieldIs_ok w0 0 32 w0 b0 (by decide) (by
    have h2 := Wd.field_all w0.toNat hw32
    show ((Wd.fieldN w0.toNat 0 32 : Nat) : Int) = w0
    rw [h2]; omega))
  have hc3 := hc2.1
  have hc4 := hc2.2
  clear x0 x1 x2 hA hB hA32 hB32 hX hX32 hw32 hv32 hc2
  go_enter Try.func6, Try.ntmps6
  go_wp2_with (first | (go_at_call 10; refine (wshown_ok _).mono ?_; rintro e w1 ⟨rfl, hb⟩) | (with_reducible refine (C1.out _).mono ?_; rintro e w' ⟨rfl, rfl⟩) | (with_reducible refine (C2.out _).mono ?_; rintro e w' ⟨rfl, rfl⟩) | (with_reducible refine (C3.out _).mono ?_; rintro e w' ⟨rfl, rfl⟩) | (with_reducible refine (C4.out _).mono ?_; rintro e w' ⟨rfl, rfl⟩) | (with_reducible refine (C5.out _).mono ?_; rintro e w' ⟨rfl, rfl⟩))
  go_ret
  exact ⟨rfl, hb⟩
theorem wordBits_walk (w0 : Int) (w : World) (x0 : (Lit.int .u32 w0).wf = true) :
    Calls Try.prog 7 #[.int .u32 w0] w fun e w' => e = .returned (.bool true) ∧ Below w.heap.size w w' := by
  have b0 := wf_u32 x0
  obtain ⟨x, rfl⟩ := Int.eq_ofNat_of_zero_le b0.1
  have hx : x < 4294967296 := by omega
  clear x0
  go_enter Try.func7, Try.ntmps7
  go_wp2_with (first | (go_at_call 10; refine (wshown_ok _).mono ?_; rintro e w1 ⟨rfl, hb⟩))
  go_loopw [4, 5] (fun s i wr => ∃ k : Nat, k ≤ 32 ∧ i = .int .i64 k ∧ s = .int .u32 ((x % 2 ^ k : Nat) : Int) ∧ Below w.heap.size w wr) (fun _ i _ => 32 - (intOf i).toNat)
  case atStart => exact ⟨0, by omega, rfl, by simp [Nat.mod_one], hb⟩
  case round =>
    obtain ⟨k, hk, rfl, rfl, hbl⟩ := hrel
    by_cases hlt : k < 32
    · have hbit := Wd.field_bit x k hlt
      have hl2 := Wd.bitN_lt x k
      have hs := Wd.sum_step x k hlt hx
      obtain ⟨B, hB⟩ : ∃ B : Nat, Wd.fieldN x k 1 = B := ⟨_, rfl⟩
      have hB2 : ¬ (1 : Int) < B := by rw [← hB, hbit]; omega
      obtain ⟨S, hS⟩ : ∃ S : Nat, Wd.withN 0 k 1 B = S := ⟨_, rfl⟩
      rw [hB, hS] at hs
      have HS := Lib.hid hs; clear hs
      have C1 := Lib.hid (fieldIs_ok x k 1 B b0 (by simp [Wd.fitsB]; omega) (by rw [← hB]; rfl))
      have C2 := Lib.hid (withIs_ok 0 k 1 B S (by omega) (by omega) (by simp [Wd.fitsB]; omega) (by rw [← hS]; rfl))
      clear hbit hl2 hB hS
      go_wp2_with (first | (with_reducible refine (C1.out _).mono ?_; rintro e w' ⟨rfl, rfl⟩) | (with_reducible refine (C2.out _).mono ?_; rintro e w' ⟨rfl, rfl⟩))
      go_roundw
      case rel => exact ⟨k + 1, by omega, by go_num, int_ret (by rw [← HS.out]; simp), hbl⟩
      case measure => simp [intOf]; omega
    · obtain rfl : k = 32 := by omega
      have e : (x : Int) % 4294967296 = x := by omega
      go_wp2
      go_ret
      exact ⟨rfl, hbl⟩
end Go.Proofs.Ytpcmfceoeflcoaa
