import Derived.Test.YtpcmfceoeflcoaaW3
namespace Go.Proofs.Ytpcmfceoeflcoaa
open Go.RowKit
set_option linter.unusedVariables false
theorem info_u32' : (Try.prog.info? 22).map (fun i => (i.zero, i.size, i.bytes)) = some (some (.int .u32 0), 1, 4) := by kernel_rfl
theorem info_u8' : (Try.prog.info? 5).map (fun i => (i.zero, i.size, i.bytes)) = some (some (.int .u8 0), 1, 1) := by kernel_rfl
theorem rof_ok (v : Value) (xs : List Int) (w : World) (h : Rd w v (nums .u8 xs)) (hx : Wd.Bytes xs) :
    Calls Try.prog 23 #[v] w fun e w' => e = .returned (.int .u32 (Wd.ofL xs)) ∧ w = w' := by
  obtain ⟨A1, c1, rfl, b1, m1, hc1⟩ := id h
  rw [nums_len] at h b1
  rw [nums_len]
  have H1 := Lib.hid hc1; have HX := Lib.hid hx; clear hc1 hx
  unfold maxLen at m1
  go_enter Try.func23, Try.ntmps23
  go_wp2
  go_loop [3, 4] (fun o i => ∃ k : Nat, k ≤ 4 ∧ i = .int .i64 (3 - k) ∧ o = .int .u32 (Wd.hornK xs k)) (fun _ i => (intOf i + 1).toNat)
  case atStart => exact ⟨0, by omega, rfl, rfl⟩
  case round =>
    obtain ⟨k, hk, rfl, rfl⟩ := hrel
    by_cases hlt : k < 4
    · have hb := Wd.hornK_bounds HX.out k
      have hp : (256 : Int) ^ k ≤ 256 ^ 3 := by
        have : (256 : Nat) ^ k ≤ 256 ^ 3 := Nat.pow_le_pow_right (by decide) (by omega)
        have e : ((256 ^ k : Nat) : Int) = (256 : Int) ^ k := by simp
        rw [← e]; omega
      have hb1 := hb.1
      have hb2 : Wd.hornK xs k < 16777216 := by omega
      clear hb hp
      by_cases hi : 3 - k < xs.length
      · obtain ⟨a1, rfl, q1⟩ := H1.out (3 - k) _ (nums_at .u8 xs (3 - k) hi)
        have hc := HX.out.at_ (3 - k)
        obtain ⟨p, hp⟩ : ∃ p, p = xs.getD (3 - k) 0 := ⟨_, rfl⟩
        rw [← hp] at q1 hc
        have HP := Lib.hid hp; clear hp
        have hi2 : (3 : Int) - k < xs.length := by omega
        have ht : ((3 : Int) - k).toNat = 3 - k := by omega
        go_wp2
        go_round
        case rel => exact ⟨k + 1, by omega, int_ret (by omega), int_ret (by show _ = Wd.hornK xs k * 256 + xs.getD (3 - k) 0; rw [← HP.out])⟩
        case measure => simp [intOf]; omega
      · have hi2 : ¬ (3 : Int) - k < xs.length := by omega
        have hz : xs.getD (3 - k) 0 = 0 := by rw [List.getD_eq_getElem?_getD, List.getElem?_eq_none (by omega)]; rfl
        have HP := Lib.hid hz; clear hz
        go_wp2
        go_round
        case rel => exact ⟨k + 1, by omega, int_ret (by omega), int_ret (by show _ = Wd.hornK xs k * 256 + xs.getD (3 - k) 0; rw [HP.out, Int.add_zero])⟩
        case measure => simp [intOf]; omega
    · obtain rfl : k = 4 := by omega
      go_wp2
      go_ret
      exact ⟨by rw [← Wd.horn_ofL]; rfl, rfl⟩
theorem own_n {w : World} {base n m : Nat} {e : TypeId} {v : Value} {xs : List Value} (h : w.ownsRow base e 1 v n xs) (hm : xs.length = m) : w.ownsRow base e 1 v m xs := by
  have : xs.length = n := by simpa using h.1
  rwa [← hm, this]
theorem nums_take (k : IntKind) (xs : List Int) (m : Nat) : (nums k xs).take m = nums k (xs.take m) := by simp [nums, List.map_take]
theorem own_take {w : World} {base n c : Nat} {A : Option Addr} {e : TypeId} {xs : List Value} (h : w.ownsRow base e 1 (.slice A n c) n xs) (m : Nat) (hm : m ≤ n) : w.ownsRow base e 1 (.slice A m c) m (xs.take m) := by
  have hl : xs.length = n := by simpa using h.1
  refine ⟨by rw [List.length_take]; omega, ?_⟩
  rcases h.2 with ⟨hv, hn⟩ | ⟨g, cap, cur, hv, hg, hh, h1, h2, h3, h4⟩
  · injection hv with ha hn' hc
    subst ha; subst hc
    obtain rfl : m = 0 := by omega
    exact .inl ⟨rfl, rfl⟩
  · injection hv with ha _ hc
    subst ha; subst hc
    refine .inr ⟨g, c, cur, rfl, hg, hh, by omega, h2, h3, ?_⟩
    rw [← h4, List.take_take]
    congr 1
    omega
/-- A word's bytes, the first k. -/
theorem bytesL_take (w0 : Int) (k : Nat) (hk : k < 4) : (Wd.bytesL w0).take (k + 1) = (Wd.bytesL w0).take k ++ [w0 / 256 ^ k % 256] := by
  match k, hk with
  | 0, _ => simp [Wd.bytesL]
  | 1, _ => simp [Wd.bytesL]
  | 2, _ => simp [Wd.bytesL]
  | 3, _ => simp [Wd.bytesL]
theorem rbytes_ok (w0 : Int) (hw : 0 ≤ w0 ∧ w0 < 4294967296) (w : World) :
    Calls Try.prog 29 #[.int .u32 w0] w fun e w' => ∃ u, e = .returned u ∧ w'.ownsRow w.heap.size 5 1 u 4 (nums .u8 (Wd.bytesL w0)) ∧ Below w.heap.size w w' := by
  obtain ⟨h1, h2⟩ := hw
  go_enter Try.func29, Try.ntmps29
  go_wp2
  go_loopw [0, 3, 4] (fun x b i wr => ∃ k : Nat, k ≤ 4 ∧ i = .int .i64 k ∧ x = .int .u32 (w0 / 256 ^ k) ∧ wr.ownsRow w.heap.size 5 1 b k (nums .u8 ((Wd.bytesL w0).take k)) ∧ Below w.heap.size w wr) (fun _ _ i _ => 4 - (intOf i).toNat)
  case atStart => exact ⟨0, by omega, rfl, by simp, World.ownsRow_nil _ _ _ _, Below.refl _ _⟩
  case round =>
    obtain ⟨k, hk, rfl, rfl, hown, hb⟩ := hrel
    by_cases hlt : k < 4
    · have hq : (0 : Int) ≤ w0 / 256 ^ k := Int.ediv_nonneg h1 (Int.pow_nonneg (by omega))
      have hq2 : w0 / 256 ^ k < 4294967296 := by
        have := Int.ediv_le_self (256 ^ k) h1
        omega
      have hl : ((Wd.bytesL w0).take k).length = k := by simp [Wd.bytesL]; omega
      have HL := Lib.hid hl; clear hl
      go_wp2_with (at_builtin; refine app_rd rfl _ _ 38 rfl w.heap.size 5 (.int .u8 0) 1 Try.underlying38 info_u8' rfl (by decide) _ (nums .u8 ((Wd.bytesL w0).take k)) rfl ?c1 _ (nums .u8 [w0 / 256 ^ k % 256]) rfl ?c2 (nums_one _ _) ?c3 ?c4 ?_)
      case c1 => rw [nums_len, HL.out]; exact hown.alloc _
      case c2 => exact Rd.new wr (nums .u8 [w0 / 256 ^ k % 256]) 5 (by simp [nums, maxLen])
      case c3 => rw [nums_len, nums_len, HL.out]; simp; omega
      case c4 => have := hb.size; simp; omega
      intro v1 w1 hown1 hg _ _
      have hb1 : Below w.heap.size w w1 := (hb.alloc hb.size _).grown hg (by have := hb.size; simp; omega) (own_ge hown)
      clear hg
      go_wp2
      go_roundw
      case rel =>
        refine ⟨k + 1, by omega, by go_num, ?_, ?_, hb1⟩
        · rw [Int.pow_succ, ← Int.ediv_ediv_of_nonneg (Int.pow_nonneg (by omega))]
        · rw [bytesL_take _ _ hlt, nums_app]
          exact own_n hown1 (by simp [nums, Wd.bytesL]; omega)
      case measure => simp [intOf]; omega
    · obtain rfl : k = 4 := by omega
      rcases own_form hown with ⟨A, c, rfl⟩
      go_wp2
      go_ret
      exact ⟨_, rfl, by simpa [Wd.bytesL] using hown, hb⟩
theorem rd_cut {w : World} {A : Option Addr} {n c : Nat} {k : IntKind} {xs : List Int} (h : Rd w (.slice A n c) (nums k xs)) (i : Nat) (hi : i ≤ n) (A' : Option Addr) (hA : A' = if c = i then A else A.map (·.add i)) :
    Rd w (.slice A' (n - i) (c - i)) (nums k (xs.drop i)) := by
  obtain ⟨hn, hc, hm⟩ := rd_len h
  rw [nums_len] at hn
  subst hn
  have hl : (nums k (xs.drop i)).length = xs.length - i := by rw [nums_len, List.length_drop]
  refine ⟨A', c - i, by rw [hl], by rw [hl]; omega, by omega, fun j u hu => ?_⟩
  have hj : j < xs.length - i := by
    rcases Nat.lt_or_ge j (xs.length - i) with h' | h'
    · exact h'
    · rw [List.getElem?_eq_none (by rw [hl]; exact h')] at hu; cases hu
  obtain ⟨ad, rfl, hcell⟩ := rd_at h (i + j) (by omega)
  rw [if_neg (by omega)] at hA
  refine ⟨ad.add i, hA, ?_⟩
  have e : (ad.add i).add j = ad.add (i + j) := by
    unfold Addr.add
    by_cases h1 : i = 0 <;> by_cases h2 : j = 0 <;> simp [h1, h2, Nat.add_assoc]
  rw [e, hcell, ← hu, nums_at _ _ _ (by rw [List.length_drop]; exact hj)]
  simp [List.getD_eq_getElem?_getD]
theorem rpack_ok (v : Value) (xs : List Int) (w : World) (h : Rd w v (nums .u8 xs)) (hx : Wd.Bytes xs) (hlen : xs.length ≤ 140737488351232) :
    Calls Try.prog 21 #[v] w fun e W' => ∃ u, e = .returned u ∧ W'.ownsRow w.heap.size 22 1 u (Wd.packL xs).length (nums .u32 (Wd.packL xs)) ∧ Below w.heap.size w W' := by
  obtain ⟨A, c, rfl, b1, m1, -⟩ := id h
  rw [nums_len] at h b1
  rw [nums_len]
  have HR := Lib.hid h; have HX := Lib.hid hx; clear h hx
  unfold maxLen at m1
  go_enter Try.func21, Try.ntmps21
  go_wp2
  go_loopw [3, 4] (fun b i wr => ∃ k : Nat, k ≤ (xs.length + 3) / 4 ∧ i = .int .i64 (4 * k) ∧ wr.ownsRow w.heap.size 22 1 b k (nums .u32 (Wd.packK xs k)) ∧ Below w.heap.size w wr) (fun _ i _ => xs.length + 4 - (intOf i).toNat)
  case atStart => exact ⟨0, by omega, rfl, World.ownsRow_nil _ _ _ _, Below.refl _ _⟩
  case round =>
    obtain ⟨k, hk, rfl, hown, hb⟩ := hrel
    by_cases hlt : k < (xs.length + 3) / 4
    · have hi2 : 4 * (k : Int) < xs.length := by omega
      have hR := HR.out.below hb
      have hl := Wd.packK_len xs k
      have HL := Lib.hid hl; clear hl
      have hcl := fun A' (hA : A' = if c = 4 * k then A else A.map (·.add (4 * k))) => rof_ok _ _ wr (rd_cut hR (4 * k) (by omega) A' hA) (HX.out.drop _)
      have HCL := Lib.hid hcl; clear hcl hR
      have hc4 : ¬ c = 4 * k := by omega
      go_wp2_with (first | (go_at_call 23; refine (HCL.out _ ?hA).mono ?_; rotate_left; rintro e w' ⟨rfl, rfl⟩) | (at_builtin; refine app_rd rfl _ _ 39 rfl w.heap.size 22 (.int .u32 0) 4 Try.underlying39 info_u32' rfl (by decide) _ (nums .u32 (Wd.packK xs k)) rfl ?c1 _ (nums .u32 [Wd.ofL (xs.drop (4 * k))]) rfl ?c2 (nums_one _ _) ?c3 ?c4 ?_))
      case c1 => rw [nums_len, HL.out]; exact hown.alloc _
      case c2 => exact Rd.new wr (nums .u32 [Wd.ofL (xs.drop (4 * k))]) 22 (by simp [nums, maxLen])
      case c3 => rw [nums_len, nums_len, HL.out]; simp; omega
      case c4 => have := hb.size; simp; omega
      intro v1 w1 hown1 hg _ _
      have hb1 : Below w.heap.size w w1 := (hb.alloc hb.size _).grown hg (by have := hb.size; simp; omega) (own_ge hown)
      clear hg
      go_wp2
      go_roundw
      case rel =>
        refine ⟨k + 1, by omega, by go_num, ?_, hb1⟩
        rw [Wd.packK_succ, nums_app]
        exact own_n hown1 (by simp [nums, HL.out])
      case measure => simp [intOf]; omega
    · have hi2 : ¬ 4 * (k : Int) < xs.length := by omega
      have hkl : k = (xs.length + 3) / 4 := by omega
      have HK := Lib.hid hkl; clear hkl
      rcases own_form hown with ⟨A, c, rfl⟩
      go_wp2
      go_ret
      refine ⟨_, rfl, ?_, hb⟩
      rw [Wd.packL_len, ← HK.out, ← Wd.packK_all, ← HK.out]
      exact hown
theorem runpack_ok (v : Value) (ws : List Int) (n : Int) (w : World) (h : Rd w v (nums .u32 ws)) (hw : Wd.Words ws) (hn : 0 ≤ n ∧ n ≤ 4 * ws.length) (hlen : ws.length * 4 ≤ 140737488351232) :
    Calls Try.prog 18 #[v, .int .i64 n] w fun e W' => ∃ u, e = .returned (.tuple #[u, .int .i64 0]) ∧ W'.ownsRow w.heap.size 5 1 u n.toNat (nums .u8 (Wd.unpackL ws n.toNat)) ∧ Below w.heap.size w W' := by
  obtain ⟨A, c, rfl, b1, m1, -⟩ := id h
  rw [nums_len] at h b1
  rw [nums_len]
  have HR := Lib.hid h; have HX := Lib.hid hw; clear h hw
  unfold maxLen at m1
  obtain ⟨m, rfl⟩ := Int.eq_ofNat_of_zero_le hn.1
  have hm : m ≤ 4 * ws.length := by omega
  have hm2 : (m : Int) ≤ 4 * (ws.length : Int) := by omega
  clear hn
  go_enter Try.func18, Try.ntmps18
  go_wp2
  go_loopw [6, 7] (fun b i wr => ∃ k : Nat, k ≤ m ∧ i = .int .i64 k ∧ wr.ownsRow w.heap.size 5 1 b k (nums .u8 (Wd.unpackL ws k)) ∧ Below w.heap.size w wr) (fun _ i _ => m - (intOf i).toNat)
  case atStart => exact ⟨0, by omega, rfl, World.ownsRow_nil _ _ _ _, Below.refl _ _⟩
  case round =>
    obtain ⟨k, hk, rfl, hown, hb⟩ := hrel
    by_cases hlt : k < m
    · have hR := HR.out.below hb
      obtain ⟨ad, rfl, q1⟩ := rd_at hR (k / 4) (by omega)
      have hx := HX.out.at_ (k / 4)
      obtain ⟨x, hxx⟩ : ∃ x, x = ws.getD (k / 4) 0 := ⟨_, rfl⟩
      rw [← hxx] at hx q1
      have HXX := Lib.hid hxx; clear hxx hR
      have hl := Wd.unpackL_len ws k (by omega)
      have HL := Lib.hid hl; clear hl
      have e1 : ((k : Int) / 4).toNat = k / 4 := by omega
      have e2 : ((k : Int) % 4).toNat = k % 4 := by omega
      have e3 : (k : Int) % 4 < 4 := by omega
      have e4 : 0 ≤ (k : Int) % 4 := by omega
      have hk4 : (k : Int) / 4 < ws.length := by omega
      have hb4 := Wd.bytesL_bytes x
      go_wp2_with (go_at_call 29; refine (rbytes_ok _ hx _).mono ?_)
      rintro e w2 ⟨u, rfl, hown2, hb2⟩
      obtain ⟨A2, c2, rfl⟩ := own_form hown2
      have hR2 := Rd.of_own hown2
      have hl4 : (nums .u8 (Wd.bytesL x)).length = 4 := by simp [nums, Wd.bytesL]
      obtain ⟨h4, hc4, hm4⟩ := rd_len hR2
      obtain ⟨ad2, rfl, q2⟩ := rd_at hR2 (k % 4) (by simp [Wd.bytesL]; omega)
      have hown3 := own_below hown hb2
      have hb3 := below_next hb hb.size hb2
      obtain ⟨y, hyy⟩ : ∃ y, y = (Wd.bytesL x).getD (k % 4) 0 := ⟨_, rfl⟩
      rw [← hyy] at q2
      have HY := Lib.hid hyy; clear hyy hown hown2 hb hb2 hR2 hl4
      clear h4
      go_wp2_with (at_builtin; refine app_rd rfl _ _ 38 rfl w.heap.size 5 (.int .u8 0) 1 Try.underlying38 info_u8' rfl (by decide) _ (nums .u8 (Wd.unpackL ws k)) rfl ?c1 _ (nums .u8 [y]) rfl ?c2 (nums_one _ _) ?c3 ?c4 ?_)
      case c1 => rw [nums_len, HL.out]; exact hown3.alloc _
      case c2 => exact Rd.new w2 (nums .u8 [y]) 5 (by simp [nums, maxLen])
      case c3 => rw [nums_len, nums_len, HL.out]; simp; omega
      case c4 => have := hb3.size; simp; omega
      intro v1 w1 hown1 hg _ _
      have hb1 : Below w.heap.size w w1 := (hb3.alloc hb3.size _).grown hg (by have := hb3.size; simp; omega) (own_ge hown3)
      clear hg
      go_wp2
      go_roundw
      case rel =>
        refine ⟨k + 1, by omega, by go_num, ?_, hb1⟩
        rw [Wd.unpackL_succ _ _ (by omega), nums_app, ← HXX.out, ← HY.out]
        exact own_n hown1 (by simp [nums, HL.out])
      case measure => simp [intOf]; omega
    · obtain rfl : k = m := by omega
      rcases own_form hown with ⟨A, c, rfl⟩
      go_wp2
      go_ret2
      exact ⟨_, rfl, by simpa using hown, hb⟩
theorem unpack_ok (v : Value) (ws : List Int) (n : Int) (w : World) (h : Rd w v (nums .u32 ws)) (hw : Wd.Words ws) (hn : 0 ≤ n ∧ n ≤ 4 * ws.length) (hlen : ws.length * 4 ≤ 140737488351232) :
    Calls Try.prog 17 #[v, .int .i64 n] w fun e W' => ∃ u, e = .returned (.tuple #[u, .int .i64 0]) ∧ W'.ownsRow w.heap.size 5 1 u n.toNat (nums .u8 (Wd.unpackL ws n.toNat)) ∧ Below w.heap.size w W' := by
  obtain ⟨A, c, rfl, b1, m1, -⟩ := id h
  rw [nums_len] at h b1
  rw [nums_len]
  have HR := Lib.hid h; have HX := Lib.hid hw; clear h hw
  unfold maxLen at m1
  obtain ⟨m, rfl⟩ := Int.eq_ofNat_of_zero_le hn.1
  have hm : m ≤ 4 * ws.length := by omega
  have hm2 : (m : Int) ≤ 4 * (ws.length : Int) := by omega
  have hm3 : ((m : Int) + 3) / 4 ≤ c := by omega
  have hm4 : (((m : Int) + 3) / 4).toNat = (m + 3) / 4 := by omega
  clear hn
  go_enter Try.func17, Try.ntmps17
  go_wp2
  go_loopw [6, 24] (fun b i wr => ∃ k : Nat, k ≤ (m + 3) / 4 ∧ i = .int .i64 k ∧ wr.ownsRow w.heap.size 5 1 b (4 * k) (nums .u8 (Wd.unpackK ws k)) ∧ Below w.heap.size w wr) (fun _ i _ => (m + 3) / 4 - (intOf i).toNat)
  case atStart => exact ⟨0, by omega, rfl, World.ownsRow_nil _ _ _ _, Below.refl _ _⟩
  case round =>
    obtain ⟨k, hk, rfl, hown, hb⟩ := hrel
    by_cases hlt : k < (m + 3) / 4
    · have hR := HR.out.below hb
      obtain ⟨ad, rfl, q1⟩ := rd_at hR k (by omega)
      have hx := HX.out.at_ k
      obtain ⟨x, hxx⟩ : ∃ x, x = ws.getD k 0 := ⟨_, rfl⟩
      rw [← hxx] at hx q1
      have HXX := Lib.hid hxx; clear hxx hR
      have hl := Wd.unpackK_len ws k (by omega)
      have HL := Lib.hid hl; clear hl
      have hk4 : (k : Int) < ((m + 3) / 4 : Nat) := by omega
      go_wp2_with (first | (go_at_call 24; refine (bytes_ok _ hx _).mono ?_; rintro e w2 ⟨rfl, rfl⟩) | (at_builtin; refine app_rd rfl _ _ 38 rfl w.heap.size 5 (.int .u8 0) 1 Try.underlying38 info_u8' rfl (by decide) _ (nums .u8 (Wd.unpackK ws k)) rfl ?c1 _ (nums .u8 (Wd.bytesL x)) rfl ?c2 (nums_one _ _) ?c3 ?c4 ?_))
      case c1 => rw [nums_len, HL.out]; exact hown.alloc _
      case c2 => exact Rd.new wr (nums .u8 (Wd.bytesL x)) 5 (by simp [nums, maxLen, Wd.bytesL])
      case c3 => rw [nums_len, nums_len, HL.out]; simp [Wd.bytesL]; omega
      case c4 => have := hb.size; simp; omega
      intro v1 w1 hown1 hg _ _
      have hb1 : Below w.heap.size w w1 := (hb.alloc hb.size _).grown hg (by have := hb.size; simp; omega) (own_ge hown)
      clear hg
      go_wp2
      go_roundw
      case rel =>
        refine ⟨k + 1, by omega, by go_num, ?_, hb1⟩
        rw [Wd.unpackK_succ _ _ (by omega), nums_app, ← HXX.out]
        exact own_n hown1 (by simp [nums, HL.out, Wd.bytesL]; omega)
      case measure => simp [intOf]; omega
    · have hkl : k = (m + 3) / 4 := by omega
      have hk4 : ¬ (k : Int) < ((m + 3) / 4 : Nat) := by omega
      have HK := Lib.hid hkl; clear hkl
      rcases own_form hown with ⟨A, c, rfl⟩
      obtain ⟨h1, h2, h3⟩ := rd_len (Rd.of_own hown)
      have h5 : m ≤ c := by omega
      clear h1
      go_wp2
      go_ret2
      refine ⟨_, rfl, ?_, hb⟩
      rw [Wd.unpackL, ← HK.out]
      show wr.ownsRow w.heap.size 5 1 (.slice A m c) m _
      have := own_take hown m (by omega)
      rwa [nums_take] at this
theorem unpack_no (v : Value) (ws : List Int) (n : Int) (w : World) (h : Rd w v (nums .u32 ws)) (hn : n < 0 ∨ 4 * ws.length < n) (hlen : ws.length * 4 ≤ 140737488351232) :
    Calls Try.prog 17 #[v, .int .i64 n] w fun e W' => e = .returned (.tuple #[.slice none 0 0, .int .i64 2]) ∧ w = W' := by
  obtain ⟨A, c, rfl, b1, m1, -⟩ := id h
  rw [nums_len] at h b1
  rw [nums_len]
  clear h
  unfold maxLen at m1
  by_cases hc : n < 0
  · clear hn
    go_enter Try.func17, Try.ntmps17
    go_wp2
    go_ret2
    exact ⟨rfl, rfl⟩
  · have h2 : 4 * (ws.length : Int) < n := by omega
    clear hn
    go_enter Try.func17, Try.ntmps17
    go_wp2
    go_ret2
    exact ⟨rfl, rfl⟩
theorem runpack_no (v : Value) (ws : List Int) (n : Int) (w : World) (h : Rd w v (nums .u32 ws)) (hn : n < 0 ∨ 4 * ws.length < n) (hlen : ws.length * 4 ≤ 140737488351232) :
    Calls Try.prog 18 #[v, .int .i64 n] w fun e W' => e = .returned (.tuple #[.slice none 0 0, .int .i64 2]) ∧ w = W' := by
  obtain ⟨A, c, rfl, b1, m1, -⟩ := id h
  rw [nums_len] at h b1
  rw [nums_len]
  clear h
  unfold maxLen at m1
  by_cases hc : n < 0
  · clear hn
    go_enter Try.func18, Try.ntmps18
    go_wp2
    go_ret2
    exact ⟨rfl, rfl⟩
  · have h2 : 4 * (ws.length : Int) < n := by omega
    clear hn
    go_enter Try.func18, Try.ntmps18
    go_wp2
    go_ret2
    exact ⟨rfl, rfl⟩
end Go.Proofs.Ytpcmfceoeflcoaa
