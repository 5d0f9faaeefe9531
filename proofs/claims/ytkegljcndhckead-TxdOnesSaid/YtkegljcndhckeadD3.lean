import Derived.Test.YtkegljcndhckeadWF
import Derived.Test.YtkegljcndhckeadD1
import Derived.Laws.ResultCell
namespace Go.Proofs.Ytkegljcndhckead
open Go.RowKit
set_option linter.unusedVariables false
theorem add0 (a : Addr) : a.add 0 = a := by
  obtain ⟨b, o, p⟩ := a
  unfold Addr.add
  split <;> simp_all
theorem addk (a : Addr) (k : Nat) (h : k ≠ 0) : a.add k = ⟨a.block, a.off + k, none⟩ := by
  unfold Addr.add
  simp [h]
theorem rd4 {w : World} {v : Value} {x0 x1 x2 x3 : Int} (h : Rd w v (nums .u32 [x0, x1, x2, x3])) : ∃ a c, v = .slice (some a) 4 c ∧ 4 ≤ c ∧ c ≤ maxLen ∧
    w.cell? a = some (.int .u32 x0) ∧ w.cell? ⟨a.block, a.off + 1, none⟩ = some (.int .u32 x1) ∧ w.cell? ⟨a.block, a.off + 2, none⟩ = some (.int .u32 x2) ∧ w.cell? ⟨a.block, a.off + 3, none⟩ = some (.int .u32 x3) := by
  obtain ⟨A, c, hv, h1, h2, h3⟩ := h
  obtain ⟨a, rfl, q0⟩ := h3 0 _ rfl
  obtain ⟨_, e1, q1⟩ := h3 1 _ rfl
  obtain ⟨_, e2, q2⟩ := h3 2 _ rfl
  obtain ⟨_, e3, q3⟩ := h3 3 _ rfl
  cases e1; cases e2; cases e3
  rw [add0] at q0
  rw [addk _ _ (by decide)] at q1 q2 q3
  exact ⟨a, c, hv, h1, h2, q0, q1, q2, q3⟩
theorem of_len (xs : List Int) (v : Value) (hl : xs.length ≠ 4) (w : World) (h : Rd w v (nums .u32 xs)) :
    Calls Try.prog 57 #[v] w fun e w' => e = .returned (.tuple #[.agg Ds.blank.cells.toArray, .int .i64 5]) ∧ Below w.heap.size w w' := by
  obtain ⟨A, c, rfl, h1, h2, h3⟩ := h
  rw [nums_len] at h1
  rw [nums_len]
  unfold maxLen at h2
  have hb : ((xs.length : Int) != 4) = true := by simp; omega
  have HL := Lib.hid hl
  clear h3 hl
  go_enter Try.func57, Try.ntmps57
  go_wp2
  (try simp only [Exit.inBlock, Exit.then])
  refine bodyPost_ret (v := .tuple #[.agg Ds.blank.cells.toArray, .int .i64 5]) ?hr rfl ⟨rfl, ?hb⟩
  case hr => rw [results_cell_tmp rfl]; go_simp; rfl
  case hb => exact (Below.refl _ w).alloc (Nat.le_refl _) _
theorem of_big (x0 x1 x2 x3 : Int) (v : Value) (h0 : 0 ≤ x0 ∧ x0 < 4294967296) (w : World) (h : Rd w v (nums .u32 [x0, x1, x2, x3])) (hc : 65535 < x2) :
    Calls Try.prog 57 #[v] w fun e w' => e = .returned (.tuple #[.agg Ds.blank.cells.toArray, .int .i64 5]) ∧ Below w.heap.size w w' := by
  obtain ⟨a, c, rfl, h1, h2, q0, q1, q2, q3⟩ := rd4 h
  have hlt := World.block_lt_of_cell? w _ q0
  clear h
  unfold maxLen at h2
  go_enter Try.func57, Try.ntmps57
  go_wp2
  (try simp only [Exit.inBlock, Exit.then])
  refine bodyPost_ret (v := .tuple #[.agg Ds.blank.cells.toArray, .int .i64 5]) ?hr rfl ⟨rfl, ?hb⟩
  case hr => rw [results_cell_tmp rfl]; go_simp; rfl
  case hb => exact (Below.refl _ w).alloc (Nat.le_refl _) _
theorem of_field (x0 x1 x2 x3 : Int) (v : Value) (h0 : 0 ≤ x0 ∧ x0 < 4294967296) (w : World) (h : Rd w v (nums .u32 [x0, x1, x2, x3])) (hc : x2 ≤ 65535) (hf : x0.toNat / 65536 % 2048 ≠ 0) :
    Calls Try.prog 57 #[v] w fun e w' => e = .returned (.tuple #[.agg Ds.blank.cells.toArray, .int .i64 5]) ∧ Below w.heap.size w w' := by
  obtain ⟨a, c, rfl, h1, h2, q0, q1, q2, q3⟩ := rd4 h
  have hlt := World.block_lt_of_cell? w _ q0
  have hfo := fun w => field_ok x0 16 11 h0 (by decide) w
  have he : Wd.fieldN x0.toNat 16 11 = x0.toNat / 65536 % 2048 := Wd.fieldN_eq x0.toNat 16 11 (by decide)
  obtain ⟨f, hff⟩ : ∃ f, ((Wd.fieldN x0.toNat (16 : Int).toNat (11 : Int).toNat : Nat) : Int) = f := ⟨_, rfl⟩
  have hb : (f != 0) = true := by
    rw [← hff]
    show (((Wd.fieldN x0.toNat 16 11 : Nat) : Int) != 0) = true
    rw [he]
    have : ((x0.toNat / 65536 % 2048 : Nat) : Int) ≠ 0 := by omega
    simpa using this
  rw [hff] at hfo
  have HF := Lib.hid hfo
  clear h he hff hf hfo
  unfold maxLen at h2
  go_enter Try.func57, Try.ntmps57
  go_wp2_with (go_at_call 60; refine (HF.out _).mono ?_; rintro e w' ⟨rfl, rfl⟩)
  (try simp only [Exit.inBlock, Exit.then])
  refine bodyPost_ret (v := .tuple #[.agg Ds.blank.cells.toArray, .int .i64 5]) ?hr rfl ⟨rfl, ?hb⟩
  case hr => rw [results_cell_tmp rfl]; go_simp; rfl
  case hb => exact (Below.refl _ w).alloc (Nat.le_refl _) _
theorem DescAt.setF {w : World} {b : Nat} {d : Ds.D} (h : DescAt w b d) (k : Nat) (hk : k < 5) (u : Bool) : DescAt (w.setCell ⟨b, k, none⟩ (.bool u)) b (Ds.setF d k u) := by
  unfold DescAt at *
  simp only [World.setCell, Array.getElem?_modify, h]
  rcases (show k = 0 ∨ k = 1 ∨ k = 2 ∨ k = 3 ∨ k = 4 by omega) with rfl | rfl | rfl | rfl | rfl <;> simp [Ds.setF, Ds.D.cells]
theorem flag_bits (x : Nat) (i : Nat) (hx : x < 4294967296) : (bits .and .u32 ((x : Int) / 2 ^ i) 1 == 1) = (x / 2 ^ i % 2 == 1) := by
  have h3 : x / 2 ^ i ≤ x := Nat.div_le_self _ _
  have e1 : ((x : Int) / 2 ^ i) = ((x / 2 ^ i : Nat) : Int) := by simp
  rw [e1, show (1 : Int) = ((1 : Nat) : Int) from rfl, u32_and_nat _ _ (by omega) (by decide), nat_mask1]
  by_cases h : x / 2 ^ i % 2 = 1
  · rw [h]; rfl
  · have : x / 2 ^ i % 2 = 0 := by omega
    rw [this]; rfl
theorem flag_lit (n p k : Nat) (hp : 2 ^ (31 - k) = p) (hn : n < 4294967296) : (bits .and .u32 ((n : Int) / ((p : Nat) : Int)) 1 == 1) = Ds.flagOf n k := by
  have := flag_bits n (31 - k) hn
  unfold Ds.flagOf
  rw [← this, ← hp]
  simp
theorem of_step {n : Nat} {x1 x2 x3 : Int} {k : Nat} {w wr : World} (hk : k < 5) (u : Bool) (hu : u = Ds.flagOf n k)
    (h : DescAt wr (w.heap.size + 1) (Ds.ofK n x1 x2 x3 k) ∧ DescAt wr w.heap.size Ds.blank ∧ Below w.heap.size w wr) :
    DescAt (wr.setCell ⟨w.heap.size + 1, k, none⟩ (.bool u)) (w.heap.size + 1) (Ds.ofK n x1 x2 x3 (k + 1)) ∧ DescAt (wr.setCell ⟨w.heap.size + 1, k, none⟩ (.bool u)) w.heap.size Ds.blank ∧ Below w.heap.size w (wr.setCell ⟨w.heap.size + 1, k, none⟩ (.bool u)) := by
  refine ⟨?_, ?_, ?_⟩
  · have := h.1.setF k hk u
    rw [hu] at this ⊢
    rwa [show Ds.flagOf n k = Ds.flagOf (n : Int).toNat k from rfl, Ds.ofK_succ _ _ _ _ _ hk] at this
  · unfold DescAt
    rw [Below.heap_setCell wr _ _ _ (by show w.heap.size ≠ w.heap.size + 1; omega)]
    exact h.2.1
  · exact ⟨h.2.2.os, h.2.2.tape, h.2.2.output, by simpa using h.2.2.size, fun i hi => (Below.heap_setCell wr _ _ _ (by show i ≠ w.heap.size + 1; omega)).trans (h.2.2.block i hi)⟩
/-- All nine cells are stored. -/
def put9 (w : World) (b : Nat) (d : Ds.D) : World := ((((((((w.setCell ⟨b, 0, none⟩ (.bool d.own)).setCell ⟨b, 1, none⟩ (.bool d.wrap)).setCell ⟨b, 2, none⟩ (.bool d.first)).setCell ⟨b, 3, none⟩ (.bool d.last)).setCell ⟨b, 4, none⟩ (.bool d.bad)).setCell ⟨b, 5, none⟩ (.int .i64 d.len)).setCell ⟨b, 6, none⟩ (.int .u32 d.at_)).setCell ⟨b, 7, none⟩ (.int .i64 d.size)).setCell ⟨b, 8, none⟩ (.int .u32 d.stamp)
theorem put9_at {w : World} {b : Nat} {e : Ds.D} (h : DescAt w b e) (d : Ds.D) : DescAt (put9 w b d) b d := by
  unfold DescAt at *
  simp only [put9, World.setCell, Array.getElem?_modify, h]
  simp [Ds.D.cells]
theorem below_set {w0 w : World} (h : Below w0.heap.size w0 w) (b i : Nat) (hb : w0.heap.size ≤ b) (u : Value) : Below w0.heap.size w0 (w.setCell ⟨b, i, none⟩ u) :=
  ⟨h.os, h.tape, h.output, by simpa using h.size, fun k hk => (Below.heap_setCell w ⟨b, i, none⟩ u k (by show k ≠ b; omega)).trans (h.block k hk)⟩
theorem put9_below {w0 w : World} {b : Nat} (h : Below w0.heap.size w0 w) (hb : w0.heap.size ≤ b) (d : Ds.D) : Below w0.heap.size w0 (put9 w b d) := (below_set (below_set (below_set (below_set (below_set (below_set (below_set (below_set (below_set h b 0 hb _) b 1 hb _) b 2 hb _) b 3 hb _) b 4 hb _) b 5 hb _) b 6 hb _) b 7 hb _) b 8 hb _)
theorem ret_desc {fn : Func} {p u : Tmp} {tmps : Array Value} {w : World} {d : Ds.D} {x : Value} (b : Nat) (h : fn.results = #[.cell p 54, .tmp u]) (hD : DescAt w b d) (hp : tmps.getD p undef = .pointer (some ⟨b, 0, none⟩)) (hx : tmps.getD u undef = x) :
    (results fn tmps).run Try.prog w = .ok (.tuple #[.agg d.cells.toArray, x]) w := by
  rw [results_cell_tmp h, hp, hx]
  simp [asAddr, run_loadVar_row w b 54 54 d.cells.toArray (0, 0) _ hD Try.underlying54 rfl (by kernel_rfl), Result.andThen]
set_option maxHeartbeats 1000000 in
theorem of_ok (x0 x1 x2 x3 : Int) (v : Value) (h0 : 0 ≤ x0 ∧ x0 < 4294967296) (h0' : 0 ≤ x2) (w : World) (h : Rd w v (nums .u32 [x0, x1, x2, x3])) (hc : x2 ≤ 65535) (hf : x0.toNat / 65536 % 2048 = 0) :
    Calls Try.prog 57 #[v] w fun e w' => e = .returned (.tuple #[.agg (Ds.ofD x0 x1 x2 x3).cells.toArray, .int .i64 0]) ∧ Below w.heap.size w w' := by
  obtain ⟨n, rfl⟩ := Int.eq_ofNat_of_zero_le h0.1
  have hn : n < 4294967296 := by omega
  obtain ⟨a, c, rfl, h1, h2, q0, q1, q2, q3⟩ := rd4 h
  have hlt := World.block_lt_of_cell? w _ q0
  have hfo := fun w => field_ok (n : Int) 16 11 h0 (by decide) w
  have he : Wd.fieldN (n : Int).toNat 16 11 = (n : Int).toNat / 65536 % 2048 := Wd.fieldN_eq (n : Int).toNat 16 11 (by decide)
  have hff : ((Wd.fieldN (n : Int).toNat (16 : Int).toNat (11 : Int).toNat : Nat) : Int) = 0 := by
    show ((Wd.fieldN (n : Int).toNat 16 11 : Nat) : Int) = 0
    rw [he, hf]
    rfl
  rw [hff] at hfo
  have hand : bits .and .u32 (n : Int) 65535 = (n : Int) % 65536 := by
    rw [show (65535 : Int) = ((65535 : Nat) : Int) from rfl, u32_and_nat _ _ hn (by decide), show n &&& 65535 = n % 65536 from Nat.and_two_pow_sub_one_eq_mod n 16]
    omega
  have hwr : wrap64 (bits .and .u32 (n : Int) 65535) = (n : Int) % 65536 := by
    rw [hand]; unfold wrap64; omega
  have HWR := Lib.hid hwr
  have HF := Lib.hid hfo
  have HQ := Lib.hid (And.intro q0 hlt)
  clear hand hwr
  clear h he hff hf hfo
  unfold maxLen at h2
  go_enter Try.func57, Try.ntmps57
  go_wp2_with (go_at_call 60; refine (HF.out _).mono ?_; rintro e w' ⟨rfl, rfl⟩)
  go_region
  all_goals rw [HWR.out]
  have hD := DescAt.new (w.alloc (.cells Ds.blank.cells.toArray 54)) (Ds.ofK n x1 x2 x3 0)
  rw [World.size_alloc] at hD
  have hfl := flags_ok (w.heap.size + 1) (Ds.ofK n x1 x2 x3 0) ((w.alloc (.cells Ds.blank.cells.toArray 54)).alloc (.cells (Ds.ofK n x1 x2 x3 0).cells.toArray 54)).drew hD
  have hbl := Lib.hid ((((DescAt.new w Ds.blank).below ((Below.refl _ _).alloc (Nat.le_refl _) (.cells (Ds.ofK n x1 x2 x3 0).cells.toArray 54)))).below ((Below.refl _ _).drew))
  have hB := Lib.hid ((((Below.refl _ w).alloc (Nat.le_refl _) (.cells Ds.blank.cells.toArray 54)).alloc (by simp) (.cells (Ds.ofK n x1 x2 x3 0).cells.toArray 54)).drew)
  have hD' := Lib.hid (show DescAt ((w.alloc (.cells Ds.blank.cells.toArray 54)).alloc (.cells (Ds.ofK n x1 x2 x3 0).cells.toArray 54)).drew (w.heap.size + 1) (Ds.ofK n x1 x2 x3 0) from hD)
  clear hD q0 q1 q2 q3
  all_goals go_wp2_with fail
  refine hfl.mono ?_
  rintro e w3 ⟨rfl, hb3⟩
  have HD3 := Lib.hid (hD'.out.below hb3)
  have HBL3 := Lib.hid (hbl.out.below hb3)
  have HB3 := Lib.hid (hB.out.trans (hb3.mono (by simp; omega)))
  clear hfl hbl hB hD' hb3
  simp only [fptrs]
  have i0 := ix0 (w.heap.size + 1); have i1 := ix1 (w.heap.size + 1); have i2 := ix2 (w.heap.size + 1); have i3 := ix3 (w.heap.size + 1); have i4 := ix4 (w.heap.size + 1)
  go_wp2_with fail
  go_loopw [46] (fun i wr => ∃ k : Nat, k ≤ 5 ∧ i = .int .i64 k ∧ Hid (DescAt wr (w.heap.size + 1) (Ds.ofK n x1 x2 x3 k) ∧ DescAt wr w.heap.size Ds.blank ∧ Below w.heap.size w wr)) (fun i _ => 5 - (intOf i).toNat)
  case atStart => exact ⟨0, by omega, rfl, Lib.hid ⟨HD3.out, HBL3.out, HB3.out⟩⟩
  case round =>
    obtain ⟨k, hk, rfl, HS⟩ := hrel
    have p0 := below_cell HS.out.2.2 HQ.out.1
    obtain ⟨c0, c1, c2, c3, c4, c5, c6, c7, c8⟩ := desc_cells HS.out.1
    have f0 := desc_frees HS.out.1
    rcases (show k = 0 ∨ k = 1 ∨ k = 2 ∨ k = 3 ∨ k = 4 ∨ k = 5 by omega) with rfl | rfl | rfl | rfl | rfl | rfl
    · go_wp2
      go_roundw
      case rel => exact ⟨1, by omega, rfl, Lib.hid (of_step (k := 0) (by omega) _ (flag_lit n 2147483648 0 rfl hn) HS.out)⟩
      case measure => simp [intOf]
    · go_wp2
      go_roundw
      case rel => exact ⟨2, by omega, rfl, Lib.hid (of_step (k := 1) (by omega) _ (flag_lit n 1073741824 1 rfl hn) HS.out)⟩
      case measure => simp [intOf]
    · go_wp2
      go_roundw
      case rel => exact ⟨3, by omega, rfl, Lib.hid (of_step (k := 2) (by omega) _ (flag_lit n 536870912 2 rfl hn) HS.out)⟩
      case measure => simp [intOf]
    · go_wp2
      go_roundw
      case rel => exact ⟨4, by omega, rfl, Lib.hid (of_step (k := 3) (by omega) _ (flag_lit n 268435456 3 rfl hn) HS.out)⟩
      case measure => simp [intOf]
    · go_wp2
      go_roundw
      case rel => exact ⟨5, by omega, rfl, Lib.hid (of_step (k := 4) (by omega) _ (flag_lit n 134217728 4 rfl hn) HS.out)⟩
      case measure => simp [intOf]
    · obtain ⟨e0, e1, e2, e3, e4, e5, e6, e7, e8⟩ := desc_cells HS.out.2.1
      have f1 := desc_frees HS.out.2.1
      go_wp2
      (try simp only [Exit.inBlock, Exit.then])
      refine bodyPost_ret (v := .tuple #[.agg (Ds.ofD n x1 x2 x3).cells.toArray, .int .i64 0]) ?hr rfl ⟨rfl, ?hb⟩
      case hr => exact ret_desc w.heap.size rfl (put9_at HS.out.2.1 (Ds.ofD n x1 x2 x3)) rfl rfl
      case hb => exact put9_below HS.out.2.2 (Nat.le_refl _) (Ds.ofD n x1 x2 x3)
end Go.Proofs.Ytkegljcndhckead
