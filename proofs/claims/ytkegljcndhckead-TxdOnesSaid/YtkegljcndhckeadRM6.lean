import Derived.Test.YtkegljcndhckeadRM3
import Derived.Test.YtkegljcndhckeadRM4
import Derived.Laws.CopyOwn
import Derived.Laws.MakeOwn
namespace Go.Proofs.Ytkegljcndhckead
open Go.RowKit
set_option linter.unusedVariables false
/-! ### Keep, Dump, Log -/
theorem keep_nil (on : Bool) (w : World) : Calls Try.prog 20 #[.pointer none, .bool on] w fun e w' => e = .returned (.tuple #[]) ∧ w = w' := by
  go_enter Try.func20, Try.ntmps20
  go_wp2
  go_end0
  exact ⟨rfl, rfl⟩
theorem keep_ok (p : Nat) (F : List Nat) (R : Rm.Ram) (on : Bool) (w : World) (h : RamAt w p F R) :
    Calls Try.prog 20 #[.pointer (some ⟨p, 0, none⟩), .bool on] w fun e w' => e = .returned (.tuple #[]) ∧ ∃ F', RamAt w' p F' (Rm.keep R on) ∧ Mv F F' w w' := by
  obtain ⟨pw, lv, h1, h2, h3, hF, h5, h6⟩ := h
  have hplt := lt_of_heap h1
  have hc1 := cell_heap h1 1
  have hc2 := cell_heap h1 2
  have hf1 := free_heap h1 1
  have hf2 := free_heap h1 2
  simp at hc1 hc2
  have hpp : pw ≠ p := fun e => by subst e; rw [h1] at h2; simp at h2
  obtain ⟨A, c, rfl⟩ := own_form h3
  have w2p : ((w.setCell ⟨p, 2, none⟩ (.bool on)).setCell ⟨p, 1, none⟩ (.slice none 0 0)).heap[p]? = some (.cells #[.slice (some ⟨pw, 0, none⟩) R.ws.length R.ws.length, .slice none 0 0, .bool on] 85 (0, 0)) := by
    rw [set_heap (set_heap h1 2 (.bool on)) 1]; simp
  have hfin : RamAt ((w.setCell ⟨p, 2, none⟩ (.bool on)).setCell ⟨p, 1, none⟩ (.slice none 0 0)) p [p, pw] (Rm.keep R on) :=
    ⟨pw, .slice none 0 0, w2p, by rw [far_heap hpp, far_heap hpp]; exact h2, World.ownsRow_nil _ _ _ _, rfl, h5, h6⟩
  have hmv : Mv F [p, pw] w ((w.setCell ⟨p, 2, none⟩ (.bool on)).setCell ⟨p, 1, none⟩ (.slice none 0 0)) := by
    refine ⟨rfl, rfl, rfl, by simp, ?_, ?_⟩
    · intro k hk hn
      rw [hF] at hn
      simp at hn
      rw [far_heap hn.1, far_heap hn.1]
    · intro b hb
      rw [hF]
      simp at hb
      rcases hb with rfl | rfl <;> exact .inl (by simp)
  have HF := Lib.hid hfin
  have HM := Lib.hid hmv
  clear hfin hmv w2p h1 h2 h3 hF
  go_enter Try.func20, Try.ntmps20
  go_wp2
  go_end0
  exact ⟨rfl, _, HF.out, HM.out⟩
/-- A row's cells are copied into a new one, S cells an element. -/
theorem wpList_copy_rows {P : Program} {w : World} {ops : Array Oper} {rest : List Oper} {o : Oper} {a : Act} {Q : Exit → Act → World → Prop} (hgd : o.guard = none) (d s : Operand) (dT sT : TypeId)
    (ho : o.op = .call { callee := .builtin .copy, args := #[d, s], argTypes := #[dT, sT] }) (elem : TypeId) (hu : P.underlying dT = some (.slice elem)) (S : Nat) (hsz : (P.info? elem).map (·.size) = some S)
    (g n dCap sLen sCap : Nat) (sp : Option Addr) (hd : a.eval d = .slice (some ⟨g, 0, none⟩) n dCap) (hs : a.eval s = .slice sp sLen sCap) (hsn : n ≤ sLen)
    (cur : Array Value) (t : TypeId) (hg : w.heap[g]? = some (.cells cur t (0, 0))) (hcur : cur.size = n * S) (cs : List Value) (hn : cs.length = n * S)
    (hnil : sp = none → n = 0) (hsrc : ∀ ad, sp = some ad → ∀ j v, cs[j]? = some v → w.cell? (ad.add j) = some v) (h1 : ∀ v ∈ cs, v.oneCell' = true)
    (h : wpList P ops Q rest (a.put o.dst (goInt n)) (w.setRow g cs.toArray)) : wpList P ops Q (o :: rest) a w := by
  refine wpList_plain hgd fun K hK => ?_
  have hrun : (Builtin.copy_ #[dT, sT] o.type #[.slice (some ⟨g, 0, none⟩) n dCap, .slice sp sLen sCap]).run P w = .ok (goInt n) (w.setRow g cs.toArray) := by
    have hm : Nat.min sLen n = n := Nat.min_eq_right hsn
    cases hq : P.info? elem with
    | none => simp [hq] at hsz
    | some i =>
      have hi : i.size = S := by simpa [hq] using hsz
      cases sp with
      | none =>
        obtain rfl := hnil rfl
        obtain rfl : cs = [] := List.eq_nil_of_length_eq_zero (by omega)
        have : cur = #[] := Array.eq_empty_of_size_eq_zero (by omega)
        subst this
        have hrow := setRow_self w g _ t _ hg
        simp [Builtin.copy_, run_underlying hu, Builtin.lenOf, Builtin.firstCells, sizeOf, typeInfo, hq, hi, storeCells, hrow]
      | some ad =>
        have hl := run_loadCells_list (P := P) w ad cs (hsrc ad rfl)
        have hst := run_storeCells_at P g 0 t cs 0 cur w hg (by simp [hn, hcur]) h1
        have he : (cur.toList.take (0 + 0) ++ cs ++ cur.toList.drop (0 + 0 + cs.length)).toArray = cs.toArray := by
          rw [List.drop_eq_nil_of_le (by simp [hn, hcur])]; simp
        rw [he] at hst
        simp [Builtin.copy_, run_underlying hu, Builtin.lenOf, Builtin.firstCells, sizeOf, typeInfo, hq, hi, hm, ← hn, hl, hst]
  unfold Oper.wp
  simp [execOp, ho, resolve, invoke, builtin, hd, hs, hrun, Result.andThen]
  exact hK _ _ h
theorem log_nil (w : World) : Calls Try.prog 21 #[.pointer none] w fun e w' => e = .returned (.slice none 0 0) ∧ w = w' := by
  go_enter Try.func21, Try.ntmps21
  go_wp2
  go_ret
  exact ⟨rfl, rfl⟩
theorem accs_one (l : List Rm.Acc) : ∀ u ∈ accs l, u.oneCell' = true := by
  intro u hu
  simp only [accs, List.mem_flatMap] at hu
  obtain ⟨x, _, hx⟩ := hu
  simp [Rm.Acc.cells] at hx
  rcases hx with rfl | rfl | rfl | rfl | rfl <;> rfl
set_option maxRecDepth 20000 in
theorem log_ok (p : Nat) (F : List Nat) (R : Rm.Ram) (w : World) (h : RamAt w p F R) (hl : R.log.length < 1000000000) :
    Calls Try.prog 21 #[.pointer (some ⟨p, 0, none⟩)] w fun e w' => e = .returned (.slice (some ⟨w.heap.size, 0, none⟩) R.log.length R.log.length) ∧
      w'.heap[w.heap.size]? = some (.cells (accs R.log).toArray 43 (0, 0)) ∧ Below w.heap.size w w' := by
  obtain ⟨pw, lv, h1, h2, h3, hF, h5, h6⟩ := h
  obtain ⟨i0, hi, hz0, hz1, hz2⟩ := info_parts info_acc
  have hplt := lt_of_heap h1
  have hc1 := cell_heap h1 1
  simp at hc1
  obtain ⟨A, c, rfl⟩ := own_form h3
  have hmk : ∀ w, (Instr.makeSlice 40 (.int .i64 (R.log.length : Int)) (.int .i64 (R.log.length : Int))).run Try.prog w = .ok (.slice (some ⟨w.heap.size, 0, none⟩) R.log.length R.log.length) (w.alloc (.cells (madeCells #[.int .i64 0, .bool false, .int .u32 0, .int .u32 0, .int .i64 0] (R.log.length * 5)) 43)) := fun w => by
    have := run_make (P := Try.prog) w 40 43 i0 _ Try.underlying40 hi hz0 .i64 .i64 (R.log.length : Int) (R.log.length : Int) (by omega) (by omega) (by rw [hz2]; omega) (by omega)
    rw [hz1, Int.toNat_natCast] at this
    exact this
  have hw1 : (w.alloc (.cells (madeCells #[.int .i64 0, .bool false, .int .u32 0, .int .u32 0, .int .i64 0] (R.log.length * 5)) 43)).heap[w.heap.size]? = some (.cells (madeCells #[.int .i64 0, .bool false, .int .u32 0, .int .u32 0, .int .i64 0] (R.log.length * 5)) 43 (0, 0)) := heap_alloc_new w _
  have hnil : A = none → R.log.length = 0 := fun e => by
    rcases h3.2 with ⟨_, h⟩ | ⟨g, cap, cur, hv, _⟩
    · exact h
    · injection hv with ha; rw [e] at ha; cases ha
  have hsrc : ∀ ad, A = some ad → ∀ j v, (accs R.log)[j]? = some v → (w.alloc (.cells (madeCells #[.int .i64 0, .bool false, .int .u32 0, .int .u32 0, .int .i64 0] (R.log.length * 5)) 43)).cell? (ad.add j) = some v := fun ad ha j v hv => by
    rcases h3.2 with ⟨h, h0⟩ | ⟨g, cap, cur, hv', _⟩
    · injection h with h; rw [ha] at h; cases h
    · injection hv' with ha' _ hcc
      rw [ha] at ha'; injection ha' with ha'
      subst ha' hcc
      have := h3.cells (g := g) (by rw [ha]; rfl) j v hv
      exact below_cell ((Below.refl _ w).alloc (Nat.le_refl _) _) this
  have hlen : (accs R.log).length = R.log.length * 5 := accs_len _
  have hone := accs_one R.log
  obtain ⟨cs, hcs⟩ : ∃ cs, accs R.log = cs := ⟨_, rfl⟩
  obtain ⟨n, hn⟩ : ∃ n, R.log.length = n := ⟨_, rfl⟩
  rw [hcs]
  rw [hcs, hn] at hlen
  rw [hcs] at hone hsrc
  rw [hn] at hmk hw1 hnil hsrc hc1 hl
  rw [hn]
  have hmks : (madeCells #[.int .i64 0, .bool false, .int .u32 0, .int .u32 0, .int .i64 0] (n * 5)).size = n * 5 := size_madeCells _ _
  have hend := Lib.hid (setRow_heap _ _ _ cs.toArray _ _ hw1)
  have hbel := Lib.hid (below_setRow (((Below.refl _ w).alloc (Nat.le_refl _) (.cells (madeCells #[.int .i64 0, .bool false, .int .u32 0, .int .u32 0, .int .i64 0] (n * 5)) 43))) (Nat.le_refl _) cs.toArray)
  have HW := Lib.hid hw1; have HN := Lib.hid hnil; have HS := Lib.hid hsrc; have HL := Lib.hid hlen; have HO := Lib.hid hone; have HMS := Lib.hid hmks
  clear hw1 hnil hsrc hlen hone h1 h2 h3 hF h5 h6 hcs hn hmks hi hz0 hz1 hz2
  go_enter Try.func21, Try.ntmps21
  go_wp2_with (refine wpList_copy_rows rfl (.tmp 12) (.tmp 16) 40 40 rfl 43 Try.underlying40 5 (by kernel_rfl) w.heap.size n n n c A rfl rfl (Nat.le_refl _) _ _ HW.out HMS.out cs HL.out HN.out HS.out HO.out ?_)
  go_ret
  exact ⟨rfl, hend.out, hbel.out⟩
end Go.Proofs.Ytkegljcndhckead
