import Derived.Test.YtkegljcndhckeadD8
import Derived.Test.YtkegljcndhckeadTPure
import Derived.Test.YtkegljcndhckeadRM3
import Derived.Test.YtkegljcndhckeadRM4
import Derived.Laws.EntriesVeiled
namespace Go.Proofs.Ytkegljcndhckead
open Go.RowKit
set_option linter.unusedVariables false
def ecells (p : Nat) (e : Tx.E) (fv : Value) : List Value :=
  [.pointer (some ⟨p, 0, none⟩), .int .u32 e.base, .int .u32 e.at_, .int .i64 e.state, .int .i64 e.phase, .bool e.d.own, .bool e.d.wrap, .bool e.d.first, .bool e.d.last, .bool e.d.bad, .int .i64 e.d.len, .int .u32 e.d.at_, .int .i64 e.d.size, .int .u32 e.d.stamp,
    .int .i64 e.got, .bool e.inner, fv, .int .u32 e.time]
/-- The engine e at block q, its frame the slice fv; its memory R at p, of the blocks F. -/
structure SysF (w : World) (p q : Nat) (F : List Nat) (fv : Value) (e : Tx.E) (R : Rm.Ram) : Prop where
  ram : RamAt w p F R
  raw : w.heap[q]? = some (.cells (ecells p e fv).toArray 82 (0, 0))
  own : w.ownsRow 0 5 1 fv e.frame.length (nums .u8 e.frame)
  qF : q ∉ F
  fF : ∀ b, fv.ownBlock = some b → b ∉ F
/-- The blocks of both. -/
def blks (q : Nat) (F : List Nat) (fv : Value) : List Nat := F ++ q :: fv.ownBlock.toList
def Goes (p q : Nat) (F : List Nat) (fv : Value) (w : World) (e : Tx.E) (R : Rm.Ram) (w' : World) : Prop :=
  ∃ F' fv', SysF w' p q F' fv' e R ∧ Mv (blks q F fv) (blks q F' fv') w w'
theorem SysF.lt {w : World} {p q : Nat} {F : List Nat} {fv : Value} {e : Tx.E} {R : Rm.Ram} (h : SysF w p q F fv e R) : q < w.heap.size := lt_of_heap h.raw
theorem SysF.frame_ne {w : World} {p q : Nat} {F : List Nat} {fv : Value} {e : Tx.E} {R : Rm.Ram} (h : SysF w p q F fv e R) : ∀ g, fv.ownBlock = some g → g ≠ q := fun g hg e' => by
  subst e'
  rcases h.own.2 with ⟨hv, _⟩ | ⟨g', cap, cur, hv, _, hh, _⟩
  · subst hv; simp [Value.ownBlock] at hg
  · subst hv
    simp [Value.ownBlock] at hg
    subst hg
    rw [h.raw] at hh
    simp at hh
theorem SysF.ram_mv {w w' : World} {p q : Nat} {F F' : List Nat} {fv : Value} {e : Tx.E} {R R' : Rm.Ram} (h : SysF w p q F fv e R) (hR : RamAt w' p F' R') (hM : Mv F F' w w') : SysF w' p q F' fv e R' := by
  refine ⟨hR, (hM.block q h.lt h.qF).trans h.raw, own_mv h.own hM h.fF, fun hq => ?_, fun b hb hin => ?_⟩
  · rcases hM.new q hq with h' | h'
    · exact h.qF h'
    · have := h.lt; omega
  · rcases hM.new b hin with h' | h'
    · exact h.fF b hb h'
    · have := (h.own.lt b hb).2; omega
theorem SysF.below {w w' : World} {p q : Nat} {F : List Nat} {fv : Value} {e : Tx.E} {R : Rm.Ram} (h : SysF w p q F fv e R) (hb : Below w.heap.size w w') : SysF w' p q F fv e R := h.ram_mv (h.ram.below hb) (Mv.of_below hb)
theorem SysF.drew {w : World} {p q : Nat} {F : List Nat} {fv : Value} {e : Tx.E} {R : Rm.Ram} (h : SysF w p q F fv e R) : SysF w.drew p q F fv e R := h.below (Below.refl _ _).drew
theorem SysF.drewN {w : World} {p q : Nat} {F : List Nat} {fv : Value} {e : Tx.E} {R : Rm.Ram} (h : SysF w p q F fv e R) (n : Nat) : SysF (w.drewN n) p q F fv e R := h.below (below_drewN (Below.refl _ _) n)
/-- A cell of the engine becomes another one. -/
theorem SysF.set {w : World} {p q : Nat} {F : List Nat} {fv : Value} {e : Tx.E} {R : Rm.Ram} (h : SysF w p q F fv e R) (i : Nat) (u : Value) (e' : Tx.E) (hc : (ecells p e fv).toArray.setIfInBounds i u = (ecells p e' fv).toArray) (hf : e'.frame = e.frame) :
    SysF (w.setCell ⟨q, i, none⟩ u) p q F fv e' R := by
  refine ⟨h.ram.keep_of fun b hb => far_heap (fun e => h.qF (by rw [← e]; exact hb)) _ _, ?_, ?_, h.qF, h.fF⟩
  · rw [set_heap h.raw, hc]
  · rw [hf]
    exact own_keep h.own fun g hg => far_heap (h.frame_ne g hg) _ _
theorem Mv.set_in {F F' : List Nat} {a c : World} {q : Nat} (h : Mv F F' a c) (hq : q ∈ F) (i : Nat) (u : Value) : Mv F F' a (c.setCell ⟨q, i, none⟩ u) :=
  ⟨h.os, h.tape, h.output, by simpa using h.size, fun k hk hn => (far_heap (fun e => hn (by rw [e]; exact hq)) i u).trans (h.block k hk hn), h.new⟩
theorem Mv.drew {F F' : List Nat} {a c : World} (h : Mv F F' a c) : Mv F F' a c.drew := ⟨h.os, h.tape, h.output, h.size, h.block, h.new⟩
theorem Mv.drewN {F F' : List Nat} {a c : World} (h : Mv F F' a c) (n : Nat) : Mv F F' a (c.drewN n) := ⟨h.os, h.tape, h.output, h.size, h.block, h.new⟩
theorem q_in (q : Nat) (F : List Nat) (fv : Value) : q ∈ blks q F fv := by simp [blks]
/-- Only the memory has turned. -/
theorem Mv.wide {w w' : World} {q : Nat} {F F' : List Nat} {fv : Value} (h : Mv F F' w w') : Mv (blks q F fv) (blks q F' fv) w w' :=
  ⟨h.os, h.tape, h.output, h.size, fun k hk hn => h.block k hk (fun e => hn (by simp [blks]; exact .inl e)), fun b hb => by
    simp only [blks, List.mem_append] at hb ⊢
    rcases hb with hb | hb
    · rcases h.new b hb with h' | h'
      · exact .inl (.inl h')
      · exact .inr h'
    · exact .inl (.inr hb)⟩
theorem eng_cells {w : World} {p q : Nat} {F : List Nat} {fv : Value} {e : Tx.E} {R : Rm.Ram} (h : SysF w p q F fv e R) :
    w.cell? ⟨q, 0, none⟩ = some (.pointer (some ⟨p, 0, none⟩)) ∧ w.cell? ⟨q, 1, none⟩ = some (.int .u32 e.base) ∧ w.cell? ⟨q, 2, none⟩ = some (.int .u32 e.at_) ∧ w.cell? ⟨q, 3, none⟩ = some (.int .i64 e.state) ∧ w.cell? ⟨q, 4, none⟩ = some (.int .i64 e.phase) ∧
    w.cell? ⟨q, 5, none⟩ = some (.bool e.d.own) ∧ w.cell? ⟨q, 6, none⟩ = some (.bool e.d.wrap) ∧ w.cell? ⟨q, 7, none⟩ = some (.bool e.d.first) ∧ w.cell? ⟨q, 8, none⟩ = some (.bool e.d.last) ∧ w.cell? ⟨q, 9, none⟩ = some (.bool e.d.bad) ∧
    w.cell? ⟨q, 10, none⟩ = some (.int .i64 e.d.len) ∧ w.cell? ⟨q, 11, none⟩ = some (.int .u32 e.d.at_) ∧ w.cell? ⟨q, 12, none⟩ = some (.int .i64 e.d.size) ∧ w.cell? ⟨q, 13, none⟩ = some (.int .u32 e.d.stamp) ∧
    w.cell? ⟨q, 14, none⟩ = some (.int .i64 e.got) ∧ w.cell? ⟨q, 15, none⟩ = some (.bool e.inner) ∧ w.cell? ⟨q, 16, none⟩ = some fv ∧ w.cell? ⟨q, 17, none⟩ = some (.int .u32 e.time) :=
  ⟨(cell_heap h.raw 0).trans rfl, (cell_heap h.raw 1).trans rfl, (cell_heap h.raw 2).trans rfl, (cell_heap h.raw 3).trans rfl, (cell_heap h.raw 4).trans rfl, (cell_heap h.raw 5).trans rfl, (cell_heap h.raw 6).trans rfl, (cell_heap h.raw 7).trans rfl, (cell_heap h.raw 8).trans rfl,
    (cell_heap h.raw 9).trans rfl, (cell_heap h.raw 10).trans rfl, (cell_heap h.raw 11).trans rfl, (cell_heap h.raw 12).trans rfl, (cell_heap h.raw 13).trans rfl, (cell_heap h.raw 14).trans rfl, (cell_heap h.raw 15).trans rfl, (cell_heap h.raw 16).trans rfl, (cell_heap h.raw 17).trans rfl⟩
theorem eng_free {w : World} {p q : Nat} {F : List Nat} {fv : Value} {e : Tx.E} {R : Rm.Ram} (h : SysF w p q F fv e R) (i : Nat) : w.frozen? ⟨q, i, none⟩ = false := free_heap h.raw i
theorem eread_ok (p q : Nat) (F : List Nat) (fv : Value) (e : Tx.E) (R : Rm.Ram) (a : Int) (ha : 0 ≤ a ∧ a < 4294967296) (w : World) (h : SysF w p q F fv e R) (hl : R.log.length < 1000000000) :
    Calls Try.prog 59 #[.pointer (some ⟨q, 0, none⟩), .int .u32 a] w fun r w' => r = .returned (.tuple #[.int .u32 (Rm.rdV R a), .bool (Rm.is R a)]) ∧ ∃ F', SysF w' p q F' fv e (Rm.read R 2 a) ∧ Mv F F' w w' := by
  obtain ⟨c0, -⟩ := eng_cells h
  have RD := Lib.hid (read_ok p F R 2 a ha w h.ram hl)
  have HS := Lib.hid h
  have hE : (Rm.rdE R a = 0 ∧ Rm.is R a = true) ∨ (Rm.rdE R a = 7 ∧ Rm.is R a = false) := by unfold Rm.rdE; cases Rm.is R a <;> simp
  obtain ⟨E, hEE⟩ : ∃ E, Rm.rdE R a = E := ⟨_, rfl⟩
  obtain ⟨b, hb⟩ : ∃ b, Rm.is R a = b := ⟨_, rfl⟩
  rw [hEE] at RD hE
  rw [hb] at hE
  rw [hb]
  clear h hEE hb ha
  rcases hE with ⟨rfl, rfl⟩ | ⟨rfl, rfl⟩
  · go_enter Try.func59, Try.ntmps59
    go_wp2_with (go_at_call 56; refine RD.out.mono ?_; rintro r w1 ⟨rfl, F1, hR, hM⟩)
    go_ret2
    exact ⟨rfl, F1, HS.out.ram_mv hR hM, hM⟩
  · go_enter Try.func59, Try.ntmps59
    go_wp2_with (go_at_call 56; refine RD.out.mono ?_; rintro r w1 ⟨rfl, F1, hR, hM⟩)
    go_ret2
    exact ⟨rfl, F1, HS.out.ram_mv hR hM, hM⟩
theorem ewrite_ok (p q : Nat) (F : List Nat) (fv : Value) (e : Tx.E) (R : Rm.Ram) (a v : Int) (ha : 0 ≤ a ∧ a < 4294967296) (hv : 0 ≤ v ∧ v < 4294967296) (w : World) (h : SysF w p q F fv e R) (hl : R.log.length < 1000000000) :
    Calls Try.prog 62 #[.pointer (some ⟨q, 0, none⟩), .int .u32 a, .int .u32 v] w fun r w' => r = .returned (.bool (Rm.is R a)) ∧ ∃ F', SysF w' p q F' fv e (Rm.write R 2 a v) ∧ Mv F F' w w' := by
  obtain ⟨c0, -⟩ := eng_cells h
  have RD := Lib.hid (write_ok p F R 2 a v ha hv w h.ram hl)
  have HS := Lib.hid h
  have hE : (Rm.rdE R a = 0 ∧ Rm.is R a = true) ∨ (Rm.rdE R a = 7 ∧ Rm.is R a = false) := by unfold Rm.rdE; cases Rm.is R a <;> simp
  obtain ⟨E, hEE⟩ : ∃ E, Rm.rdE R a = E := ⟨_, rfl⟩
  obtain ⟨b, hb⟩ : ∃ b, Rm.is R a = b := ⟨_, rfl⟩
  rw [hEE] at RD hE
  rw [hb] at hE
  rw [hb]
  clear h hEE hb ha hv
  rcases hE with ⟨rfl, rfl⟩ | ⟨rfl, rfl⟩
  · go_enter Try.func62, Try.ntmps62
    go_wp2_with (go_at_call 18; refine RD.out.mono ?_; rintro r w1 ⟨rfl, F1, hR, hM⟩)
    go_ret
    exact ⟨rfl, F1, HS.out.ram_mv hR hM, hM⟩
  · go_enter Try.func62, Try.ntmps62
    go_wp2_with (go_at_call 18; refine RD.out.mono ?_; rintro r w1 ⟨rfl, F1, hR, hM⟩)
    go_ret
    exact ⟨rfl, F1, HS.out.ram_mv hR hM, hM⟩
def putD (w : World) (q : Nat) (d : Ds.D) : World := (((((((((w.setCell ⟨q, 5, none⟩ (.bool d.own)).setCell ⟨q, 6, none⟩ (.bool d.wrap)).setCell ⟨q, 7, none⟩ (.bool d.first)).setCell ⟨q, 8, none⟩ (.bool d.last)).setCell ⟨q, 9, none⟩ (.bool d.bad)).setCell ⟨q, 10, none⟩ (.int .i64 d.len)).setCell ⟨q, 11, none⟩ (.int .u32 d.at_)).setCell ⟨q, 12, none⟩ (.int .i64 d.size)).setCell ⟨q, 13, none⟩ (.int .u32 d.stamp))
theorem SysF.setD {w : World} {p q : Nat} {F : List Nat} {fv : Value} {e : Tx.E} {R : Rm.Ram} (h : SysF w p q F fv e R) (d : Ds.D) : SysF (putD w q d) p q F fv { e with d := d } R := (((((((((h.set 5 (.bool d.own) { e with d := { e.d with own := d.own } } rfl rfl).set 6 (.bool d.wrap) { e with d := { e.d with own := d.own, wrap := d.wrap } } rfl rfl).set 7 (.bool d.first) { e with d := { e.d with own := d.own, wrap := d.wrap, first := d.first } } rfl rfl).set 8 (.bool d.last) { e with d := { e.d with own := d.own, wrap := d.wrap, first := d.first, last := d.last } } rfl rfl).set 9 (.bool d.bad) { e with d := { e.d with own := d.own, wrap := d.wrap, first := d.first, last := d.last, bad := d.bad } } rfl rfl).set 10 (.int .i64 d.len) { e with d := { e.d with own := d.own, wrap := d.wrap, first := d.first, last := d.last, bad := d.bad, len := d.len } } rfl rfl).set 11 (.int .u32 d.at_) { e with d := { e.d with own := d.own, wrap := d.wrap, first := d.first, last := d.last, bad := d.bad, len := d.len, at_ := d.at_ } } rfl rfl).set 12 (.int .i64 d.size) { e with d := { e.d with own := d.own, wrap := d.wrap, first := d.first, last := d.last, bad := d.bad, len := d.len, at_ := d.at_, size := d.size } } rfl rfl).set 13 (.int .u32 d.stamp) { e with d := d } rfl rfl)
theorem Mv.setD {F F' : List Nat} {a c : World} {q : Nat} (h : Mv F F' a c) (hq : q ∈ F) (d : Ds.D) : Mv F F' a (putD c q d) := (((((((((h.set_in hq 5 (.bool d.own)).set_in hq 6 (.bool d.wrap)).set_in hq 7 (.bool d.first)).set_in hq 8 (.bool d.last)).set_in hq 9 (.bool d.bad)).set_in hq 10 (.int .i64 d.len)).set_in hq 11 (.int .u32 d.at_)).set_in hq 12 (.int .i64 d.size)).set_in hq 13 (.int .u32 d.stamp))
end Go.Proofs.Ytkegljcndhckead
