import Derived.Test.YtkegljcndhckeacMm
import Derived.Test.YtkegljcndhckeacMPure
import Derived.Deep.RegionLaw
import Derived.Laws.EntriesVeiled
namespace Go.Proofs.Ytkegljcndhckeac
open Go.RowKit
set_option linter.unusedVariables false
/-! ### What may have turned: the blocks of F, and what is new -/
structure Mv (F F' : List Nat) (w w' : World) : Prop where
  os : w'.os = w.os
  tape : w'.tape = w.tape
  output : w'.output = w.output
  size : w.heap.size ≤ w'.heap.size
  block : ∀ k, k < w.heap.size → k ∉ F → w'.heap[k]? = w.heap[k]?
  new : ∀ b ∈ F', b ∈ F ∨ w.heap.size ≤ b
theorem Mv.refl (F : List Nat) (w : World) : Mv F F w w := ⟨rfl, rfl, rfl, Nat.le_refl _, fun _ _ _ => rfl, fun b h => .inl h⟩
theorem Mv.trans {F G H : List Nat} {a b c : World} (h : Mv F G a b) (k : Mv G H b c) : Mv F H a c :=
  ⟨k.os.trans h.os, k.tape.trans h.tape, k.output.trans h.output, Nat.le_trans h.size k.size,
    fun i hi hn => (k.block i (Nat.lt_of_lt_of_le hi h.size) (fun hg => by
      rcases h.new i hg with h' | h'
      · exact hn h'
      · omega)).trans (h.block i hi hn),
    fun i hi => by
      rcases k.new i hi with h' | h'
      · exact h.new i h'
      · exact .inr (Nat.le_trans h.size h')⟩
/-- Nothing that was there has turned. -/
theorem Mv.of_below {F : List Nat} {a b : World} (h : Below a.heap.size a b) : Mv F F a b := ⟨h.os, h.tape, h.output, h.size, fun k hk _ => h.block k hk, fun b h => .inl h⟩
theorem Mv.below {F F' : List Nat} {a b : World} {B : Nat} (h : Mv F F' a b) (hB : B ≤ a.heap.size) (hF : ∀ k ∈ F, B ≤ k) : Below B a b :=
  ⟨h.os, h.tape, h.output, h.size, fun k hk => h.block k (by omega) (fun hf => by have := hF k hf; omega)⟩
theorem Mv.ge {F F' : List Nat} {a b : World} {B : Nat} (h : Mv F F' a b) (hB : B ≤ a.heap.size) (hF : ∀ k ∈ F, B ≤ k) : ∀ k ∈ F', B ≤ k := fun k hk => by
  rcases h.new k hk with h' | h'
  · exact hF k h'
  · omega
theorem lt_of_heap {w : World} {b : Nat} {o : Obj} (h : w.heap[b]? = some o) : b < w.heap.size := (Array.getElem?_eq_some_iff.1 h).1
theorem free_heap {w : World} {b : Nat} {cs : Array Value} {t : TypeId} (h : w.heap[b]? = some (.cells cs t (0, 0))) (i : Nat) : w.frozen? ⟨b, i, none⟩ = false := by simp [World.frozen?, h]
theorem set_heap {w : World} {b : Nat} {cs : Array Value} {t : TypeId} {fr : Nat × Nat} (h : w.heap[b]? = some (.cells cs t fr)) (i : Nat) (u : Value) : (w.setCell ⟨b, i, none⟩ u).heap[b]? = some (.cells (cs.setIfInBounds i u) t fr) := by
  simp [World.setCell, Array.getElem?_modify, h]
theorem far_heap {w : World} {b c : Nat} (h : b ≠ c) (i : Nat) (u : Value) : (w.setCell ⟨c, i, none⟩ u).heap[b]? = w.heap[b]? := Below.heap_setCell w ⟨c, i, none⟩ u b h
/-! ### A slave, as it lies -/
def nextV (p ph : Nat) : Value := .func (.func (if ph = 0 then 26 else if ph = 1 then 33 else 37)) #[.pointer (some ⟨p, 0, none⟩)] #[]
structure SCells (cs : Array Value) (p : Nat) (s : Md.S) : Prop where
  size : cs.size = 42
  c0 : cs[0]? = some (nextV p s.ph)
  cr : ∀ i, i < 32 → cs[1 + i]? = some (.int .u16 (s.regs.getD i 0))
  c33 : cs[33]? = some (.int .i64 s.addr)
  c34 : cs[34]? = some (.int .i64 s.ones)
  c35 : cs[35]? = some (.int .i64 s.bits)
  c36 : cs[36]? = some (.int .u32 s.got)
  c37 : cs[37]? = some (.int .u16 s.out)
  c38 : cs[38]? = some (.int .i64 s.reg)
  c39 : cs[39]? = some (.int .i64 s.to)
  c40 : cs[40]? = some (.int .u16 s.v)
  c41 : cs[41]? = some (.bool s.took)
def SlaveAt (w : World) (p : Nat) (s : Md.S) : Prop := (∃ cs, w.heap[p]? = some (.cells cs 58 (0, 0)) ∧ SCells cs p s) ∧ Md.Fit s
theorem SlaveAt.fit {w : World} {p : Nat} {s : Md.S} (h : SlaveAt w p s) : Md.Fit s := h.2
theorem SlaveAt.lt {w : World} {p : Nat} {s : Md.S} (h : SlaveAt w p s) : p < w.heap.size := let ⟨⟨_, h, _⟩, _⟩ := h; lt_of_heap h
theorem SlaveAt.free {w : World} {p : Nat} {s : Md.S} (h : SlaveAt w p s) (i : Nat) : w.frozen? ⟨p, i, none⟩ = false := let ⟨⟨_, h, _⟩, _⟩ := h; free_heap h i
theorem SlaveAt.keep {w w' : World} {p : Nat} {s : Md.S} (h : SlaveAt w p s) (hk : w'.heap[p]? = w.heap[p]?) : SlaveAt w' p s := let ⟨⟨cs, h, k⟩, o⟩ := h; ⟨⟨cs, hk.trans h, k⟩, o⟩
theorem SlaveAt.mv {w w' : World} {p : Nat} {s : Md.S} {G G' : List Nat} (h : SlaveAt w p s) (hm : Mv G G' w w') (hp : p ∉ G) : SlaveAt w' p s := h.keep (hm.block p h.lt hp)
theorem SlaveAt.below {w w' : World} {p : Nat} {s : Md.S} (h : SlaveAt w p s) (hb : Below w.heap.size w w') : SlaveAt w' p s := h.keep (hb.block p h.lt)
theorem slave_cells {w : World} {p : Nat} {s : Md.S} (h : SlaveAt w p s) : w.cell? ⟨p, 0, none⟩ = some (nextV p s.ph) ∧ w.cell? ⟨p, 33, none⟩ = some (.int .i64 s.addr) ∧ w.cell? ⟨p, 34, none⟩ = some (.int .i64 s.ones) ∧ w.cell? ⟨p, 35, none⟩ = some (.int .i64 s.bits) ∧ w.cell? ⟨p, 36, none⟩ = some (.int .u32 s.got) ∧ w.cell? ⟨p, 37, none⟩ = some (.int .u16 s.out) ∧ w.cell? ⟨p, 38, none⟩ = some (.int .i64 s.reg) ∧ w.cell? ⟨p, 39, none⟩ = some (.int .i64 s.to) ∧ w.cell? ⟨p, 40, none⟩ = some (.int .u16 s.v) ∧ w.cell? ⟨p, 41, none⟩ = some (.bool s.took) :=
  let ⟨⟨_, h, k⟩, _⟩ := h; ⟨(cell_heap h 0).trans k.c0, (cell_heap h 33).trans k.c33, (cell_heap h 34).trans k.c34, (cell_heap h 35).trans k.c35, (cell_heap h 36).trans k.c36, (cell_heap h 37).trans k.c37, (cell_heap h 38).trans k.c38, (cell_heap h 39).trans k.c39, (cell_heap h 40).trans k.c40, (cell_heap h 41).trans k.c41⟩
theorem slave_reg {w : World} {p : Nat} {s : Md.S} (h : SlaveAt w p s) (i : Nat) (hi : i < 32) : w.cell? ⟨p, 1 + i, none⟩ = some (.int .u16 (s.regs.getD i 0)) := let ⟨⟨_, h, k⟩, _⟩ := h; (cell_heap h (1 + i)).trans (k.cr i hi)
/-- One field becomes another one. -/
theorem SCells.next {cs : Array Value} {p : Nat} {s : Md.S} (h : SCells cs p s) (n : Nat) : SCells (cs.setIfInBounds 0 (nextV p n)) p { s with ph := n } :=
  ⟨by simp [h.size], by simp [h.size], fun i hi => by rw [Array.getElem?_setIfInBounds_ne (by omega)]; exact h.cr i hi, by rw [Array.getElem?_setIfInBounds_ne (by decide)]; exact h.c33, by rw [Array.getElem?_setIfInBounds_ne (by decide)]; exact h.c34, by rw [Array.getElem?_setIfInBounds_ne (by decide)]; exact h.c35, by rw [Array.getElem?_setIfInBounds_ne (by decide)]; exact h.c36, by rw [Array.getElem?_setIfInBounds_ne (by decide)]; exact h.c37, by rw [Array.getElem?_setIfInBounds_ne (by decide)]; exact h.c38, by rw [Array.getElem?_setIfInBounds_ne (by decide)]; exact h.c39, by rw [Array.getElem?_setIfInBounds_ne (by decide)]; exact h.c40, by rw [Array.getElem?_setIfInBounds_ne (by decide)]; exact h.c41⟩
theorem SCells.rg {cs : Array Value} {p : Nat} {s : Md.S} (h : SCells cs p s) (hl : s.regs.length = 32) (r : Nat) (hr : r < 32) (x : Int) : SCells (cs.setIfInBounds (1 + r) (.int .u16 x)) p { s with regs := s.regs.set r x } :=
  ⟨by simp [h.size], by rw [Array.getElem?_setIfInBounds_ne (by omega)]; exact h.c0, fun i hi => by
    by_cases e : i = r
    · subst e
      rw [Array.getElem?_setIfInBounds_self_of_lt (by rw [h.size]; omega)]
      simp [List.getD_eq_getElem?_getD, hl, hr]
    · rw [Array.getElem?_setIfInBounds_ne (by omega)]
      rw [h.cr i hi]
      simp [List.getD_eq_getElem?_getD, List.getElem?_set_ne (Ne.symm e)], by rw [Array.getElem?_setIfInBounds_ne (by omega)]; exact h.c33, by rw [Array.getElem?_setIfInBounds_ne (by omega)]; exact h.c34, by rw [Array.getElem?_setIfInBounds_ne (by omega)]; exact h.c35, by rw [Array.getElem?_setIfInBounds_ne (by omega)]; exact h.c36, by rw [Array.getElem?_setIfInBounds_ne (by omega)]; exact h.c37, by rw [Array.getElem?_setIfInBounds_ne (by omega)]; exact h.c38, by rw [Array.getElem?_setIfInBounds_ne (by omega)]; exact h.c39, by rw [Array.getElem?_setIfInBounds_ne (by omega)]; exact h.c40, by rw [Array.getElem?_setIfInBounds_ne (by omega)]; exact h.c41⟩
theorem SCells.addr_ {cs : Array Value} {p : Nat} {s : Md.S} (h : SCells cs p s) (x : Int) : SCells (cs.setIfInBounds 33 (.int .i64 x)) p { s with addr := x } :=
  ⟨by simp [h.size], by rw [Array.getElem?_setIfInBounds_ne (by decide)]; exact h.c0, fun i hi => by rw [Array.getElem?_setIfInBounds_ne (by omega)]; exact h.cr i hi, by rw [Array.getElem?_setIfInBounds_self_of_lt (by rw [h.size]; decide)], by rw [Array.getElem?_setIfInBounds_ne (by decide)]; exact h.c34, by rw [Array.getElem?_setIfInBounds_ne (by decide)]; exact h.c35, by rw [Array.getElem?_setIfInBounds_ne (by decide)]; exact h.c36, by rw [Array.getElem?_setIfInBounds_ne (by decide)]; exact h.c37, by rw [Array.getElem?_setIfInBounds_ne (by decide)]; exact h.c38, by rw [Array.getElem?_setIfInBounds_ne (by decide)]; exact h.c39, by rw [Array.getElem?_setIfInBounds_ne (by decide)]; exact h.c40, by rw [Array.getElem?_setIfInBounds_ne (by decide)]; exact h.c41⟩
theorem SCells.ones_ {cs : Array Value} {p : Nat} {s : Md.S} (h : SCells cs p s) (x : Int) : SCells (cs.setIfInBounds 34 (.int .i64 x)) p { s with ones := x } :=
  ⟨by simp [h.size], by rw [Array.getElem?_setIfInBounds_ne (by decide)]; exact h.c0, fun i hi => by rw [Array.getElem?_setIfInBounds_ne (by omega)]; exact h.cr i hi, by rw [Array.getElem?_setIfInBounds_ne (by decide)]; exact h.c33, by rw [Array.getElem?_setIfInBounds_self_of_lt (by rw [h.size]; decide)], by rw [Array.getElem?_setIfInBounds_ne (by decide)]; exact h.c35, by rw [Array.getElem?_setIfInBounds_ne (by decide)]; exact h.c36, by rw [Array.getElem?_setIfInBounds_ne (by decide)]; exact h.c37, by rw [Array.getElem?_setIfInBounds_ne (by decide)]; exact h.c38, by rw [Array.getElem?_setIfInBounds_ne (by decide)]; exact h.c39, by rw [Array.getElem?_setIfInBounds_ne (by decide)]; exact h.c40, by rw [Array.getElem?_setIfInBounds_ne (by decide)]; exact h.c41⟩
theorem SCells.bits_ {cs : Array Value} {p : Nat} {s : Md.S} (h : SCells cs p s) (x : Int) : SCells (cs.setIfInBounds 35 (.int .i64 x)) p { s with bits := x } :=
  ⟨by simp [h.size], by rw [Array.getElem?_setIfInBounds_ne (by decide)]; exact h.c0, fun i hi => by rw [Array.getElem?_setIfInBounds_ne (by omega)]; exact h.cr i hi, by rw [Array.getElem?_setIfInBounds_ne (by decide)]; exact h.c33, by rw [Array.getElem?_setIfInBounds_ne (by decide)]; exact h.c34, by rw [Array.getElem?_setIfInBounds_self_of_lt (by rw [h.size]; decide)], by rw [Array.getElem?_setIfInBounds_ne (by decide)]; exact h.c36, by rw [Array.getElem?_setIfInBounds_ne (by decide)]; exact h.c37, by rw [Array.getElem?_setIfInBounds_ne (by decide)]; exact h.c38, by rw [Array.getElem?_setIfInBounds_ne (by decide)]; exact h.c39, by rw [Array.getElem?_setIfInBounds_ne (by decide)]; exact h.c40, by rw [Array.getElem?_setIfInBounds_ne (by decide)]; exact h.c41⟩
theorem SCells.got_ {cs : Array Value} {p : Nat} {s : Md.S} (h : SCells cs p s) (x : Nat) : SCells (cs.setIfInBounds 36 (.int .u32 x)) p { s with got := x } :=
  ⟨by simp [h.size], by rw [Array.getElem?_setIfInBounds_ne (by decide)]; exact h.c0, fun i hi => by rw [Array.getElem?_setIfInBounds_ne (by omega)]; exact h.cr i hi, by rw [Array.getElem?_setIfInBounds_ne (by decide)]; exact h.c33, by rw [Array.getElem?_setIfInBounds_ne (by decide)]; exact h.c34, by rw [Array.getElem?_setIfInBounds_ne (by decide)]; exact h.c35, by rw [Array.getElem?_setIfInBounds_self_of_lt (by rw [h.size]; decide)], by rw [Array.getElem?_setIfInBounds_ne (by decide)]; exact h.c37, by rw [Array.getElem?_setIfInBounds_ne (by decide)]; exact h.c38, by rw [Array.getElem?_setIfInBounds_ne (by decide)]; exact h.c39, by rw [Array.getElem?_setIfInBounds_ne (by decide)]; exact h.c40, by rw [Array.getElem?_setIfInBounds_ne (by decide)]; exact h.c41⟩
theorem SCells.out_ {cs : Array Value} {p : Nat} {s : Md.S} (h : SCells cs p s) (x : Int) : SCells (cs.setIfInBounds 37 (.int .u16 x)) p { s with out := x } :=
  ⟨by simp [h.size], by rw [Array.getElem?_setIfInBounds_ne (by decide)]; exact h.c0, fun i hi => by rw [Array.getElem?_setIfInBounds_ne (by omega)]; exact h.cr i hi, by rw [Array.getElem?_setIfInBounds_ne (by decide)]; exact h.c33, by rw [Array.getElem?_setIfInBounds_ne (by decide)]; exact h.c34, by rw [Array.getElem?_setIfInBounds_ne (by decide)]; exact h.c35, by rw [Array.getElem?_setIfInBounds_ne (by decide)]; exact h.c36, by rw [Array.getElem?_setIfInBounds_self_of_lt (by rw [h.size]; decide)], by rw [Array.getElem?_setIfInBounds_ne (by decide)]; exact h.c38, by rw [Array.getElem?_setIfInBounds_ne (by decide)]; exact h.c39, by rw [Array.getElem?_setIfInBounds_ne (by decide)]; exact h.c40, by rw [Array.getElem?_setIfInBounds_ne (by decide)]; exact h.c41⟩
theorem SCells.reg_ {cs : Array Value} {p : Nat} {s : Md.S} (h : SCells cs p s) (x : Int) : SCells (cs.setIfInBounds 38 (.int .i64 x)) p { s with reg := x } :=
  ⟨by simp [h.size], by rw [Array.getElem?_setIfInBounds_ne (by decide)]; exact h.c0, fun i hi => by rw [Array.getElem?_setIfInBounds_ne (by omega)]; exact h.cr i hi, by rw [Array.getElem?_setIfInBounds_ne (by decide)]; exact h.c33, by rw [Array.getElem?_setIfInBounds_ne (by decide)]; exact h.c34, by rw [Array.getElem?_setIfInBounds_ne (by decide)]; exact h.c35, by rw [Array.getElem?_setIfInBounds_ne (by decide)]; exact h.c36, by rw [Array.getElem?_setIfInBounds_ne (by decide)]; exact h.c37, by rw [Array.getElem?_setIfInBounds_self_of_lt (by rw [h.size]; decide)], by rw [Array.getElem?_setIfInBounds_ne (by decide)]; exact h.c39, by rw [Array.getElem?_setIfInBounds_ne (by decide)]; exact h.c40, by rw [Array.getElem?_setIfInBounds_ne (by decide)]; exact h.c41⟩
theorem SCells.to_ {cs : Array Value} {p : Nat} {s : Md.S} (h : SCells cs p s) (x : Int) : SCells (cs.setIfInBounds 39 (.int .i64 x)) p { s with to := x } :=
  ⟨by simp [h.size], by rw [Array.getElem?_setIfInBounds_ne (by decide)]; exact h.c0, fun i hi => by rw [Array.getElem?_setIfInBounds_ne (by omega)]; exact h.cr i hi, by rw [Array.getElem?_setIfInBounds_ne (by decide)]; exact h.c33, by rw [Array.getElem?_setIfInBounds_ne (by decide)]; exact h.c34, by rw [Array.getElem?_setIfInBounds_ne (by decide)]; exact h.c35, by rw [Array.getElem?_setIfInBounds_ne (by decide)]; exact h.c36, by rw [Array.getElem?_setIfInBounds_ne (by decide)]; exact h.c37, by rw [Array.getElem?_setIfInBounds_ne (by decide)]; exact h.c38, by rw [Array.getElem?_setIfInBounds_self_of_lt (by rw [h.size]; decide)], by rw [Array.getElem?_setIfInBounds_ne (by decide)]; exact h.c40, by rw [Array.getElem?_setIfInBounds_ne (by decide)]; exact h.c41⟩
theorem SCells.v_ {cs : Array Value} {p : Nat} {s : Md.S} (h : SCells cs p s) (x : Int) : SCells (cs.setIfInBounds 40 (.int .u16 x)) p { s with v := x } :=
  ⟨by simp [h.size], by rw [Array.getElem?_setIfInBounds_ne (by decide)]; exact h.c0, fun i hi => by rw [Array.getElem?_setIfInBounds_ne (by omega)]; exact h.cr i hi, by rw [Array.getElem?_setIfInBounds_ne (by decide)]; exact h.c33, by rw [Array.getElem?_setIfInBounds_ne (by decide)]; exact h.c34, by rw [Array.getElem?_setIfInBounds_ne (by decide)]; exact h.c35, by rw [Array.getElem?_setIfInBounds_ne (by decide)]; exact h.c36, by rw [Array.getElem?_setIfInBounds_ne (by decide)]; exact h.c37, by rw [Array.getElem?_setIfInBounds_ne (by decide)]; exact h.c38, by rw [Array.getElem?_setIfInBounds_ne (by decide)]; exact h.c39, by rw [Array.getElem?_setIfInBounds_self_of_lt (by rw [h.size]; decide)], by rw [Array.getElem?_setIfInBounds_ne (by decide)]; exact h.c41⟩
theorem SCells.took_ {cs : Array Value} {p : Nat} {s : Md.S} (h : SCells cs p s) (x : Bool) : SCells (cs.setIfInBounds 41 (.bool x)) p { s with took := x } :=
  ⟨by simp [h.size], by rw [Array.getElem?_setIfInBounds_ne (by decide)]; exact h.c0, fun i hi => by rw [Array.getElem?_setIfInBounds_ne (by omega)]; exact h.cr i hi, by rw [Array.getElem?_setIfInBounds_ne (by decide)]; exact h.c33, by rw [Array.getElem?_setIfInBounds_ne (by decide)]; exact h.c34, by rw [Array.getElem?_setIfInBounds_ne (by decide)]; exact h.c35, by rw [Array.getElem?_setIfInBounds_ne (by decide)]; exact h.c36, by rw [Array.getElem?_setIfInBounds_ne (by decide)]; exact h.c37, by rw [Array.getElem?_setIfInBounds_ne (by decide)]; exact h.c38, by rw [Array.getElem?_setIfInBounds_ne (by decide)]; exact h.c39, by rw [Array.getElem?_setIfInBounds_ne (by decide)]; exact h.c40, by rw [Array.getElem?_setIfInBounds_self_of_lt (by rw [h.size]; decide)]⟩
/-- A store into a slave's block. -/
theorem at_set {w : World} {p : Nat} {cs : Array Value} {s : Md.S} (h : w.heap[p]? = some (.cells cs 58 (0, 0)) ∧ SCells cs p s) {i : Nat} {u : Value} {s' : Md.S} (k : SCells (cs.setIfInBounds i u) p s') :
    (w.setCell ⟨p, i, none⟩ u).heap[p]? = some (.cells (cs.setIfInBounds i u) 58 (0, 0)) ∧ SCells (cs.setIfInBounds i u) p s' := ⟨set_heap h.1 i u, k⟩
theorem mv_set {w w' : World} {p : Nat} (h : Mv [p] [p] w w') (i : Nat) (u : Value) : Mv [p] [p] w (w'.setCell ⟨p, i, none⟩ u) :=
  ⟨h.os, h.tape, h.output, by simpa using h.size, fun k hk hn => by rw [far_heap (by simpa using hn)]; exact h.block k hk hn, fun b hb => .inl hb⟩
theorem mv_drew {p : Nat} {w w' : World} (h : Mv [p] [p] w w') : Mv [p] [p] w w'.drew := ⟨h.os, h.tape, h.output, h.size, fun k hk hn => h.block k hk hn, h.new⟩
theorem mv_drewN {p : Nat} {w w' : World} (h : Mv [p] [p] w w') (n : Nat) : Mv [p] [p] w (w'.drewN n) := ⟨h.os, h.tape, h.output, h.size, fun k hk hn => h.block k hk hn, h.new⟩
end Go.Proofs.Ytkegljcndhckeac
