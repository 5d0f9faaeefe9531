import Derived.Test.YtkegljcndhckeadMm
import Derived.Test.YtkegljcndhckeadRPure
import Derived.Deep.RegionLaw
namespace Go.Proofs.Ytkegljcndhckead
open Go.RowKit
set_option linter.unusedVariables false
/-! ### What may have turned: the blocks of F, and what is new -/
structure Mv (F F' : List Nat) (w w' : World) : Prop where
  os : w'.os = w.os
  tape : w'.tape = w.tape
  output : w'.output = w.output
  size : w.heap.size ≤ w'.heap.size
  block : ∀ k, k < w.heap.size → k ∉ F → w'.heap[k]? = w.heap[k]?
  new : ∀ b ∈ F', b ∈ F ∨ w.heap.size ≤ b
theorem Mv.refl (F : List Nat) (w : World) : Mv F F w w := ⟨rfl, rfl, rfl, Nat.le_refl _, fun _ _ _ => rfl, fun b h => .inl h⟩
theorem Mv.trans {F G H : List Nat} {a b c : World} (h : Mv F G a b) (k : Mv G H b c) : Mv F H a c :=
  ⟨k.os.trans h.os, k.tape.trans h.tape, k.output.trans h.output, Nat.le_trans h.size k.size,
    fun i hi hn => (k.block i (Nat.lt_of_lt_of_le hi h.size) (fun hg => by
      rcases h.new i hg with h' | h'
      · exact hn h'
      · omega)).trans (h.block i hi hn),
    fun i hi => by
      rcases k.new i hi with h' | h'
      · exact h.new i h'
      · exact .inr (Nat.le_trans h.size h')⟩
/-- Nothing that was there has turned. -/
theorem Mv.of_below {F : List Nat} {a b : World} (h : Below a.heap.size a b) : Mv F F a b := ⟨h.os, h.tape, h.output, h.size, fun k hk _ => h.block k hk, fun b h => .inl h⟩
theorem Mv.below {F F' : List Nat} {a b : World} {B : Nat} (h : Mv F F' a b) (hB : B ≤ a.heap.size) (hF : ∀ k ∈ F, B ≤ k) : Below B a b :=
  ⟨h.os, h.tape, h.output, h.size, fun k hk => h.block k (by omega) (fun hf => by have := hF k hf; omega)⟩
theorem Mv.ge {F F' : List Nat} {a b : World} {B : Nat} (h : Mv F F' a b) (hB : B ≤ a.heap.size) (hF : ∀ k ∈ F, B ≤ k) : ∀ k ∈ F', B ≤ k := fun k hk => by
  rcases h.new k hk with h' | h'
  · exact hF k h'
  · omega
/-! ### Memory, as it lies -/
def Rm.Acc.cells (a : Rm.Acc) : List Value := [.int .i64 a.who, .bool a.wr, .int .u32 a.at_, .int .u32 a.val, .int .i64 a.err]
def accs (l : List Rm.Acc) : List Value := l.flatMap Rm.Acc.cells
theorem accs_app (l k : List Rm.Acc) : accs (l ++ k) = accs l ++ accs k := by simp [accs]
theorem accs_len (l : List Rm.Acc) : (accs l).length = l.length * 5 := by
  induction l with
  | nil => rfl
  | cons a l ih => simp only [accs, List.flatMap_cons, List.length_append, List.length_cons] at ih ⊢; rw [ih]; simp [Rm.Acc.cells]; omega
/-- The memory R lies at block p; its blocks are F. -/
def RamAt (w : World) (p : Nat) (F : List Nat) (R : Rm.Ram) : Prop :=
  ∃ pw lv, w.heap[p]? = some (.cells #[.slice (some ⟨pw, 0, none⟩) R.ws.length R.ws.length, lv, .bool R.keep] 85 (0, 0)) ∧ w.heap[pw]? = some (.cells (nums .u32 R.ws).toArray 22 (0, 0)) ∧
    w.ownsRow 0 43 5 lv R.log.length (accs R.log) ∧ F = p :: pw :: lv.ownBlock.toList ∧ R.ws.length ≤ 16384 ∧ Rm.Fit R
theorem RamAt.fit {w : World} {p : Nat} {F : List Nat} {R : Rm.Ram} (h : RamAt w p F R) : Rm.Fit R := let ⟨_, _, _, _, _, _, _, h⟩ := h; h
theorem RamAt.most {w : World} {p : Nat} {F : List Nat} {R : Rm.Ram} (h : RamAt w p F R) : R.ws.length ≤ 16384 := let ⟨_, _, _, _, _, _, h, _⟩ := h; h
theorem lt_of_heap {w : World} {b : Nat} {o : Obj} (h : w.heap[b]? = some o) : b < w.heap.size := (Array.getElem?_eq_some_iff.1 h).1
theorem RamAt.lt {w : World} {p : Nat} {F : List Nat} {R : Rm.Ram} (h : RamAt w p F R) : ∀ b ∈ F, b < w.heap.size := by
  obtain ⟨pw, lv, h1, h2, h3, rfl, _⟩ := h
  intro b hb
  simp only [List.mem_cons, Option.mem_toList] at hb
  rcases hb with rfl | rfl | hb
  · exact lt_of_heap h1
  · exact lt_of_heap h2
  · exact (h3.lt b hb).2
/-- What is turned lies elsewhere. -/
theorem RamAt.keep_of {w w' : World} {p : Nat} {F : List Nat} {R : Rm.Ram} (h : RamAt w p F R) (hk : ∀ b ∈ F, w'.heap[b]? = w.heap[b]?) : RamAt w' p F R := by
  obtain ⟨pw, lv, h1, h2, h3, rfl, h4⟩ := h
  refine ⟨pw, lv, (hk p (by simp)).trans h1, (hk pw (by simp)).trans h2, ?_, rfl, h4⟩
  refine ⟨h3.1, ?_⟩
  rcases h3.2 with h | ⟨g, cap, cur, hv, hg, hh, r⟩
  · exact .inl h
  · exact .inr ⟨g, cap, cur, hv, hg, (hk g (by subst hv; simp [Value.ownBlock])).trans hh, r⟩
theorem RamAt.mv {w w' : World} {p : Nat} {F G G' : List Nat} {R : Rm.Ram} (h : RamAt w p F R) (hm : Mv G G' w w') (ha : ∀ b ∈ F, b ∉ G) : RamAt w' p F R :=
  h.keep_of fun b hb => hm.block b (h.lt b hb) (ha b hb)
theorem RamAt.below {w w' : World} {p : Nat} {F : List Nat} {R : Rm.Ram} (h : RamAt w p F R) (hb : Below w.heap.size w w') : RamAt w' p F R :=
  h.keep_of fun b hF => hb.block b (h.lt b hF)
theorem free_heap {w : World} {b : Nat} {cs : Array Value} {t : TypeId} (h : w.heap[b]? = some (.cells cs t (0, 0))) (i : Nat) : w.frozen? ⟨b, i, none⟩ = false := by simp [World.frozen?, h]
theorem set_heap {w : World} {b : Nat} {cs : Array Value} {t : TypeId} {fr : Nat × Nat} (h : w.heap[b]? = some (.cells cs t fr)) (i : Nat) (u : Value) : (w.setCell ⟨b, i, none⟩ u).heap[b]? = some (.cells (cs.setIfInBounds i u) t fr) := by
  simp [World.setCell, Array.getElem?_modify, h]
theorem far_heap {w : World} {b c : Nat} (h : b ≠ c) (i : Nat) (u : Value) : (w.setCell ⟨c, i, none⟩ u).heap[b]? = w.heap[b]? := Below.heap_setCell w ⟨c, i, none⟩ u b h
/-! ### Words, place -/
theorem words_nil (w : World) : Calls Try.prog 54 #[.pointer none] w fun e w' => e = .returned (.int .i64 0) ∧ w = w' := by
  go_enter Try.func54, Try.ntmps54
  go_wp2
  go_ret
  exact ⟨rfl, rfl⟩
theorem words_is (p n : Nat) (A : Option Addr) (c : Nat) (w : World) (h : w.cell? ⟨p, 0, none⟩ = some (.slice A n c)) :
    Calls Try.prog 54 #[.pointer (some ⟨p, 0, none⟩)] w fun e w' => e = .returned (.int .i64 n) ∧ w = w' := by
  go_enter Try.func54, Try.ntmps54
  go_wp2
  go_ret
  exact ⟨rfl, rfl⟩
theorem words_ok (p : Nat) (F : List Nat) (R : Rm.Ram) (w : World) (h : RamAt w p F R) :
    Calls Try.prog 54 #[.pointer (some ⟨p, 0, none⟩)] w fun e w' => e = .returned (.int .i64 R.ws.length) ∧ w = w' := by
  obtain ⟨pw, lv, h1, _⟩ := h
  exact words_is p _ _ _ w ((cell_heap h1 0).trans rfl)
theorem place_nil (a : Int) (ha : 0 ≤ a ∧ a < 4294967296) (w : World) : Calls Try.prog 45 #[.pointer none, .int .u32 a] w fun e w' => e = .returned (.pointer none) ∧ w = w' := by
  obtain ⟨h1, h2⟩ := ha
  have h3 : (0 : Int) ≤ a / 4 := by omega
  by_cases hm : a % 4 = 0
  · have hb : (a % 4 != 0) = false := by simp [hm]
    have HM := Lib.hid hm; clear hm
    go_enter Try.func45, Try.ntmps45
    go_wp2_with (go_at_call 54; refine (words_nil _).mono ?_; rintro e w' ⟨rfl, rfl⟩)
    go_ret
    exact ⟨rfl, rfl⟩
  · have hb : (a % 4 != 0) = true := by simp [hm]
    have HM := Lib.hid hm; clear hm
    go_enter Try.func45, Try.ntmps45
    go_wp2
    go_ret
    exact ⟨rfl, rfl⟩
theorem place_ok (p pw n : Nat) (a : Int) (ha : 0 ≤ a ∧ a < 4294967296) (w : World) (h : w.cell? ⟨p, 0, none⟩ = some (.slice (some ⟨pw, 0, none⟩) n n)) (hm : a % 4 = 0) (hn : a / 4 < n) :
    Calls Try.prog 45 #[.pointer (some ⟨p, 0, none⟩), .int .u32 a] w fun e w' => e = .returned (.pointer (some ⟨pw, (a / 4).toNat, none⟩)) ∧ w = w' := by
  obtain ⟨h1, h2⟩ := ha
  have h3 : (0 : Int) ≤ a / 4 := by omega
  have hb : (a % 4 != 0) = false := by simp [hm]
  have HM := Lib.hid hm; clear hm
  go_enter Try.func45, Try.ntmps45
  go_wp2_with (go_at_call 54; refine (words_is p n _ _ _ h).mono ?_; rintro e w' ⟨rfl, rfl⟩)
  go_ret
  exact ⟨by simp [Addr.add]; try omega, rfl⟩
theorem place_no (p pw n : Nat) (a : Int) (ha : 0 ≤ a ∧ a < 4294967296) (w : World) (h : w.cell? ⟨p, 0, none⟩ = some (.slice (some ⟨pw, 0, none⟩) n n)) (hn : ¬ (a % 4 = 0 ∧ a / 4 < n)) :
    Calls Try.prog 45 #[.pointer (some ⟨p, 0, none⟩), .int .u32 a] w fun e w' => e = .returned (.pointer none) ∧ w = w' := by
  obtain ⟨h1, h2⟩ := ha
  have h3 : (0 : Int) ≤ a / 4 := by omega
  by_cases hm : a % 4 = 0
  · have hb : (a % 4 != 0) = false := by simp [hm]
    have hn2 : (n : Int) ≤ a / 4 := by omega
    have HM := Lib.hid hm; clear hm hn
    go_enter Try.func45, Try.ntmps45
    go_wp2_with (go_at_call 54; refine (words_is p n _ _ _ h).mono ?_; rintro e w' ⟨rfl, rfl⟩)
    go_ret
    exact ⟨rfl, rfl⟩
  · have hb : (a % 4 != 0) = true := by simp [hm]
    have HM := Lib.hid hm; clear hm hn
    go_enter Try.func45, Try.ntmps45
    go_wp2
    go_ret
    exact ⟨rfl, rfl⟩
end Go.Proofs.Ytkegljcndhckead
