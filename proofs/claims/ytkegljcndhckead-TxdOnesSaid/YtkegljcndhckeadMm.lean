import Derived.Test.YtkegljcndhckeadRows
import Derived.WalkKit
import Derived.Lib.Hide
import Derived.Deep.QuietTactic
import Derived.BigQuiet
import Derived.Deep.OwnRows
import Derived.Deep.AppendLies
import Derived.Maps.AppendAt
/- Small words on memory: a slice that reads as a list; what a call leaves as it was. -/
namespace Go.Proofs.Ytkegljcndhckead
open Go.RowKit
theorem cell_heap {w : World} {b : Nat} {cs : Array Value} {t : TypeId} {fr : Nat × Nat} (h : w.heap[b]? = some (.cells cs t fr)) (i : Nat) : w.cell? ⟨b, i, none⟩ = cs[i]? := by simp [World.cell?, h]
theorem int_ret {k : IntKind} {a b : Int} (h : a = b) : Value.int k a = .int k b := by rw [h]
theorem bool_ret {a b : Bool} (h : a = b) : Value.bool a = .bool b := by rw [h]
/-- Whole numbers of one kind, as cells. -/
def nums (k : IntKind) (xs : List Int) : List Value := xs.map (.int k)
theorem nums_len (k : IntKind) (xs : List Int) : (nums k xs).length = xs.length := by simp [nums]
theorem nums_app (k : IntKind) (xs ys : List Int) : nums k (xs ++ ys) = nums k xs ++ nums k ys := by simp [nums]
theorem nums_at (k : IntKind) (xs : List Int) (i : Nat) (h : i < xs.length) : (nums k xs)[i]? = some (.int k (xs.getD i 0)) := by
  simp [nums, List.getElem?_eq_getElem h, List.getD_eq_getElem?_getD]
/-- The slice value v, of elements of one cell each, reads as xs. -/
def Rd (w : World) (v : Value) (xs : List Value) : Prop :=
  ∃ A c, v = .slice A xs.length c ∧ xs.length ≤ c ∧ c ≤ maxLen ∧ ∀ i u, xs[i]? = some u → ∃ ad, A = some ad ∧ w.cell? (ad.add i) = some u
theorem add_block (a : Addr) (n : Nat) : (a.add n).block = a.block := by unfold Addr.add; split <;> rfl
theorem below_cell {w w' : World} (hb : Below w.heap.size w w') {a : Addr} {u : Value} (h : w.cell? a = some u) : w'.cell? a = some u :=
  (hb.cell (World.block_lt_of_cell? w a h)).trans h
theorem Rd.below {w w' : World} {v : Value} {xs : List Value} (h : Rd w v xs) (hb : Below w.heap.size w w') : Rd w' v xs := by
  obtain ⟨A, c, hv, h1, h2, h3⟩ := h
  exact ⟨A, c, hv, h1, h2, fun i u hu => let ⟨ad, ha, hc⟩ := h3 i u hu; ⟨ad, ha, below_cell hb hc⟩⟩
theorem Rd.nil (w : World) : Rd w (.slice none 0 0) [] := ⟨none, 0, rfl, by simp, by simp [maxLen], fun i u h => by simp at h⟩
theorem Rd.of_own {w : World} {base n : Nat} {e : TypeId} {v : Value} {xs : List Value} (h : w.ownsRow base e 1 v n xs) : Rd w v xs := by
  have hl : xs.length = n := by simpa using h.1
  subst hl
  rcases Nat.eq_zero_or_pos xs.length with h0 | h0
  · rcases h.2 with ⟨rfl, _⟩ | ⟨g, cap, cur, rfl, _, _, hn, hm, _⟩
    · exact ⟨none, 0, by rw [h0], by omega, by simp [maxLen], fun i u hu => by have := List.eq_nil_of_length_eq_zero h0; subst this; simp at hu⟩
    · exact ⟨_, cap, rfl, hn, hm, fun i u hu => by have := List.eq_nil_of_length_eq_zero h0; subst this; simp at hu⟩
  · obtain ⟨g, cap, rfl, _, hlt⟩ := h.form h0
    rcases h.2 with ⟨h', _⟩ | ⟨g', cap', cur, h', _, _, hn, hm, _⟩
    · cases h'
    · injection h' with h' _ hcc
      subst hcc
      exact ⟨_, cap, rfl, hn, hm, fun i u hu => ⟨_, rfl, h.cells (g := g) rfl i u hu⟩⟩
/-- What is owned stays so where nothing that was there has turned. -/
theorem own_below {w w' : World} {base n size : Nat} {e : TypeId} {v : Value} {xs : List Value} (h : w.ownsRow base e size v n xs) (hb : Below w.heap.size w w') : w'.ownsRow base e size v n xs :=
  h.kept (row := none) ⟨hb.os, hb.tape, hb.output, hb.size, fun i hi _ => hb.block i hi⟩ (by cases v.ownBlock <;> simp)
theorem below_next {B : Nat} {w w1 w2 : World} (h : Below B w w1) (hB : B ≤ w1.heap.size) (k : Below w1.heap.size w1 w2) : Below B w w2 := h.trans (k.mono hB)
theorem below_drewN {B : Nat} {a w : World} (h : Below B a w) (n : Nat) : Below B a (w.drewN n) := ⟨h.os, h.tape, h.output, h.size, h.block⟩
theorem rd_len {w : World} {A : Option Addr} {n c : Nat} {xs : List Value} (h : Rd w (.slice A n c) xs) : n = xs.length ∧ n ≤ c ∧ c ≤ maxLen := by
  obtain ⟨A', c', hv, h1, h2, _⟩ := h
  injection hv with _ hn hc
  subst hc
  exact ⟨hn, by omega, h2⟩
theorem rd_at {w : World} {A : Option Addr} {n c : Nat} {k : IntKind} {xs : List Int} (h : Rd w (.slice A n c) (nums k xs)) (i : Nat) (hi : i < xs.length) :
    ∃ ad, A = some ad ∧ w.cell? (ad.add i) = some (.int k (xs.getD i 0)) := by
  obtain ⟨A', c', hv, h1, h2, h3⟩ := h
  injection hv with ha _ _
  subst ha
  exact h3 i _ (nums_at k xs i hi)
theorem nums_one (k : IntKind) (xs : List Int) : ∀ u ∈ nums k xs, u.oneCell' = true := by
  intro u hu
  simp only [nums, List.mem_map] at hu
  obtain ⟨x, _, rfl⟩ := hu
  rfl
theorem Rd.new (w : World) (cs : List Value) (e : TypeId) (h : cs.length ≤ maxLen) : Rd (w.alloc (.cells cs.toArray e)) (.slice (some ⟨w.heap.size, 0, none⟩) cs.length cs.length) cs :=
  ⟨_, _, rfl, Nat.le_refl _, h, fun i u hu => ⟨_, rfl, World.news_of_block (cs := cs.toArray) (t := e) (fr := (0, 0)) (heap_alloc_new w _) i u (by simpa using hu)⟩⟩
/-- 'append(v, ys...)': v a row of the call's own, ys whatever reads, nil let in. -/
theorem app_rd {P : Program} {ops : Array Oper} {rest : List Oper} {o : Oper} {a : Act} {Q : Exit → Act → World → Prop} {W : World} (hgd : o.guard = none) (s x : Operand) (t : TypeId)
    (ho : o.op = .call { callee := .builtin .append, args := #[s, x], argTypes := #[t, t] }) (base : Nat) (e : TypeId) (z : Value) (bytes : Nat)
    (ht : P.underlying t = some (.slice e)) (hinfo : (P.info? e).map (fun i => (i.zero, i.size, i.bytes)) = some (some z, 1, bytes)) (hz : z.cells.size = 1) (hb0 : 0 < bytes)
    (v : Value) (xs : List Value) (hs : a.eval s = v) (HO : W.ownsRow base e 1 v xs.length xs) (u : Value) (ys : List Value) (hx : a.eval x = u) (HR : Rd W u ys) (h1 : ∀ y ∈ ys, y.oneCell' = true)
    (hl : (xs.length + ys.length) * bytes ≤ 140737488355328) (hbase : base ≤ W.heap.size)
    (h : ∀ v1 w1, w1.ownsRow base e 1 v1 (xs ++ ys).length (xs ++ ys) → W.grownBy w1 v.ownBlock → (v1.ownBlock = v.ownBlock ∨ v1.ownBlock = some W.heap.size) → (ys ≠ [] → v1 ≠ .slice none 0 0) → wpList P ops Q rest (a.put o.dst v1) w1) :
    wpList P ops Q (o :: rest) a W := by
  obtain ⟨i0, hi, hz0, hz1, hz2⟩ := info_parts hinfo
  have hlen : xs.length + ys.length ≤ 140737488355328 := Nat.le_trans (Nat.le_mul_of_pos_right _ hb0) hl
  obtain ⟨A, c, rfl, hc1, hc2, hcell⟩ := HR
  rcases A with _ | ad
  · have hy : ys = [] := by
      cases ys with
      | nil => rfl
      | cons y r => obtain ⟨ad, h, _⟩ := hcell 0 y rfl; cases h
    subst hy
    refine wpList_plain hgd fun K hK => ?_
    unfold Oper.wp execOp
    have hrun : (Builtin.append_ #[t, t] o.type #[v, .slice none 0 c]).run P W = .ok v W := by
      rcases HO.2 with ⟨rfl, hn⟩ | ⟨g, cap, cur, rfl, hb, hh, hnc, _⟩
      · simp [Builtin.append_, run_underlying ht, sizeOf, typeInfo, hi, Builtin.lenOf, Builtin.firstCells]
      · simp [Builtin.append_, run_underlying ht, sizeOf, typeInfo, hi, Builtin.lenOf, Builtin.firstCells, hnc, storeCells]
    simp only [List.length_nil] at hx
    simp only [ho, resolve, invoke, builtin, Sem.run_bind, Sem.run_pure, Result.andThen_ok, List.map_toArray, List.map_cons, List.map_nil, hs, hx, hrun]
    exact hK _ _ (h v W (by simpa using HO) (World.grownBy.refl W _) (.inl rfl) (fun h => absurd rfl h))
  · refine wpList_append_own_at W hgd s x t ho base e i0 z 1 bytes ht hi hz0 hz1 hz2 hz (by omega) v xs.length xs hs HO ad ys.length c ys hx (by simp) (fun j w hj => by
      obtain ⟨ad', he, hc'⟩ := hcell j w hj
      injection he with he
      subst he
      exact hc') h1 (by simp only [maxLen]; omega) hl hbase ?_
    intro v1 w1 hown hg hn hat
    refine h v1 w1 (by simpa using hown) hg hat (fun hy hv => ?_)
    have := (hn.1 hv).2
    exact hy (List.eq_nil_of_length_eq_zero this)
theorem below_row {B : Nat} {w0 W w1 : World} {row : Option Nat} (h : Below B w0 W) (hg : W.grownBy w1 row) (hB : B ≤ W.heap.size) (hr : ∀ k, row = some k → B ≤ k) : Below B w0 w1 := h.grown hg hB hr
theorem own_ge {w : World} {base n size : Nat} {e : TypeId} {v : Value} {xs : List Value} (h : w.ownsRow base e size v n xs) : ∀ k, v.ownBlock = some k → base ≤ k := fun k hk => (h.lt k hk).1
theorem own_form {w : World} {base n size : Nat} {e : TypeId} {v : Value} {xs : List Value} (h : w.ownsRow base e size v n xs) : ∃ A c, v = .slice A n c := by
  rcases h.2 with ⟨rfl, rfl⟩ | ⟨g, cap, cur, rfl, _⟩
  · exact ⟨none, 0, rfl⟩
  · exact ⟨_, cap, rfl⟩
/-- A slice that came in: its elements. -/
theorem rd_row {W : World} {x : Addr} {len cap : Nat} {k : IntKind} {zs : List Int} (hl : len ≤ cap) (hm : cap ≤ maxLen) (hz : zs.length = cap) (hcell : ∀ i, i < zs.length → W.cell? (x.add i) = some (.int k (zs.getD i 0))) :
    Rd W (.slice (some x) len cap) (nums k (zs.take len)) := by
  have hn : (nums k (zs.take len)).length = len := by rw [nums_len, List.length_take]; omega
  refine ⟨some x, cap, by rw [hn], by rw [hn]; exact hl, hm, fun i u hu => ⟨x, rfl, ?_⟩⟩
  have hi : i < len := by
    rcases Nat.lt_or_ge i len with h | h
    · exact h
    · rw [List.getElem?_eq_none (by rw [hn]; exact h)] at hu; cases hu
  rw [hcell i (by omega), ← hu, nums_at _ _ _ (by rw [List.length_take]; omega)]
  simp [List.getD_eq_getElem?_getD, hi]
theorem wf_i64 {a : Int} (h : (Lit.int .i64 a).wf = true) : -9223372036854775808 ≤ a ∧ a ≤ 9223372036854775807 := by
  simp only [Lit.wf, Bool.and_eq_true, decide_eq_true_eq] at h
  exact h
theorem wf_u32 {a : Int} (h : (Lit.int .u32 a).wf = true) : 0 ≤ a ∧ a < 4294967296 := by
  simp only [Lit.wf, Bool.and_eq_true, decide_eq_true_eq] at h
  have h1 : IntKind.u32.min = 0 := rfl
  have h2 : IntKind.u32.max = 4294967295 := rfl
  omega
theorem wf_u16 {a : Int} (h : (Lit.int .u16 a).wf = true) : 0 ≤ a ∧ a < 65536 := by
  simp only [Lit.wf, Bool.and_eq_true, decide_eq_true_eq] at h
  have h1 : IntKind.u16.min = 0 := rfl
  have h2 : IntKind.u16.max = 65535 := rfl
  omega
theorem wf_u8 {a : Int} (h : (Lit.int .u8 a).wf = true) : 0 ≤ a ∧ a < 256 := by
  simp only [Lit.wf, Bool.and_eq_true, decide_eq_true_eq] at h
  have h1 : IntKind.u8.min = 0 := rfl
  have h2 : IntKind.u8.max = 255 := rfl
  omega
end Go.Proofs.Ytkegljcndhckead
