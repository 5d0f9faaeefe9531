import Derived.RangeFuncNested
import Derived.RangeFuncBound
import Derived.RangeFuncCalls
import Derived.Test.YtpcmfceoeflcoaaCk
namespace Go.Proofs.Ytpcmfceoeflcoaa
open Go.RowKit Go.Shelf
attribute [local go_sem] Oper.semAt_some
set_option linter.unusedVariables false
theorem info_u32 : (Try.prog.info? 22).map (fun i => (i.zero, i.size, i.bytes)) = some (some (.int .u32 0), 1, 4) := by kernel_rfl
theorem info_u8 : (Try.prog.info? 5).map (fun i => (i.zero, i.size, i.bytes)) = some (some (.int .u8 0), 1, 1) := by kernel_rfl
theorem add_add' (a : Addr) (i j : Nat) : (a.add i).add j = a.add (i + j) := by
  unfold Addr.add
  by_cases h1 : i = 0 <;> by_cases h2 : j = 0 <;> simp [h1, h2, Nat.add_assoc]
/-- A chunk reads as its bytes. -/
theorem ck_reads {w : World} {A : Option Addr} {c : Nat} {xs : List Int} (h : Rd w (.slice A xs.length c) (nums .u8 xs)) (k : Nat) (hk : 4 * k < xs.length) : Rd w (ckA A xs.length k) (nums .u8 ((xs.drop (4 * k)).take 4)) := by
  obtain ⟨ad, rfl, _⟩ := rd_at h 0 (by omega)
  have hl : ((xs.drop (4 * k)).take 4).length = min 4 (xs.length - 4 * k) := by rw [List.length_take, List.length_drop]
  have hm := (rd_len h).2.2
  refine ⟨some (ad.add (4 * k)), min 4 (xs.length - 4 * k), by rw [nums_len, hl]; rfl, by rw [nums_len, hl]; exact Nat.le_refl _, by simp only [maxLen]; omega, fun i u hu => ⟨_, rfl, ?_⟩⟩
  have hi : i < ((xs.drop (4 * k)).take 4).length := by
    rcases Nat.lt_or_ge i ((xs.drop (4 * k)).take 4).length with h' | h'
    · exact h'
    · rw [List.getElem?_eq_none (by rw [nums_len]; exact h')] at hu; cases hu
  rw [nums_at _ _ _ hi] at hu
  rw [hl] at hi
  obtain ⟨ad', he, hc⟩ := rd_at h (4 * k + i) (by omega)
  injection he with he
  subst he
  rw [add_add', hc, ← hu]
  congr 2
  have : i < 4 := by omega
  simp [List.getD_eq_getElem?_getD, this]
theorem ofL_take (xs : List Int) : Wd.ofL (xs.take 4) = Wd.ofL xs := by
  rw [Wd.ofL_eq, Wd.ofL_eq]
  simp [List.getD_eq_getElem?_getD]
theorem finRange_map {β : Type} {n : Nat} (f : Nat → β) : (List.finRange n).map (fun k => f k.1) = (List.range n).map f := by
  apply List.ext_getElem
  · simp
  · intro i h1 h2
    simp
theorem kp_put (W : World) (l : Nat) (o' : Obj) (b : Nat) (h : b ≠ l) : (W.putObj l o').heap[b]? = W.heap[b]? := by
  simp only [World.putObj]
  rw [Array.getElem?_setIfInBounds_ne (Ne.symm h)]
/-- The built-in append as a step of a region that draws its order, inside a fence: its run is known. -/
theorem step_append_run {F : Fence} {n : Nat} {P : Program} {ops : Array Oper} {o : Oper} {a : Act} {w w1 : World} {K : Act → World → Prop} {Q : Exit → Act → World → Prop} {E : Prop} {v' : Value} (hgd : o.guard = none) (s x : Operand) (t : TypeId)
    (hop : o.op = .call { callee := .builtin .append, args := #[s, x], argTypes := #[t, t] }) (v u : Value) (hs : a.eval s = v) (hx : a.eval x = u)
    (hrun : (Builtin.append_ #[t, t] o.type #[v, u]).run P w = .ok v' w1) (h : K (a.put o.dst v') w1) :
    if Region.wanted o (yielded ops a.tmps) = true then Oper.wpIn F n P o a w K Q else E := by
  have hw : Region.wanted o (yielded ops a.tmps) = true := by simp [Region.wanted, hgd]
  rw [if_pos hw]
  unfold Oper.wpIn
  refine ⟨?_, ?_⟩
  · simp [Oper.about, hop, resolve, Target.leads, Sem.run_pure]
  · rw [Oper.semAt_plain F _ _ (by rw [hop]; intro c hc'; cases hc')]
    simp [execOp, hop, resolve, invoke, builtin, hs, hx, hrun, Result.andThen]
    exact h
/-- Between two rounds. -/
def PkI (w : World) (xs : List Int) (A : Option Addr) (c : Nat) (pre : List (Fin ((xs.length + 3) / 4))) (W : World) : Prop :=
  (∃ v, Boxed W w.heap.size 39 v ∧ W.ownsRow w.heap.size 22 1 v pre.length ((pre.map fun k => Wd.ofL (xs.drop (4 * k.1))).map (Value.int .u32)) ∧ True) ∧ Below w.heap.size w W ∧
    Boxed W (w.heap.size + 1) 38 (.slice A xs.length c) ∧ Boxed W (w.heap.size + 2) 3 (.int .i64 4)
theorem pkI_own (w : World) (xs : List Int) (A : Option Addr) (c B : Nat) (hB : w.heap.size ≤ B) : OwnFrom B (PkI w xs A c) := by
  intro s W W' row hs hg hr
  obtain ⟨⟨v, hv, hrow, -⟩, h2, h3, h4⟩ := hs
  have key := holdsRow_own w.heap.size w.heap.size 39 22 1 (fun _ : Unit => s.length) (fun _ : Unit => (s.map fun k => Wd.ofL (xs.drop (4 * k.1))).map (Value.int .u32)) (fun _ _ => True)
  have k2 := boxed_own (w.heap.size + 1) 38 (fun _ : Unit => Value.slice A xs.length c)
  have k3 := boxed_own (w.heap.size + 2) 3 (fun _ : Unit => Value.int .i64 4)
  exact ⟨key () W W' row ⟨v, hv, hrow, trivial⟩ hg (fun r e => (hr r e).2), h2.grown hg h2.size (fun k e => Nat.le_trans hB (hr k e).1), k2 () W W' row h3 hg (fun r e => (hr r e).2), k3 () W W' row h4 hg (fun r e => (hr r e).2)⟩
set_option maxRecDepth 100000 in
set_option maxHeartbeats 1000000 in
theorem pack_in (n : Nat) (hn : 3 ≤ n) (v : Value) (xs : List Int) (w : World) (h : Rd w v (nums .u8 xs)) (hx : Wd.Bytes xs) (hlen : xs.length ≤ 140737488355328) :
    CallsIn Fence.wide n Try.prog 20 #[v] w fun e W' => ∃ u, e = .returned u ∧ W'.ownsRow w.heap.size 22 1 u (Wd.packL xs).length (nums .u32 (Wd.packL xs)) ∧ Below w.heap.size w W' := by
  have h1 : 1 ≤ n := by omega
  have hmix : Try.prog.follows Departure.mixedOrders = true := by kernel_rfl
  obtain ⟨i0, hi, hz0, hz1, hz2⟩ := info_parts info_u32
  obtain ⟨A, c, rfl, hlc, hcm, hcell⟩ := id h
  rw [nums_len] at h hlc
  rw [nums_len]
  have HX := Lib.hid hx; clear hx
  have HR := Lib.hid h
  have hA : 0 < xs.length → ∃ ad, A = some ad := fun hp => let ⟨ad, e, _⟩ := rd_at h 0 hp; ⟨ad, e⟩
  have HA := Lib.hid hA
  have HC := Lib.hid hcell
  clear hcell hA h
  unfold maxLen at hcm
  refine callsIn_of_wp_marks Try.func20 rfl trivial ?_ rfl
  simp only [Try.ntmps20, List.size_toArray, List.length_cons, List.length_nil, Nat.reduceAdd, Nat.reduceSub, Array.replicate_succ, Array.replicate_zero, List.push_toArray, List.append_toArray, List.nil_append, List.cons_append]
  gi_wp2_with (refine ⟨trivial, ?_⟩; gi_at_call 30; refine (Try.chunk_in Fence.wide (n - 1) trivial rfl _ _ _ _).mono ?_; rintro e w' ⟨rfl, rfl⟩)
  have bO := Boxed.new w 39 (.slice none 0 0)
  have bS := Boxed.new (w.alloc (.cells #[.slice none 0 0] 39)) 38 (.slice A xs.length c)
  rw [World.size_alloc] at bS
  have bN := Boxed.new ((w.alloc (.cells #[.slice none 0 0] 39)).alloc (.cells #[.slice A xs.length c] 38)) 3 (.int .i64 4)
  rw [World.size_alloc, World.size_alloc] at bN
  have hB0 : Below w.heap.size w (((w.alloc (.cells #[.slice none 0 0] 39)).alloc (.cells #[.slice A xs.length c] 38)).alloc (.cells #[.int .i64 4] 3)) :=
    (((Below.refl _ w).alloc (Nat.le_refl _) _).alloc (by simp) _).alloc (by simp; omega) _
  refine wpIn_rangeFunc_ownG rfl h1 (gf := 31) (lb := #[.pointer (some ⟨w.heap.size + 1, 0, none⟩), .pointer (some ⟨w.heap.size + 2, 0, none⟩)]) rfl trivial (enters_of Try.func31 (by kernel_rfl) rfl)
    (Try.ck_stops (n - 1) (by omega) (w.heap.size + 1) (w.heap.size + 2) A xs.length c hlc (by omega) hlen HA.out _ (by simp) (by simp) (bS.alloc _).cell bN.cell)
    (fun h1 h2 => h1.trans h2) (fun W l o o' hl _ _ _ => by simp at hl; exact ⟨kp_put W l o' _ (by omega), kp_put W l o' _ (by omega)⟩) (Below.refl _ _) (fun _ => rfl)
    (PkI w xs A c)
    (fun _ _ _ => False)
    (pkI_own w xs A c _ (by simp; omega))
    (fun _ _ _ _ _ hs _ _ => hs)
    ⟨⟨_, (bO.alloc _).alloc _, World.ownsRow_nil _ _ _ _, trivial⟩, hB0, bS.alloc _, bN⟩
    (fun k => { tmps := #[.slice A xs.length c, undef, .slice none 0 0, .pointer (some ⟨w.heap.size, 0, none⟩), ckA A xs.length k.1, .slice A xs.length c, .func (.func 31) #[] #[.pointer (some ⟨w.heap.size + 1, 0, none⟩), .pointer (some ⟨w.heap.size + 2, 0, none⟩)], ckA A xs.length k.1, undef, undef, undef, undef, undef, undef], defers := [] }) ?assign ?body ?done ?stop
  case assign =>
    intro l x W K hK
    gi_wp2
    exact hK
  case body =>
    rintro l pre ⟨k, hk⟩ W ⟨⟨v, hv, hrow, -⟩, hB, hS, hN⟩ hlt
    dsimp only
    have hr := fun W' (hb : Below w.heap.size w W') => of_ok _ _ W' (((ck_reads HR.out k (by omega)).below hb)) ((HX.out.drop _).take 4)
    rw [ofL_take] at hr
    have HRR := Lib.hid hr; clear hr
    have hb1 : Below w.heap.size w W.drew := hB.drew
    have hc := hv.cell
    have hc2 := (hv.alloc (.cells #[.int .u32 (Wd.ofL (xs.drop (4 * k)))] 22)).cell
    have hpl : pre.length < (xs.length + 3) / 4 := hlt
    have hxb := Wd.ofL_bounds (HX.out.drop (4 * k))
    obtain ⟨x, hx⟩ : ∃ x, x = Wd.ofL (xs.drop (4 * k)) := ⟨_, rfl⟩
    rw [← hx] at HRR hxb hc2
    have HXX := Lib.hid hx; clear hx
    have hrow2 := (hrow.alloc (.cells #[.int .u32 x] 22)).drew
    obtain ⟨v', w1, hrun, hown', hgrow, -, -⟩ := run_append_own_at (P := Try.prog) ((W.alloc (.cells #[.int .u32 x] 22)).drew) w.heap.size 39 39 22 i0 (.int .u32 0) 1 4 Try.underlying39 hi hz0 hz1 hz2 rfl (by decide) v _ _ hrow2 ⟨W.heap.size, 0, none⟩ 1 1 [.int .u32 x] rfl (cell_one_new W _ _) (by simp [Value.oneCell']) (by simp only [maxLen]; omega) (by omega) (by have := hB.size; simp; omega)
    have hgrow2 : (W.alloc (.cells #[.int .u32 x] 22)).grownBy w1 v.ownBlock := ⟨hgrow.os, hgrow.tape, hgrow.output, hgrow.size, hgrow.block⟩
    obtain ⟨g', cap', rfl⟩ := ownsRow_succ hown'
    obtain ⟨hv1, hv2, hr2, hk2, hb2⟩ := hv.appended (by decide) hrow hB.size (Nat.le_refl _) hown' hgrow2
    have hc1 := hv1.cell
    have hf1 := hv1.frozen
    have hS2 := ((hS.alloc (.cells #[.int .u32 x] 22)).kept hgrow2 (hS.not_row (by decide) hrow)).other (show w.heap.size + 1 ≠ w.heap.size by omega) (.slice (some ⟨g', 0, none⟩) (pre.length + 1) cap')
    have hN2 := ((hN.alloc (.cells #[.int .u32 x] 22)).kept hgrow2 (hN.not_row (by decide) hrow)).other (show w.heap.size + 2 ≠ w.heap.size by omega) (.slice (some ⟨g', 0, none⟩) (pre.length + 1) cap')
    clear hgrow hgrow2 hrow2
    gi_wp2
    have hcl := CallsIn.inRound (n := n - 1 - 1 - 1) l (callsIn_wide.2 (HRR.out W.drew hb1))
    have HCL := Lib.hid hcl; clear hcl
    refine wpIn_region_any hmix ?_
    change wpAnyIn _ _ _ _ _ _ _ _ _ (World.drew _)
    have hKP : Kp2 (w.heap.size + 1) (w.heap.size + 2) W (w1.setCell ⟨w.heap.size, 0, none⟩ (.slice (some ⟨g', 0, none⟩) (pre.length + 1) cap')) := ⟨hS2.trans hS.symm, hN2.trans hN.symm⟩
    have hII : ∃ v, Boxed (w1.setCell ⟨w.heap.size, 0, none⟩ (.slice (some ⟨g', 0, none⟩) (pre.length + 1) cap')) w.heap.size 39 v ∧ (w1.setCell ⟨w.heap.size, 0, none⟩ (.slice (some ⟨g', 0, none⟩) (pre.length + 1) cap')).ownsRow w.heap.size 22 1 v (pre ++ [(⟨k, hk⟩ : Fin ((xs.length + 3) / 4))]).length (((pre ++ [(⟨k, hk⟩ : Fin ((xs.length + 3) / 4))]).map fun k => Wd.ofL (xs.drop (4 * k.1))).map (Value.int .u32)) ∧ True :=
      ⟨_, hv2, by simpa [HXX.out] using hr2, trivial⟩
    have hBB := hB.trans hb2
    refine wpAnyIn_ready (rs := [0, 1]) (by kernel_rfl) (by simp) ?_
    refine AllReadyIn.cons rfl (fun K hK => ?_) (AllReadyIn.cons rfl (fun K hK => ?_) AllReadyIn.nil)
    · skip
      go_simp
      refine hK _ _ ?_; clear hK K
      refine wpAnyIn_ready (rs := [1]) (by kernel_rfl) (by simp) ?_
      refine AllReadyIn.cons rfl (fun K hK => ?_) AllReadyIn.nil
      go_simp
      refine hK _ _ ?_; clear hK K
      refine wpAnyIn_ready (rs := [2]) (by kernel_rfl) (by simp) ?_
      refine AllReadyIn.cons rfl (fun K hK => ?_) AllReadyIn.nil
      go_simp
      refine ⟨trivial, fun _ => by omega, ?_⟩
      refine HCL.out.mono ?_
      rintro e w' ⟨rfl, rfl⟩
      dsimp only
      refine hK _ _ ?_; clear hK K
      refine wpAnyIn_ready (rs := [3]) (by kernel_rfl) (by simp) ?_
      refine AllReadyIn.cons rfl (fun K hK => ?_) AllReadyIn.nil
      go_simp
      refine hK _ _ ?_; clear hK K
      refine wpAnyIn_ready (rs := [4]) (by kernel_rfl) (by simp) ?_
      refine AllReadyIn.cons rfl (fun K hK => ?_) AllReadyIn.nil
      refine step_append_run rfl (.tmp 8) (.tmp 11) 39 rfl v _ (by rfl) (by rfl) hrun ?_
      refine hK _ _ ?_; clear hK K
      simp only [Act.put, List.setIfInBounds_toArray, List.set_cons_zero, List.set_cons_succ]
      refine wpAnyIn_ready (rs := [5]) (by kernel_rfl) (by simp) ?_
      refine AllReadyIn.cons rfl (fun K hK => ?_) AllReadyIn.nil
      go_simp
      refine hK _ _ ?_; clear hK K
      refine wpAnyIn_done (by kernel_rfl) ?_ _
      exact ⟨hk2.from _, hKP, hII, hBB, hS2, hN2⟩
    · skip
      go_simp
      refine hK _ _ ?_; clear hK K
      refine wpAnyIn_ready (rs := [0, 2]) (by kernel_rfl) (by simp) ?_
      refine AllReadyIn.cons rfl (fun K hK => ?_) (AllReadyIn.cons rfl (fun K hK => ?_) AllReadyIn.nil)
      · skip
        go_simp
        refine hK _ _ ?_; clear hK K
        refine wpAnyIn_ready (rs := [2]) (by kernel_rfl) (by simp) ?_
        refine AllReadyIn.cons rfl (fun K hK => ?_) AllReadyIn.nil
        go_simp
        refine ⟨trivial, fun _ => by omega, ?_⟩
        refine HCL.out.mono ?_
        rintro e w' ⟨rfl, rfl⟩
        dsimp only
        refine hK _ _ ?_; clear hK K
        refine wpAnyIn_ready (rs := [3]) (by kernel_rfl) (by simp) ?_
        refine AllReadyIn.cons rfl (fun K hK => ?_) AllReadyIn.nil
        go_simp
        refine hK _ _ ?_; clear hK K
        refine wpAnyIn_ready (rs := [4]) (by kernel_rfl) (by simp) ?_
        refine AllReadyIn.cons rfl (fun K hK => ?_) AllReadyIn.nil
        refine step_append_run rfl (.tmp 8) (.tmp 11) 39 rfl v _ (by rfl) (by rfl) hrun ?_
        refine hK _ _ ?_; clear hK K
        simp only [Act.put, List.setIfInBounds_toArray, List.set_cons_zero, List.set_cons_succ]
        refine wpAnyIn_ready (rs := [5]) (by kernel_rfl) (by simp) ?_
        refine AllReadyIn.cons rfl (fun K hK => ?_) AllReadyIn.nil
        go_simp
        refine hK _ _ ?_; clear hK K
        refine wpAnyIn_done (by kernel_rfl) ?_ _
        exact ⟨hk2.from _, hKP, hII, hBB, hS2, hN2⟩
      · skip
        go_simp
        refine ⟨trivial, fun _ => by omega, ?_⟩
        refine HCL.out.mono ?_
        rintro e w' ⟨rfl, rfl⟩
        dsimp only
        refine hK _ _ ?_; clear hK K
        refine wpAnyIn_ready (rs := [0, 3]) (by kernel_rfl) (by simp) ?_
        refine AllReadyIn.cons rfl (fun K hK => ?_) (AllReadyIn.cons rfl (fun K hK => ?_) AllReadyIn.nil)
        · skip
          go_simp
          refine hK _ _ ?_; clear hK K
          refine wpAnyIn_ready (rs := [3]) (by kernel_rfl) (by simp) ?_
          refine AllReadyIn.cons rfl (fun K hK => ?_) AllReadyIn.nil
          go_simp
          refine hK _ _ ?_; clear hK K
          refine wpAnyIn_ready (rs := [4]) (by kernel_rfl) (by simp) ?_
          refine AllReadyIn.cons rfl (fun K hK => ?_) AllReadyIn.nil
          refine step_append_run rfl (.tmp 8) (.tmp 11) 39 rfl v _ (by rfl) (by rfl) hrun ?_
          refine hK _ _ ?_; clear hK K
          simp only [Act.put, List.setIfInBounds_toArray, List.set_cons_zero, List.set_cons_succ]
          refine wpAnyIn_ready (rs := [5]) (by kernel_rfl) (by simp) ?_
          refine AllReadyIn.cons rfl (fun K hK => ?_) AllReadyIn.nil
          go_simp
          refine hK _ _ ?_; clear hK K
          refine wpAnyIn_done (by kernel_rfl) ?_ _
          exact ⟨hk2.from _, hKP, hII, hBB, hS2, hN2⟩
        · skip
          go_simp
          refine hK _ _ ?_; clear hK K
          refine wpAnyIn_ready (rs := [0]) (by kernel_rfl) (by simp) ?_
          refine AllReadyIn.cons rfl (fun K hK => ?_) AllReadyIn.nil
          go_simp
          refine hK _ _ ?_; clear hK K
          refine wpAnyIn_ready (rs := [4]) (by kernel_rfl) (by simp) ?_
          refine AllReadyIn.cons rfl (fun K hK => ?_) AllReadyIn.nil
          refine step_append_run rfl (.tmp 8) (.tmp 11) 39 rfl v _ (by rfl) (by rfl) hrun ?_
          refine hK _ _ ?_; clear hK K
          simp only [Act.put, List.setIfInBounds_toArray, List.set_cons_zero, List.set_cons_succ]
          refine wpAnyIn_ready (rs := [5]) (by kernel_rfl) (by simp) ?_
          refine AllReadyIn.cons rfl (fun K hK => ?_) AllReadyIn.nil
          go_simp
          refine hK _ _ ?_; clear hK K
          refine wpAnyIn_done (by kernel_rfl) ?_ _
          exact ⟨hk2.from _, hKP, hII, hBB, hS2, hN2⟩
  case done =>
    rintro D ys W hD rfl ⟨⟨v, hv, hrow, -⟩, hB, hS, hN⟩ hK
    have hc := hv.cell
    gi_wp2
    refine ⟨by simp, .inl ⟨_, _, rfl, run_takeDeferred hK, ?_⟩⟩
    exact ⟨_, results_tmp rfl _ _ _, v, rfl, by
      have := ownsRow_putObj hrow (.deferred none) hK rfl
      rw [Wd.packL_len]
      simpa [Wd.packL, nums, finRange_map (fun k => Wd.ofL (xs.drop (4 * k)))] using this, hB.trans (belowK_b (w := w) (Nat.le_refl _) W D _ _ (by simp at hD; omega) hK rfl rfl)⟩
  case stop =>
    rintro D c pre W _ _ h _
    exact h.elim
theorem pack_ok (v : Value) (xs : List Int) (w : World) (h : Rd w v (nums .u8 xs)) (hx : Wd.Bytes xs) (hlen : xs.length ≤ 140737488355328) :
    Calls Try.prog 20 #[v] w fun e W' => ∃ u, e = .returned u ∧ W'.ownsRow w.heap.size 22 1 u (Wd.packL xs).length (nums .u32 (Wd.packL xs)) ∧ Below w.heap.size w W' :=
  callsIn_wide.1 (pack_in 3 (by decide) v xs w h hx hlen)
end Go.Proofs.Ytpcmfceoeflcoaa
