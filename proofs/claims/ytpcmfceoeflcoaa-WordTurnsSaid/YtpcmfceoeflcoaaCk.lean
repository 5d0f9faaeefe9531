import Derived.RangeFuncBox
import Derived.RangeFuncLeaves
import Derived.Shelf.Abstract
import Derived.Shelf.RegionOpen
import Derived.OwnWalkIn
import Derived.TacticsInMore
import Derived.LoopNIn
import Derived.LoopIn
import Derived.Sort.QuietIn
import Derived.Test.YtpcmfceoeflcoaaW3
namespace Go.Proofs.Ytpcmfceoeflcoaa
open Go.RowKit Go.Shelf
attribute [local go_sem] Oper.semAt_some
set_option linter.unusedVariables false
/-- Two blocks are as they were. -/
def Kp2 (b1 b2 : Nat) (W W' : World) : Prop := W'.heap[b1]? = W.heap[b1]? ∧ W'.heap[b2]? = W.heap[b2]?
theorem Kp2.trans {b1 b2 : Nat} {A B C : World} (h : Kp2 b1 b2 A B) (k : Kp2 b1 b2 B C) : Kp2 b1 b2 A C := ⟨k.1.trans h.1, k.2.trans h.2⟩
theorem Kp2.drewN {b1 b2 : Nat} {A B : World} (h : Kp2 b1 b2 A B) (n : Nat) : Kp2 b1 b2 A (B.drewN n) := h
theorem Kp2.c1 {b1 b2 : Nat} {A B : World} (h : Kp2 b1 b2 A B) (i : Nat) : B.cell? ⟨b1, i, none⟩ = A.cell? ⟨b1, i, none⟩ := World.cell?_of_block h.1
theorem Kp2.c2 {b1 b2 : Nat} {A B : World} (h : Kp2 b1 b2 A B) (i : Nat) : B.cell? ⟨b2, i, none⟩ = A.cell? ⟨b2, i, none⟩ := World.cell?_of_block h.2
/-- The chunk that begins at 4 * k. -/
def ckV (ad : Addr) (len k : Nat) : Value := .slice (some (ad.add (4 * k))) (min 4 (len - 4 * k)) (min 4 (len - 4 * k))
theorem Try.chunk_in (F : Fence) (n : Nat) (h : F.fn 30) (hro : F.round = none) (a : Option Addr) (len cap : Nat) (w : World) :
    CallsIn F n Try.prog 30 #[.slice a len cap, .int .i64 4] w fun e w' =>
      e = .returned (.func (.func 31) #[] #[.pointer (some ⟨w.heap.size, 0, none⟩), .pointer (some ⟨w.heap.size + 1, 0, none⟩)]) ∧
        w' = (w.alloc (.cells #[.slice a len cap] 38)).alloc (.cells #[.int .i64 4] 3) := by
  refine callsIn_of_wp Try.func30 rfl h ?_ hro
  simp only [Try.ntmps30, List.size_toArray, List.length_cons, List.length_nil, Nat.reduceAdd, Nat.reduceSub, Array.replicate_succ, Array.replicate_zero, List.push_toArray, List.append_toArray, List.nil_append, List.cons_append]
  gi_wp2
  go_ret
  exact ⟨rfl, rfl⟩
set_option maxRecDepth 100000 in
set_option maxHeartbeats 1000000 in
theorem Try.ck_in (n : Nat) (hn : 1 ≤ n) (l Bs Bn : Nat) (ad : Addr) (len cap : Nat) (hlc : len ≤ cap) (hm : cap ≤ 9223372036854775807) (hm2 : len ≤ 140737488355328) (J Jx : Nat → World → Prop) (hJ : ∀ s W W', J s W → W.grownBy W' none → J s W')
    (hY : ∀ k W, J k W → k < (len + 3) / 4 → YieldAt Fence.wide (n - 1) Try.prog l #[ckV ad len k] W fun e W' =>
      (e = .returned (.bool true) ∧ J (k + 1) W' ∧ Kp2 Bs Bn W W') ∨ (e = .returned (.bool false) ∧ Jx (k + 1) W'))
    (W : World) (hBs : W.cell? ⟨Bs, 0, none⟩ = some (.slice (some ad) len cap)) (hBn : W.cell? ⟨Bn, 0, none⟩ = some (.int .i64 4)) (h0 : J 0 W) :
    CallsIn Fence.wide n Try.prog 31 #[.func (.yield l) #[] #[], .pointer (some ⟨Bs, 0, none⟩), .pointer (some ⟨Bn, 0, none⟩)] W fun e W' => (∃ v, e = .returned v) ∧
      (J ((len + 3) / 4) W' ∨ (∃ k, k ≤ (len + 3) / 4 ∧ Jx k W')) := by
  refine callsIn_of_wp Try.func31 rfl trivial ?_ rfl
  simp only [Try.ntmps31, List.size_toArray, List.length_cons, List.length_nil, Nat.reduceAdd, Nat.reduceSub, Array.replicate_succ, Array.replicate_zero, List.push_toArray, List.append_toArray, List.nil_append, List.cons_append]
  gi_wp2
  gi_loopw [4] (fun i wr => ∃ k : Nat, k ≤ (len + 3) / 4 ∧ i = .int .i64 (4 * k) ∧ J k wr ∧ Kp2 Bs Bn W wr)
    (fun i _ => len + 4 - (intOf i).toNat)
  case atStart => exact ⟨0, Nat.zero_le _, rfl, h0, rfl, rfl⟩
  case round =>
    obtain ⟨k, hk, rfl, hJs, hnx⟩ := hrel
    have hcs := (hnx.c1 0).trans hBs
    have hcn := (hnx.c2 0).trans hBn
    by_cases hlt : k < (len + 3) / 4
    · have hli : 4 * (k : Int) < len := by omega
      have hlc' : 4 * (k : Int) < cap := by omega
      have hlc2 : ¬ cap = 4 * k := by omega
      by_cases h4 : 4 ≤ len - 4 * k
      · have h4' : (4 : Int) ≤ (len : Int) - 4 * k := by omega
        have hv : ckV ad len k = .slice (some (ad.add (4 * k))) 4 4 := by unfold ckV; rw [Nat.min_eq_left (by omega)]
        gi_wp2
        gi_quiet (fail)
        have hJs' := hJ _ _ (wr.drewN nq) hJs ⟨rfl, rfl, rfl, Nat.le_refl _, fun _ _ _ => rfl⟩
        have hnx' := hnx.drewN nq
        clear hJs
        obtain ⟨fn, tmps, assign, body, hy, hR⟩ := hY k (wr.drewN nq) hJs' hlt
        rw [hv] at hy
        clear hv
        gi_wp2
        refine hR.mono ?_
        rintro e W3 (⟨rfl, hJ3, hk3⟩ | ⟨rfl, hJx3⟩)
        · have hc3 := (hk3.c2 0).trans (show (wr.drewN nq).cell? ⟨Bn, 0, none⟩ = _ from hcn)
          gi_wp2
          go_roundw
          case rel => exact ⟨k + 1, by omega, by go_num, hJ3, hnx'.trans hk3⟩
          case measure => simp [intOf]; omega
        · gi_wp2
          refine bodyPost_ret (results_none rfl _ _ _) rfl ?_
          exact ⟨⟨_, rfl⟩, .inr ⟨k + 1, by omega, hJx3⟩⟩
      · have h4' : (len : Int) - 4 * k < 4 := by omega
        have h4'' : ((len - 4 * k : Nat) : Int) < 4 := by omega
        have hv : ckV ad len k = .slice (some (ad.add (4 * k))) (len - 4 * k) (len - 4 * k) := by unfold ckV; rw [Nat.min_eq_right (by omega)]
        gi_wp2
        gi_quiet (fail)
        have hJs' := hJ _ _ (wr.drewN nq) hJs ⟨rfl, rfl, rfl, Nat.le_refl _, fun _ _ _ => rfl⟩
        have hnx' := hnx.drewN nq
        clear hJs
        obtain ⟨fn, tmps, assign, body, hy, hR⟩ := hY k (wr.drewN nq) hJs' hlt
        rw [hv] at hy
        clear hv
        gi_wp2
        refine hR.mono ?_
        rintro e W3 (⟨rfl, hJ3, hk3⟩ | ⟨rfl, hJx3⟩)
        · have hc3 := (hk3.c2 0).trans (show (wr.drewN nq).cell? ⟨Bn, 0, none⟩ = _ from hcn)
          gi_wp2
          go_roundw
          case rel => exact ⟨k + 1, by omega, by go_num, hJ3, hnx'.trans hk3⟩
          case measure => simp [intOf]; omega
        · gi_wp2
          refine bodyPost_ret (results_none rfl _ _ _) rfl ?_
          exact ⟨⟨_, rfl⟩, .inr ⟨k + 1, by omega, hJx3⟩⟩
    · have hkl : k = (len + 3) / 4 := by omega
      have hli : ¬ 4 * (k : Int) < len := by omega
      have HK := Lib.hid hkl; clear hkl
      gi_wp2
      go_end0
      exact ⟨⟨_, rfl⟩, .inl (by rw [← HK.out]; exact hJs)⟩

set_option maxRecDepth 100000 in
/-- .. at a slice of no bytes: no round. -/
theorem Try.ck_nil_in (n : Nat) (l Bs Bn : Nat) (A : Option Addr) (cap : Nat) (J : Nat → World → Prop) (W : World) (hBs : W.cell? ⟨Bs, 0, none⟩ = some (.slice A 0 cap)) (h0 : J 0 W) :
    CallsIn Fence.wide n Try.prog 31 #[.func (.yield l) #[] #[], .pointer (some ⟨Bs, 0, none⟩), .pointer (some ⟨Bn, 0, none⟩)] W fun e W' => (∃ v, e = .returned v) ∧ J 0 W' := by
  refine callsIn_of_wp Try.func31 rfl trivial ?_ rfl
  simp only [Try.ntmps31, List.size_toArray, List.length_cons, List.length_nil, Nat.reduceAdd, Nat.reduceSub, Array.replicate_succ, Array.replicate_zero, List.push_toArray, List.append_toArray, List.nil_append, List.cons_append]
  gi_wp2
  gi_loopw [4] (fun i wr => i = .int .i64 0 ∧ J 0 wr ∧ wr.cell? ⟨Bs, 0, none⟩ = some (.slice A 0 cap)) (fun _ _ => 0)
  case atStart => exact ⟨rfl, h0, hBs⟩
  case round =>
    obtain ⟨rfl, hJs, hc⟩ := hrel
    gi_wp2
    go_end0
    exact ⟨⟨_, rfl⟩, hJs⟩
/-- The chunk that begins at 4 * k, of whatever slice. -/
def ckA (A : Option Addr) (len k : Nat) : Value := ckV (A.getD ⟨0, 0, none⟩) len k
theorem Try.ck_stops (n : Nat) (hn : 1 ≤ n) (Bs Bn : Nat) (A : Option Addr) (len cap : Nat) (hlc : len ≤ cap) (hm : cap ≤ 9223372036854775807) (hm2 : len ≤ 140737488355328) (hA : 0 < len → ∃ ad, A = some ad) (w : World) (hBs : Bs < w.heap.size) (hBn : Bn < w.heap.size)
    (hc : w.cell? ⟨Bs, 0, none⟩ = some (.slice A len cap)) (hc2 : w.cell? ⟨Bn, 0, none⟩ = some (.int .i64 4)) :
    SeqStopsK Fence.wide n Try.prog 31 #[.pointer (some ⟨Bs, 0, none⟩), .pointer (some ⟨Bn, 0, none⟩)] (fun k : Fin ((len + 3) / 4) => #[ckA A len k.1]) (Kp2 Bs Bn)
      (fun ys => ys = List.finRange ((len + 3) / 4)) (fun _ => True) ((len + 3) / 4) w := fun l J Jx W hW hJ _ hY h0 => by
  have hc' := (hW.cell (p := ⟨Bs, 0, none⟩) hBs).trans hc
  have hc2' := (hW.cell (p := ⟨Bn, 0, none⟩) hBn).trans hc2
  have hfull : (List.finRange ((len + 3) / 4)).take ((len + 3) / 4) = List.finRange ((len + 3) / 4) := List.take_of_length_le (by simp)
  rcases Nat.eq_zero_or_pos len with hz | hp
  · subst hz
    exact (Try.ck_nil_in n l Bs Bn A cap (fun _ W => J [] W) W hc' h0).mono fun e W' ⟨he, hj⟩ => ⟨he, .inl ⟨[], by rfl, hj⟩⟩
  · obtain ⟨ad, rfl⟩ := hA hp
    refine (Try.ck_in n hn l Bs Bn ad len cap hlc hm hm2 (fun k W => J ((List.finRange ((len + 3) / 4)).take k) W) (fun k W => Jx ((List.finRange ((len + 3) / 4)).take k) W) (fun s W W' hs hg => hJ _ W W' none hs hg (by simp)) (fun k W hj hk => ?_) W hc' hc2' (by simpa using h0)).mono ?_
    · have := hY _ ⟨k, hk⟩ W hj (by rw [List.length_take, List.length_finRange]; omega)
      have e : (List.finRange ((len + 3) / 4)).take (k + 1) = (List.finRange ((len + 3) / 4)).take k ++ [⟨k, hk⟩] := by
        rw [List.take_succ_eq_append_getElem (by rw [List.length_finRange]; exact hk)]
        congr 2
        simp
      rw [e]
      exact this
    · rintro e W' ⟨he, hj | ⟨k, _, hj⟩⟩
      · exact ⟨he, .inl ⟨_, rfl, by rw [← hfull]; exact hj⟩⟩
      · exact ⟨he, .inr ⟨_, trivial, hj⟩⟩
end Go.Proofs.Ytpcmfceoeflcoaa
