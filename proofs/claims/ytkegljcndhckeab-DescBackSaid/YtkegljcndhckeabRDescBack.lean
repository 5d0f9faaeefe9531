/- The statement on DescBack: for every input the law returns true, and each argument reads behind the call as it read before. -/
import Derived.Test.YtkegljcndhckeabLDescBack
import Derived.Test.YtkegljcndhckeabOp
import Derived.ProofKit
import Derived.OpenShut
import Derived.ShutString
import Derived.ChangeOld
import Derived.SizedLaws
import Derived.Carry
namespace Go.Proofs.Ytkegljcndhckeab.descBackRow
open Go.ChangeShapes Go.WideShapes Go.ChangeAt Go.RowKit
open Go.ChangeMaps (open_string shut_string)
set_option linter.unusedVariables false
theorem own : ownKnob Try.prog.godebug = none := by kernel_rfl
theorem laidOut : laidOutB Try.prog = true := by kernel_rfl
theorem by22 : Try.prog.bytesOf 22 = 4 := by kernel_rfl
set_option maxRecDepth 100000 in
theorem lifted (os : Os) (started : os.Started) (H : Type) (enc : TypeId × Value → H) :
    ReturnsInHanded {} Try.checked os 6 .any (Rows.descBackSpec.pre6 enc Try.prog Try.f6 Rows.descBackRow.domain false) (Rows.descBackSpec.post enc Try.prog Try.f6 false true false false) := by
  refine returnsInHanded_of_change_sized (C := Try.checked) own started (by kernel_rfl) Try.func6
    (ChangeSpec.witness6 (enc := enc) (C := Try.checked) false ⟨#[], #[.agg #[.bool false, .bool false, .bool false, .bool false, .bool false, .int .i64 0, .int .u32 0, .int .i64 0, .int .u32 0], .slice none 0 0, .int .u8 0], []⟩ 8 (by kernel_rfl) (by kernel_rfl) (by kernel_rfl) (by kernel_rfl)) ?_
  intro W base args ds gs before hval0 hW hcnd hsz0 _
  have hval : ∀ (j : Nat) t v, Try.f6.params[j]? = some t → args[j]? = some v → Value.okWide Try.prog W .any base t v := hval0
  have hsz : (DataW.weightsEach Try.prog (Try.f6.params.toList ++ Rows.descBackSpec.plain.varTypes Try.prog) (ds ++ gs)).all (· ≤ reachBytes) = true := hsz0
  have hW' := hW
  obtain ⟨p, q, hA0, hV, rfl, hfz, hnd⟩ := hW
  have hA : DataW.TrodAll enc Try.prog W 0 (fun _ => true) true Try.f6.params.toList args.toList ds p := hA0
  rw [Try.params6] at hA hval hsz
  obtain ⟨v0, vs0, d0, ds0, p0, q0, hargs, rfl, rfl, h0, r0⟩ := trodAll_cons hA
  obtain ⟨v1, vs1, d1, ds1, p1, q1, rfl, rfl, rfl, h1, r1⟩ := trodAll_cons r0
  obtain ⟨v2, vs2, d2, ds2, p2, q2, rfl, rfl, rfl, h2, r2⟩ := trodAll_cons r1
  obtain ⟨rfl, rfl, rfl⟩ := trodAll_nil r2
  obtain rfl : args = #[v0, v1, v2] := by cases args; simp_all
  obtain ⟨rfl, rfl⟩ := trodVars_none hV
  have k0 := h0
  have lt0 : ∀ x ∈ p0, x.block < W.heap.size := by obtain ⟨m, hm⟩ := k0; exact DataW.trod_lt m _ _ _ hm
  obtain ⟨l0, m0, rfl, hl0, hf0⟩ := open_struct Try.underlying24 (by kernel_rfl) (by kernel_rfl) (hval 0 24 v0 rfl rfl) h0
  obtain ⟨s0_0, s0_1, s0_2, s0_3, s0_4, s0_5, s0_6, s0_7, s0_8, rfl⟩ := list9 hl0
  obtain ⟨c, y, e, tr⟩ := hf0 0 _ rfl
  obtain rfl : s0_0 = c := Option.some.inj e
  obtain ⟨a0_0, e, -⟩ := DataW.trod_bool Try.underlying4 tr
  obtain rfl := (List.cons.inj e).1
  obtain ⟨c, y, e, tr⟩ := hf0 1 _ rfl
  obtain rfl : s0_1 = c := Option.some.inj e
  obtain ⟨a0_1, e, -⟩ := DataW.trod_bool Try.underlying4 tr
  obtain rfl := (List.cons.inj e).1
  obtain ⟨c, y, e, tr⟩ := hf0 2 _ rfl
  obtain rfl : s0_2 = c := Option.some.inj e
  obtain ⟨a0_2, e, -⟩ := DataW.trod_bool Try.underlying4 tr
  obtain rfl := (List.cons.inj e).1
  obtain ⟨c, y, e, tr⟩ := hf0 3 _ rfl
  obtain rfl : s0_3 = c := Option.some.inj e
  obtain ⟨a0_3, e, -⟩ := DataW.trod_bool Try.underlying4 tr
  obtain rfl := (List.cons.inj e).1
  obtain ⟨c, y, e, tr⟩ := hf0 4 _ rfl
  obtain rfl : s0_4 = c := Option.some.inj e
  obtain ⟨a0_4, e, -⟩ := DataW.trod_bool Try.underlying4 tr
  obtain rfl := (List.cons.inj e).1
  obtain ⟨c, y, e, tr⟩ := hf0 5 _ rfl
  obtain rfl : s0_5 = c := Option.some.inj e
  obtain ⟨a0_5, e, -, w0_5⟩ := DataW.trod_int Try.underlying3 tr
  obtain rfl := (List.cons.inj e).1
  obtain ⟨c, y, e, tr⟩ := hf0 6 _ rfl
  obtain rfl : s0_6 = c := Option.some.inj e
  obtain ⟨a0_6, e, -, w0_6⟩ := DataW.trod_int Try.underlying22 tr
  obtain rfl := (List.cons.inj e).1
  obtain ⟨c, y, e, tr⟩ := hf0 7 _ rfl
  obtain rfl : s0_7 = c := Option.some.inj e
  obtain ⟨a0_7, e, -, w0_7⟩ := DataW.trod_int Try.underlying3 tr
  obtain rfl := (List.cons.inj e).1
  obtain ⟨c, y, e, tr⟩ := hf0 8 _ rfl
  obtain rfl : s0_8 = c := Option.some.inj e
  obtain ⟨a0_8, e, -, w0_8⟩ := DataW.trod_int Try.underlying22 tr
  obtain rfl := (List.cons.inj e).1
  have k1 := h1
  have lt1 : ∀ x ∈ p1, x.block < W.heap.size := by obtain ⟨m, hm⟩ := k1; exact DataW.trod_lt m _ _ _ hm
  obtain ⟨b1, n1, c1, rfl⟩ := okWide_slice Try.underlying26 (hval 1 26 v1 rfl rfl)
  obtain ⟨xs1, w1, x1, l1⟩ : ∃ xs : List Int, Rd W (.slice b1 n1 c1) (nums .u32 xs) ∧ (∀ n ∈ xs, (Lit.int .u32 n).wf = true) ∧ xs.length * 4 ≤ 140737488351232 := by
    obtain ⟨fuel, hf⟩ := h1
    rcases open_ints Try.underlying26 Try.underlying22 (by kernel_rfl) hf with ⟨hcs, _⟩ | ⟨x, l, c, zs, hcs, _, hl, hm, hz, hx, hcell, hwz⟩
    · simp [Value.cells] at hcs
      obtain ⟨rfl, rfl, rfl⟩ := hcs
      exact ⟨[], Rd.nil W, by simp, by simp⟩
    · simp [Value.cells] at hcs
      obtain ⟨rfl, rfl, rfl⟩ := hcs
      have hz2 : zs.length = c1 := by simpa using hz
      have hd : d1 = .slice (lits .u32 (zs.take n1)) (lits .u32 (zs.drop n1)) := congrArg Prod.fst hx
      have hs := sized_slice hsz (j := 1) (t := 26) (e := 22) rfl (by rw [hd]; rfl) Try.underlying26
      rw [by22] at hs
      simp only [lits, List.length_map, List.length_take, List.length_drop, reachBytes] at hs
      refine ⟨zs.take n1, rd_row hl hm hz2 hcell, fun y hy => hwz y (List.mem_of_mem_take hy), ?_⟩
      rw [List.length_take]; omega
  have k2 := h2
  have lt2 : ∀ x ∈ p2, x.block < W.heap.size := by obtain ⟨m, hm⟩ := k2; exact DataW.trod_lt m _ _ _ hm
  obtain ⟨a2, rfl, -, -, w2⟩ := open_int Try.underlying5 (hval 2 5 v2 rfl rfl) h2
  refine (descBack_walk ⟨a0_0, a0_1, a0_2, a0_3, a0_4, a0_5, a0_6, a0_7, a0_8⟩ (.slice b1 n1 c1) xs1 a2 W ⟨w0_5, w0_6, w0_7, w0_8⟩ w1 x1 l1 w2).mono fun e W' ⟨he, bel⟩ => ?_
  subst he
  exact ⟨_, rfl, _, _, _, [], _, [], hW', trodAll_mk1 (shut_bool Try.underlying4 _), (trodAll_cons_mk (Below.trod laidOut (by kernel_rfl) (of_decide_eq_true (by kernel_rfl)) k0 bel lt0) (trodAll_cons_mk (Below.trod laidOut (by kernel_rfl) (of_decide_eq_true (by kernel_rfl)) k1 bel lt1) (trodAll_cons_mk (Below.trod laidOut (by kernel_rfl) (of_decide_eq_true (by kernel_rfl)) k2 bel lt2) trodAll_mk0))), rfl, bel.frame _, fun h => by cases h⟩
theorem over : Rows.descBackRow.holds Try.pinned (OpenSpec.ofChange Rows.descBackSpec) :=
  OpenClaim.holds_of_wide 6 Try.f6 rfl rfl rfl rfl rfl rfl rfl ⟨rfl, rfl, rfl, rfl, rfl⟩ rfl rfl rfl rfl rfl (by kernel_rfl) Try.func6 (by kernel_rfl)
    (of_decide_eq_true (by kernel_rfl)) (by unfold Func.isWrapper; first | (rw [if_pos (by decide +kernel)]; kernel_rfl) | (rw [if_neg (by decide +kernel)]; exact ⟨rfl, rfl⟩))
    (fun os started H enc _ => lifted os started H enc)
end Go.Proofs.Ytkegljcndhckeab.descBackRow
namespace Go.Proofs.Ytkegljcndhckeab
theorem descBack_holds : Rows.DescBackSaid := descBackRow.over
#print axioms descBack_holds
end Go.Proofs.Ytkegljcndhckeab
