import Derived.Test.YtkegljcndhckeacM7
namespace Go.Proofs.Ytkegljcndhckeac
open Go.RowKit
set_option linter.unusedVariables false
namespace Md
theorem set_new (a r was : Nat) (hr : r < 32) : set (new a) r was = { new a with regs := (List.replicate 32 (0 : Int)).set r was } := by
  unfold set; rw [if_pos (by omega)]; rfl
theorem getD_set (l : List Int) (r : Nat) (x : Int) (h : r < l.length) : (l.set r x).getD r 0 = x := by
  simp [List.getD_eq_getElem?_getD, h]
theorem getD_set_ne (l : List Int) (r k : Nat) (x : Int) (h : k ≠ r) : (l.set r x).getD k 0 = l.getD k 0 := by
  simp [List.getD_eq_getElem?_getD, List.getElem?_set_ne (Ne.symm h)]
/-- What the write and the read leave. -/
theorem back_law (a p r v was : Nat) (ha : a < 32) (hp : p < 32) (hr : r < 32) (hv : v < 65536) (hwas : was < 65536) (s1 s2 s3 : S) (x : Nat) (e1 : s1 = set (new a) r was) (e2 : s2 = (send s1 (frameN 1 p r v)).1)
    (e3 : (s3, x) = send s2 (frameN 2 p r 0)) : if p = a then x = v ∧ get s3 r = v ∧ s3.took = true ∧ s3.to = r ∧ s3.v = v else x = 65535 ∧ get s3 r = was ∧ s3.took = false := by
  have f1 : IsFrame (frameN 1 p r v) 1 p r v := ⟨rfl, .inl rfl, hp, hr, hv⟩
  have f2 : IsFrame (frameN 2 p r 0) 2 p r 0 := ⟨rfl, .inr rfl, hp, hr, by decide⟩
  rw [set_new a r was hr] at e1
  have g1 : s1.regs.getD r 0 = was := by rw [e1]; exact getD_set _ _ _ (by simpa using hr)
  have l1 : s1.regs.length = 32 := by rw [e1]; simp
  rw [send_frame s1 _ 1 p r v f1 (by rw [e1]; rfl) (by rw [e1]; simp [new]) (by omega)] at e2
  have ad : s1.addr = a := by rw [e1]; rfl
  have tk : s1.took = false := by rw [e1]; rfl
  clear e1
  by_cases c : p = a
  · subst c
    rw [if_pos rfl]
    rw [if_pos ⟨by rw [ad], rfl⟩] at e2
    have g2 : s2.regs.getD r 0 = v := by rw [e2]; exact getD_set _ _ _ (by rw [l1]; exact hr)
    rw [send_frame s2 _ 2 p r 0 f2 (by rw [e2]) (by rw [e2]; simp) (by omega), if_neg (by simp), if_pos ⟨by rw [e2]; exact ad.symm, by decide⟩, g2] at e3
    obtain ⟨rfl, rfl⟩ := Prod.mk.inj e3
    refine ⟨rfl, ?_, by simp only; rw [e2], by simp only; rw [e2], by simp only; rw [e2]⟩
    unfold get
    rw [if_pos (by omega)]
    exact g2
  · rw [if_neg c]
    rw [if_neg (by rintro ⟨h, _⟩; rw [ad] at h; omega)] at e2
    have g2 : s2.regs.getD r 0 = was := by rw [e2]; exact g1
    rw [send_frame s2 _ 2 p r 0 f2 (by rw [e2]) (by rw [e2]; simp) (by omega), if_neg (by simp), if_neg (by rintro ⟨h, _⟩; rw [e2] at h; simp only at h; rw [ad] at h; omega)] at e3
    obtain ⟨rfl, rfl⟩ := Prod.mk.inj e3
    refine ⟨rfl, ?_, by simp only; rw [e2]; exact tk⟩
    unfold get
    rw [if_pos (by omega)]
    exact g2
end Md
set_option maxHeartbeats 1000000 in
theorem mdioBack_any (a p r v was : Nat) (w : World) (ha : a < 32) (hp : p < 32) (hr : r < 32) (hv : v < 65536) (hwas : was < 65536) (n1 n2 n3 : Int) (q1 : 0 ≤ n1 ∧ n1 < 256) (q2 : 0 ≤ n2 ∧ n2 < 256) (q3 : 0 ≤ n3 ∧ n3 < 256) (k1 : n1 % 32 = a) (k2 : n2 % 32 = p) (k3 : n3 % 32 = r) :
    Calls Try.prog 5 #[.int .u8 n1, .int .u8 n2, .int .u8 n3, .int .u16 v, .int .u16 was] w fun e w' => e = .returned (.bool true) ∧ Below w.heap.size w w' := by
  obtain ⟨s1, e1⟩ : ∃ s1, s1 = Md.set (Md.new a) r was := ⟨_, rfl⟩
  obtain ⟨s2, e2⟩ : ∃ s2, s2 = (Md.send s1 (Md.frameN 1 p r v)).1 := ⟨_, rfl⟩
  obtain ⟨s3, x, e3⟩ : ∃ s3 x, (s3, x) = Md.send s2 (Md.frameN 2 p r 0) := ⟨_, _, rfl⟩
  have hlaw := Md.back_law a p r v was ha hp hr hv hwas s1 s2 s3 x e1 e2 e3
  have e30 := Lib.hid (show (Md.send s2 (Md.frameN 2 p r 0)).1 = s3 by rw [← e3])
  have e31 := Lib.hid (show (Md.send s2 (Md.frameN 2 p r 0)).2 = x by rw [← e3])
  have E1 := Lib.hid e1.symm; have E2 := Lib.hid e2.symm
  have o1 := Lib.hid ((Md.Ok.new a (by omega)).set r was (by omega))
  have hse := Lib.hid (show Md.setE (r : Int) = 0 by unfold Md.setE; rw [if_pos (by omega)])
  rw [E1.out] at o1
  have o2 := Lib.hid (o1.out.send (Md.frameN 1 p r v))
  rw [E2.out] at o2
  have o3 := Lib.hid (o2.out.send (Md.frameN 2 p r 0))
  rw [e30.out] at o3
  have LAW := Lib.hid hlaw
  have K1 := Lib.hid k1; have K2 := Lib.hid k2; have K3 := Lib.hid k3
  obtain ⟨a1, a2⟩ := q1; obtain ⟨b1, b2⟩ := q2; obtain ⟨c1, c2⟩ := q3
  clear e1 e2 e3 hlaw k1 k2 k3
  go_enter Try.func5, Try.ntmps5
  go_wp2_with fail
  refine (mshown_ok _).mono ?_
  rintro e w1 ⟨rfl, hb⟩
  have HB := Lib.hid hb
  clear hb
  go_wp2_with fail
  rw [K1.out, K2.out, K3.out]
  refine (mnew_ok (a : Int) (by omega) _).mono ?_
  rintro e w2 ⟨rfl, hS, hb⟩
  have HM := Lib.hid hb
  have HS := Lib.hid hS
  clear hS hb
  go_wp2_with fail
  refine (set_ok w1.heap.size _ (r : Int) (was : Int) (by omega) _ HS.out).mono ?_
  rintro e w3 ⟨rfl, hS, hM⟩
  rw [hse.out]
  rw [E1.out] at hS
  have HM2 := Lib.hid hM
  replace HS := Lib.hid hS
  clear hS hM
  go_wp2_with fail
  refine (mwrite_ok w1.heap.size _ p r v hp hr hv _ HS.out o1.out).mono ?_
  rintro e w4 ⟨rfl, hS, hM⟩
  rw [E2.out] at hS
  replace HM2 := Lib.hid (HM2.out.trans hM)
  replace HS := Lib.hid hS
  clear hS hM
  go_wp2_with fail
  refine (mread_ok w1.heap.size _ p r hp hr _ HS.out o2.out).mono ?_
  rintro e w5 ⟨rfl, hS, hM⟩
  rw [e30.out] at hS
  rw [e31.out]
  replace HM2 := Lib.hid (HM2.out.trans hM)
  replace HS := Lib.hid hS
  clear hS hM
  by_cases c : p = a
  · have hl := LAW.out
    rw [if_pos c] at hl
    obtain ⟨l1, l2, l3, l4, l5⟩ := hl
    subst c
    subst l1
    have L2 := Lib.hid l2; have L3 := Lib.hid l3; have L4 := Lib.hid l4; have L5 := Lib.hid l5
    have cb : ((p : Int) != (p : Int)) = false := by simp
    clear l2 l3 l4 l5
    go_wp2_with fail
    refine (took_ok w1.heap.size s3 _ HS.out L3.out).mono ?_
    rintro e w6 ⟨rfl, hS, hM⟩
    rw [L4.out, L5.out]
    replace HM2 := Lib.hid (HM2.out.trans hM)
    replace HS := Lib.hid hS
    clear hS hM
    go_wp2_with fail
    refine (get_ok w1.heap.size _ (r : Int) _ HS.out).mono ?_
    rintro e w7 ⟨rfl, rfl⟩
    rw [show Md.get { s3 with took := false } (r : Int) = x from L2.out]
    go_wp2
    go_ret
    exact ⟨rfl, (HB.out.trans (HM.out.mono HB.out.size)).trans ((HM2.out.below HM.out.size (by intro k hk; simp at hk; omega)).mono HB.out.size)⟩
  · have hl := LAW.out
    rw [if_neg c] at hl
    obtain ⟨l1, l2, l3⟩ := hl
    subst l1
    have L2 := Lib.hid l2; have L3 := Lib.hid l3
    have cb : ((p : Int) != (a : Int)) = true := by simp; omega
    clear l2 l3 c
    go_wp2_with fail
    refine (took_no w1.heap.size s3 _ HS.out L3.out).mono ?_
    rintro e w6 ⟨rfl, rfl⟩
    go_wp2_with fail
    refine (get_ok w1.heap.size _ (r : Int) _ HS.out).mono ?_
    rintro e w7 ⟨rfl, rfl⟩
    rw [L2.out]
    go_wp2
    go_ret
    exact ⟨rfl, (HB.out.trans (HM.out.mono HB.out.size)).trans ((HM2.out.below HM.out.size (by intro k hk; simp at hk; omega)).mono HB.out.size)⟩
theorem mdioBack_walk (n1 n2 n3 v was : Int) (w : World) (x1 : (Lit.int .u8 n1).wf = true) (x2 : (Lit.int .u8 n2).wf = true) (x3 : (Lit.int .u8 n3).wf = true) (x4 : (Lit.int .u16 v).wf = true) (x5 : (Lit.int .u16 was).wf = true) :
    Calls Try.prog 5 #[.int .u8 n1, .int .u8 n2, .int .u8 n3, .int .u16 v, .int .u16 was] w fun e w' => e = .returned (.bool true) ∧ Below w.heap.size w w' := by
  have h4 := wf_u16 x4; have h5 := wf_u16 x5
  obtain ⟨v, rfl⟩ := Int.eq_ofNat_of_zero_le h4.1
  obtain ⟨was, rfl⟩ := Int.eq_ofNat_of_zero_le h5.1
  exact mdioBack_any (n1 % 32).toNat (n2 % 32).toNat (n3 % 32).toNat v was w (by omega) (by omega) (by omega) (by omega) (by omega) n1 n2 n3 (wf_u8 x1) (wf_u8 x2) (wf_u8 x3) (by omega) (by omega) (by omega)
end Go.Proofs.Ytkegljcndhckeac
