import Derived.Test.YtkegljcndhckeadD7
namespace Go.Proofs.Ytkegljcndhckead
open Go.RowKit
set_option linter.unusedVariables false
theorem own_keep {w w' : World} {base n size : Nat} {e : TypeId} {v : Value} {xs : List Value} (h : w.ownsRow base e size v n xs) (hk : ∀ g, v.ownBlock = some g → w'.heap[g]? = w.heap[g]?) : w'.ownsRow base e size v n xs := by
  refine ⟨h.1, ?_⟩
  rcases h.2 with h | ⟨g, cap, cur, hv, hg, hh, r⟩
  · exact .inl h
  · exact .inr ⟨g, cap, cur, hv, hg, (hk g (by subst hv; simp [Value.ownBlock])).trans hh, r⟩
theorem own_mv {w w' : World} {F F' : List Nat} {base n size : Nat} {e : TypeId} {v : Value} {xs : List Value} (h : w.ownsRow base e size v n xs) (hm : Mv F F' w w') (ha : ∀ g, v.ownBlock = some g → g ∉ F) : w'.ownsRow base e size v n xs :=
  own_keep h fun g hg => hm.block g (h.lt g hg).2 (ha g hg)
/-- A row of the call's own grows. -/
theorem Mv.grown {F F' : List Nat} {a b c : World} {row : Option Nat} (h : Mv F F' a b) (hg : b.grownBy c row) (hr : ∀ k, row = some k → a.heap.size ≤ k) : Mv F F' a c :=
  ⟨hg.os.trans h.os, hg.tape.trans h.tape, hg.output.trans h.output, Nat.le_trans h.size hg.size, fun k hk hn => (hg.block k (Nat.lt_of_lt_of_le hk h.size) (fun e => by have := hr k e.symm; omega)).trans (h.block k hk hn), h.new⟩
theorem RamAt.grown {w w' : World} {p : Nat} {F : List Nat} {R : Rm.Ram} {row : Option Nat} (h : RamAt w p F R) (hg : w.grownBy w' row) (hr : ∀ k, row = some k → k ∉ F) : RamAt w' p F R :=
  h.keep_of fun b hb => hg.block b (h.lt b hb) (fun e => hr b e.symm hb)
theorem put9_far {w : World} {b k : Nat} (h : k ≠ b) (d : Ds.D) : (put9 w b d).heap[k]? = w.heap[k]? := by
  unfold put9
  rw [far_heap h, far_heap h, far_heap h, far_heap h, far_heap h, far_heap h, far_heap h, far_heap h, far_heap h]
theorem Mv.set {F F' : List Nat} {a c : World} {b : Nat} (h : Mv F F' a c) (hb : a.heap.size ≤ b) (i : Nat) (u : Value) : Mv F F' a (c.setCell ⟨b, i, none⟩ u) :=
  ⟨h.os, h.tape, h.output, by simpa using h.size, fun k hk hn => (far_heap (by omega) i u).trans (h.block k hk hn), h.new⟩
theorem Mv.put9 {F F' : List Nat} {a c : World} {b : Nat} (h : Mv F F' a c) (hb : a.heap.size ≤ b) (d : Ds.D) : Mv F F' a (put9 c b d) :=
  ((((((((h.set hb 0 _).set hb 1 _).set hb 2 _).set hb 3 _).set hb 4 _).set hb 5 _).set hb 6 _).set hb 7 _).set hb 8 _
theorem RamAt.put9 {w : World} {p : Nat} {F : List Nat} {R : Rm.Ram} {b : Nat} (h : RamAt w p F R) (hb : b ∉ F) (d : Ds.D) : RamAt (put9 w b d) p F R :=
  h.keep_of fun k hk => put9_far (fun e => hb (by rw [← e]; exact hk)) d
/-- One round of Load: the words read are in l, the memory is as it lies. -/
def LdRel (p : Nat) (F : List Nat) (w0 : World) (R : Rm.Ram) (xs : List Int) (l : Value) (wr : World) : Prop :=
  ∃ F', RamAt wr p F' R ∧ Mv F F' w0 wr ∧ wr.ownsRow w0.heap.size 22 1 l xs.length (nums .u32 xs) ∧ ∀ b, l.ownBlock = some b → b ∉ F'
set_option maxHeartbeats 2000000 in
theorem load_ok (p : Nat) (F : List Nat) (R : Rm.Ram) (who a : Int) (ha : 0 ≤ a ∧ a < 4294967296) (w : World) (h : RamAt w p F R) (hl : R.log.length < 900000000) :
    Calls Try.prog 35 #[.pointer (some ⟨p, 0, none⟩), .int .i64 who, .int .u32 a] w fun e w' => e = .returned (.tuple #[.agg (Ds.loadD R who a).cells.toArray, .int .i64 (Ds.loadE R who a)]) ∧ ∃ F', RamAt w' p F' (Ds.ldK R who a 4).1 ∧ Mv F F' w w' := by
  have HA := Lib.hid ha
  have HL := Lib.hid (fun k => Ds.ldK_len R who a k)
  have HFIT := Lib.hid (fun k => Ds.ldK_fit R who a h.fit k)
  have HST := Lib.hid (show ∀ k, Ds.ldK R who a (k + 1) = Ds.ldStep who a k (Ds.ldK R who a k) from fun _ => rfl)
  have HOK := Lib.hid (fun k => Ds.ldK_ok R who a k)
  have HSTOP := Lib.hid (fun k j => Ds.ldK_stop R who a k j)
  have hD : Ds.loadD R who a = if (Ds.ldK R who a 4).2.2 = 0 then (Ds.ofR (Ds.ldK R who a 4).2.1).1 else Ds.blank := rfl
  have hE : Ds.loadE R who a = if (Ds.ldK R who a 4).2.2 = 0 then (Ds.ofR (Ds.ldK R who a 4).2.1).2 else (Ds.ldK R who a 4).2.2 := rfl
  have ld0 : Ds.ldK R who a 0 = (R, [], 0) := rfl
  have hlt := h.lt
  have hDW := DescAt.new w Ds.blank
  have hb0 : Below w.heap.size w (w.alloc (.cells Ds.blank.cells.toArray 54)) := (Below.refl _ w).alloc (Nat.le_refl _) _
  have HR0 := Lib.hid (h.below hb0)
  have HB0 := Lib.hid hb0
  have HDW := Lib.hid hDW
  have HLT := Lib.hid hlt
  obtain ⟨ld, hld⟩ : ∃ ld, Ds.ldK R who a = ld := ⟨_, rfl⟩
  rw [hld] at HL HFIT HST HOK HSTOP ld0 hD hE
  rw [hld]
  have LD0 := Lib.hid ld0
  have HD := Lib.hid hD; have HE := Lib.hid hE
  obtain ⟨dd, hdd⟩ : ∃ dd, Ds.loadD R who a = dd := ⟨_, rfl⟩
  obtain ⟨de, hde⟩ : ∃ de, Ds.loadE R who a = de := ⟨_, rfl⟩
  rw [hdd] at HD; rw [hde] at HE
  rw [hdd, hde]
  clear hdd hde hD hE ld0 hld hlt hDW hb0 h ha
  go_enter Try.func35, Try.ntmps35
  go_wp2
  generalize hW : w.alloc (.cells #[.bool false, .bool false, .bool false, .bool false, .bool false, .int .i64 0, .int .u32 0, .int .i64 0, .int .u32 0] 54) = W
  have hW2 : w.alloc (.cells Ds.blank.cells.toArray 54) = W := hW
  rw [hW2] at HR0 HB0 HDW
  have hWs : W.heap.size = w.heap.size + 1 := by rw [← hW]; simp
  have HWS := Lib.hid hWs
  have hp0 : w.heap.size ∉ F := fun e => Nat.lt_irrefl _ (HLT.out _ e)
  have HP0 := Lib.hid hp0
  clear hW hW2 hWs hp0
  go_loopw [8, 12] (fun l i wr => ∃ (k : Nat) (lv : Value), k ≤ 4 ∧ i = .int .i64 k ∧ lv = l ∧ Hid ((ld k).2.2 = 0 ∧ LdRel p F W (ld k).1 (ld k).2.1 lv wr)) (fun _ i _ => 4 - (intOf i).toNat)
  case atStart => exact ⟨0, _, by omega, rfl, rfl, Lib.hid ⟨by rw [LD0.out], by rw [LD0.out]; exact ⟨F, HR0.out, Mv.refl _ _, World.ownsRow_nil _ _ _ _, fun b hb => by simp [Value.ownBlock] at hb⟩⟩⟩
  case round =>
    obtain ⟨k, lv, hk, rfl, rfl, HS⟩ := hrel
    by_cases hlt : k < 4
    · obtain ⟨h0, F1, hR, hM, hown, hsep⟩ := HS.out
      obtain ⟨ha1, ha2⟩ := HA.out
      have hkk : (k : Int) < 4 := by omega
      have hrd := read_ok p F1 (ld k).1 who (Ds.adr a k) (by unfold Ds.adr; omega) wr hR (by have := HL.out k; omega)
      have hadr : Ds.adr a k = (a + (k : Int) * 4) % 4294967296 := by unfold Ds.adr; omega
      have hst := HST.out k
      unfold Ds.ldStep at hst
      rw [if_pos h0] at hst
      rw [hadr] at hrd hst
      have hVf := (hR.fit).rdV ((a + (k : Int) * 4) % 4294967296)
      have hEE : Rm.rdE (ld k).1 ((a + (k : Int) * 4) % 4294967296) = 0 ∨ Rm.rdE (ld k).1 ((a + (k : Int) * 4) % 4294967296) = 7 := by unfold Rm.rdE; split <;> simp
      obtain ⟨V, hV⟩ : ∃ V, Rm.rdV (ld k).1 ((a + (k : Int) * 4) % 4294967296) = V := ⟨_, rfl⟩
      obtain ⟨E, hE⟩ : ∃ E, Rm.rdE (ld k).1 ((a + (k : Int) * 4) % 4294967296) = E := ⟨_, rfl⟩
      rw [hV, hE] at hst
      rw [hV, hE] at hrd
      rw [hE] at hEE
      have hxl := HOK.out k h0
      have HRD := Lib.hid hrd; have HSTK := Lib.hid hst; have HXL := Lib.hid hxl; have HEE := Lib.hid hEE
      have HM := Lib.hid hM; have HOWN := Lib.hid hown; have HSEP := Lib.hid hsep; have H0 := Lib.hid h0
      clear h0 hR hM hown hsep hrd hst hV hE hadr hxl hEE hVf HS
      go_wp2_with fail
      refine HRD.out.mono ?_
      rintro e w3 ⟨rfl, F3, hR3, hM3⟩
      have hown3 := own_mv HOWN.out hM3 HSEP.out
      have hsep3 : ∀ b, lv.ownBlock = some b → b ∉ F3 := fun b hb hin => by
        rcases hM3.new b hin with h | h
        · exact HSEP.out b hb h
        · have := (HOWN.out.lt b hb).2; omega
      have hM13 := HM.out.trans hM3
      have hlt3 := hR3.lt
      have HM13 := Lib.hid hM13; have HR3 := Lib.hid hR3; have HOWN3 := Lib.hid hown3; have HSEP3 := Lib.hid hsep3
      rcases HEE.out with rfl | rfl
      · clear hR3 hM3 hown3 hsep3 hM13 hlt3
        go_wp2_with (at_builtin; refine app_rd rfl _ _ 33 rfl W.heap.size 22 (.int .u32 0) 4 Try.underlying33 info_u32 rfl (by decide) _ (nums .u32 (ld k).2.1) rfl ?c1 _ (nums .u32 [V]) rfl ?c2 (nums_one _ _) ?c3 ?c4 ?_)
        case c1 => rw [nums_len]; exact HOWN3.out.alloc _
        case c2 => exact Rd.new w3 (nums .u32 [V]) 22 (by simp [nums, maxLen])
        case c3 => rw [nums_len, nums_len, HXL.out]; simp; omega
        case c4 => have := HM13.out.size; simp; omega
        intro v1 w4 hown4 hg hat _
        have hrel4 : LdRel p F W (ld (k + 1)).1 (ld (k + 1)).2.1 v1 w4 := by
          rw [HSTK.out]
          refine ⟨F3, (HR3.out.below ((Below.refl _ w3).alloc (Nat.le_refl _) (.cells #[.int .u32 V] 22))).grown hg HSEP3.out, ?_, ?_, ?_⟩
          · exact (HM13.out.trans (Mv.of_below ((Below.refl _ w3).alloc (Nat.le_refl _) (.cells #[.int .u32 V] 22)))).grown hg (fun b hb => (HOWN3.out.lt b hb).1)
          · have := hown4
            rw [nums_len, nums_len, ← nums_app] at this
            show w4.ownsRow _ _ 1 v1 ((ld k).2.1 ++ [V]).length (nums .u32 ((ld k).2.1 ++ [V]))
            rw [List.length_append]
            exact this
          · intro b hb hin
            rcases hat with hat | hat
            · exact HSEP3.out b (hat ▸ hb) hin
            · rw [hat] at hb
              injection hb with hb
              have := HR3.out.lt b hin
              omega
        have HREL := Lib.hid (And.intro (show (ld (k + 1)).2.2 = 0 by rw [HSTK.out]) hrel4)
        clear hown4 hg hat hrel4
        go_wp2
        go_roundw
        case rel => exact ⟨k + 1, _, by omega, by go_num, rfl, HREL⟩
        case measure => simp [intOf]; omega
      · have hdd : DescAt w3 w.heap.size Ds.blank := (HM13.out.block _ (by have := HWS.out; omega) HP0.out).trans HDW.out
        have hstop : ld 4 = ld (k + 1) := by
          have := HSTOP.out (k + 1) (3 - k) (by rw [HSTK.out]; exact (by decide : (7 : Int) ≠ 0))
          rw [show k + 1 + (3 - k) = 4 by omega] at this
          exact this
        have HSTP := Lib.hid hstop
        have hq : w.heap.size ∉ F3 := fun e => by
          rcases hM13.new _ e with h | h
          · exact HP0.out h
          · have := HWS.out; omega
        have HQ := Lib.hid hq
        clear hq
        have HDD := Lib.hid hdd
        obtain ⟨e0, e1, e2, e3, e4, e5, e6, e7, e8⟩ := desc_cells hdd
        have f1 := desc_frees hdd
        clear hR3 hM3 hown3 hsep3 hM13 hlt3 hdd hstop
        go_wp2
        (try simp only [Exit.inBlock, Exit.then])
        have he4 : ¬ (ld 4).2.2 = 0 := by rw [HSTP.out, HSTK.out]; exact (by decide : (7 : Int) ≠ 0)
        rw [HD.out, if_neg he4, HE.out, if_neg he4]
        refine bodyPost_ret (v := .tuple #[.agg Ds.blank.cells.toArray, .int .i64 (ld 4).2.2]) ?hr1 rfl ⟨rfl, F3, ?hram, ?hmv⟩
        case hr1 => exact ret_desc w.heap.size rfl (put9_at HDD.out Ds.blank) rfl (by rw [HSTP.out, HSTK.out]; rfl)
        case hram =>
          rw [HSTP.out, HSTK.out]
          exact HR3.out.put9 HQ.out Ds.blank
        case hmv => exact ((Mv.of_below HB0.out).trans HM13.out).put9 (Nat.le_refl _) Ds.blank
    · obtain rfl : k = 4 := by omega
      obtain ⟨h0, F1, hR, hM, hown, hsep⟩ := HS.out
      have hoa := of_any (ld 4).2.1 (HFIT.out 4) wr lv (Rd.of_own hown)
      have hq : w.heap.size ∉ F1 := fun e => by
        rcases hM.new _ e with h | h
        · exact HP0.out h
        · have := HWS.out; omega
      have hdd : DescAt wr w.heap.size Ds.blank := (hM.block _ (by have := HWS.out; omega) HP0.out).trans HDW.out
      have hd4 := HD.out
      have he4 := HE.out
      rw [if_pos h0] at hd4 he4
      rw [← hd4, ← he4] at hoa
      have HOA := Lib.hid hoa; have HR := Lib.hid hR; have HM := Lib.hid hM; have HQ := Lib.hid hq; have HDD := Lib.hid hdd
      clear h0 hR hM hown hsep HS hoa hq hdd hd4 he4 HD HE
      obtain ⟨own, wrap, first, last, bad, len, at_, size, stamp⟩ := dd
      simp only [Ds.D.cells] at HOA ⊢
      go_wp2_with fail
      refine HOA.out.mono ?_
      rintro e w4 ⟨rfl, hb4⟩
      have HR4 := Lib.hid (HR.out.below hb4)
      have HM4 := Lib.hid (HM.out.trans (Mv.of_below hb4))
      have hd4 := HDD.out.below hb4
      have HD4 := Lib.hid hd4
      obtain ⟨e0, e1, e2, e3, e4, e5, e6, e7, e8⟩ := desc_cells hd4
      have f1 := desc_frees hd4
      clear hb4 hd4
      go_wp2
      (try simp only [Exit.inBlock, Exit.then])
      refine bodyPost_ret (v := .tuple #[.agg (⟨own, wrap, first, last, bad, len, at_, size, stamp⟩ : Ds.D).cells.toArray, .int .i64 de]) ?hr1 rfl ⟨rfl, F1, ?hram, ?hmv⟩
      case hr1 => exact ret_desc w.heap.size rfl (put9_at HD4.out ⟨own, wrap, first, last, bad, len, at_, size, stamp⟩) rfl rfl
      case hram => exact HR4.out.put9 HQ.out ⟨own, wrap, first, last, bad, len, at_, size, stamp⟩
      case hmv => exact ((Mv.of_below HB0.out).trans HM4.out).put9 (Nat.le_refl _) ⟨own, wrap, first, last, bad, len, at_, size, stamp⟩
end Go.Proofs.Ytkegljcndhckead
