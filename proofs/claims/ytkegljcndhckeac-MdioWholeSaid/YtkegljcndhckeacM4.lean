import Derived.Test.YtkegljcndhckeacM3
namespace Go.Proofs.Ytkegljcndhckeac
open Go.RowKit
set_option linter.unusedVariables false
theorem eqf (fn : Fn) (a b : Array Value) (w : World) : Sem.run Try.prog (binOp BinOp.eql 31 (.func fn a b) .nilFunc) w = .ok (.bool false) w := by kernel_rfl
theorem eqn (w : World) : Sem.run Try.prog (binOp BinOp.eql 31 .nilFunc .nilFunc) w = .ok (.bool true) w := by kernel_rfl
def inN (n : Int) : Nat := if n = 0 then 0 else 1
theorem inN_lt (n : Int) : inN n < 2 := by unfold inN; split <;> omega
theorem clock_nil (n : Int) (w : World) : Calls Try.prog 12 #[.pointer none, .int .i64 n] w fun e w' => e = .returned (.int .i64 1) ∧ w = w' := by
  have q := eqf; have q' := eqn
  go_enter Try.func12, Try.ntmps12
  go_wp2
  go_ret
  exact ⟨rfl, rfl⟩
theorem clock_zero (p : Nat) (n : Int) (w : World) (h : w.cell? ⟨p, 0, none⟩ = some .nilFunc) : Calls Try.prog 12 #[.pointer (some ⟨p, 0, none⟩), .int .i64 n] w fun e w' => e = .returned (.int .i64 1) ∧ w = w' := by
  have q := eqf; have q' := eqn
  go_enter Try.func12, Try.ntmps12
  go_wp2
  go_ret
  exact ⟨rfl, rfl⟩
theorem clock_ok (p : Nat) (s : Md.S) (n : Int) (w : World) (h : SlaveAt w p s) (ho : Md.Ok s) :
    Calls Try.prog 12 #[.pointer (some ⟨p, 0, none⟩), .int .i64 n] w fun e w' => Turns p w e (.returned (.int .i64 (Md.told s (inN n)))) (Md.clock s (inN n)) w' := by
  obtain ⟨c0, -⟩ := slave_cells h
  have hph := ho.fit.ph
  have hi := inN_lt n
  have h0 : s.ph = 0 → Md.clock s (inN n) = Md.idle s (inN n) ∧ Md.told s (inN n) = 1 := fun e => by unfold Md.clock Md.told; rw [if_pos e, if_neg (by omega)]; exact ⟨rfl, rfl⟩
  have h1 : s.ph = 1 → Md.clock s (inN n) = Md.head s (inN n) ∧ Md.told s (inN n) = 1 := fun e => by unfold Md.clock Md.told; rw [if_neg (by omega), if_pos e, if_neg (by omega)]; exact ⟨rfl, rfl⟩
  have h2 : s.ph = 2 → Md.clock s (inN n) = Md.tail s (inN n) ∧ Md.told s (inN n) = Md.outB (Md.push s (inN n)) := fun e => by unfold Md.clock Md.told; rw [if_neg (by omega), if_neg (by omega), if_pos e]; exact ⟨rfl, rfl⟩
  have I := Lib.hid (fun e => idle_ok p s _ hi w h e)
  have H := Lib.hid (fun e => head_ok p s _ hi w h (ho.b0 (by omega : s.ph ≠ 0)).2)
  have T := Lib.hid (fun (e : s.ph = 2) => tail_ok p s _ hi w h (ho.b2 e) (ho.b0 (by omega)).2)
  have H0 := Lib.hid h0; have H1 := Lib.hid h1; have H2 := Lib.hid h2
  have hin : (n = 0 ∧ inN n = 0) ∨ (n ≠ 0 ∧ inN n = 1) := by unfold inN; by_cases c : n = 0 <;> simp [c]
  obtain ⟨j, hj⟩ : ∃ j, inN n = j := ⟨_, rfl⟩
  rw [hj] at I H T H0 H1 H2 hin
  rw [hj]
  unfold nextV at c0
  obtain ⟨ph, hp⟩ : ∃ ph, s.ph = ph := ⟨_, rfl⟩
  rw [hp] at I H T H0 H1 H2 hph c0
  clear h0 h1 h2 h ho hi hj hp
  rcases hin with ⟨rfl, rfl⟩ | ⟨hn, rfl⟩
  · rcases (show ph = 0 ∨ ph = 1 ∨ ph = 2 by omega) with rfl | rfl | rfl
    · obtain ⟨e1, e2⟩ := H0.out rfl
      rw [e1, e2]
      replace c0 := c0.trans (show _ = some (Value.func (.func 26) #[.pointer (some ⟨p, 0, none⟩)] #[]) from rfl)
      clear e1 e2
      have q := eqf; have q' := eqn
      go_enter Try.func12, Try.ntmps12
      go_wp2_with (go_at_call 26; refine (I.out rfl).mono ?_; rintro e w1 ⟨rfl, hS, hM⟩)
      go_ret
      exact ⟨rfl, hS, hM⟩
    · obtain ⟨e1, e2⟩ := H1.out rfl
      rw [e1, e2]
      replace c0 := c0.trans (show _ = some (Value.func (.func 33) #[.pointer (some ⟨p, 0, none⟩)] #[]) from rfl)
      clear e1 e2
      have q := eqf; have q' := eqn
      go_enter Try.func12, Try.ntmps12
      go_wp2_with (go_at_call 33; refine (H.out (by decide)).mono ?_; rintro e w1 ⟨rfl, hS, hM⟩)
      go_ret
      exact ⟨rfl, hS, hM⟩
    · obtain ⟨e1, e2⟩ := H2.out rfl
      rw [e1, e2]
      replace c0 := c0.trans (show _ = some (Value.func (.func 37) #[.pointer (some ⟨p, 0, none⟩)] #[]) from rfl)
      clear e1 e2
      have q := eqf; have q' := eqn
      go_enter Try.func12, Try.ntmps12
      go_wp2_with (go_at_call 37; refine (T.out rfl).mono ?_; rintro e w1 ⟨rfl, hS, hM⟩)
      go_ret
      exact ⟨rfl, hS, hM⟩
  · have hb : (n != 0) = true := by simp [hn]
    have HN := Lib.hid hn
    clear hn
    rcases (show ph = 0 ∨ ph = 1 ∨ ph = 2 by omega) with rfl | rfl | rfl
    · obtain ⟨e1, e2⟩ := H0.out rfl
      rw [e1, e2]
      replace c0 := c0.trans (show _ = some (Value.func (.func 26) #[.pointer (some ⟨p, 0, none⟩)] #[]) from rfl)
      clear e1 e2
      have q := eqf; have q' := eqn
      go_enter Try.func12, Try.ntmps12
      go_wp2_with (go_at_call 26; refine (I.out rfl).mono ?_; rintro e w1 ⟨rfl, hS, hM⟩)
      go_ret
      exact ⟨rfl, hS, hM⟩
    · obtain ⟨e1, e2⟩ := H1.out rfl
      rw [e1, e2]
      replace c0 := c0.trans (show _ = some (Value.func (.func 33) #[.pointer (some ⟨p, 0, none⟩)] #[]) from rfl)
      clear e1 e2
      have q := eqf; have q' := eqn
      go_enter Try.func12, Try.ntmps12
      go_wp2_with (go_at_call 33; refine (H.out (by decide)).mono ?_; rintro e w1 ⟨rfl, hS, hM⟩)
      go_ret
      exact ⟨rfl, hS, hM⟩
    · obtain ⟨e1, e2⟩ := H2.out rfl
      rw [e1, e2]
      replace c0 := c0.trans (show _ = some (Value.func (.func 37) #[.pointer (some ⟨p, 0, none⟩)] #[]) from rfl)
      clear e1 e2
      have q := eqf; have q' := eqn
      go_enter Try.func12, Try.ntmps12
      go_wp2_with (go_at_call 37; refine (T.out rfl).mono ?_; rintro e w1 ⟨rfl, hS, hM⟩)
      go_ret
      exact ⟨rfl, hS, hM⟩
theorem get_nil (r : Int) (w : World) : Calls Try.prog 14 #[.pointer none, .int .i64 r] w fun e w' => e = .returned (.int .u16 0) ∧ w = w' := by
  go_enter Try.func14, Try.ntmps14
  go_wp2
  go_ret
  exact ⟨rfl, rfl⟩
theorem get_ok (p : Nat) (s : Md.S) (r : Int) (w : World) (h : SlaveAt w p s) : Calls Try.prog 14 #[.pointer (some ⟨p, 0, none⟩), .int .i64 r] w fun e w' => e = .returned (.int .u16 (Md.get s r)) ∧ w = w' := by
  by_cases c1 : r < 0
  · have e : Md.get s r = 0 := by unfold Md.get; rw [if_neg (by omega)]
    rw [e]
    clear e h
    go_enter Try.func14, Try.ntmps14
    go_wp2
    go_ret
    exact ⟨rfl, rfl⟩
  by_cases c2 : 32 ≤ r
  · have e : Md.get s r = 0 := by unfold Md.get; rw [if_neg (by omega)]
    rw [e]
    clear e h
    go_enter Try.func14, Try.ntmps14
    go_wp2
    go_ret
    exact ⟨rfl, rfl⟩
  obtain ⟨k, rfl⟩ := Int.eq_ofNat_of_zero_le (show 0 ≤ r by omega)
  have e : Md.get s k = s.regs.getD k 0 := by unfold Md.get; rw [if_pos (by omega)]; rfl
  rw [e]
  have hc := slave_reg h k (by omega)
  have b1 : (k : Int) < 32 := by omega
  clear e h c1 c2
  go_enter Try.func14, Try.ntmps14
  go_wp2
  go_ret
  exact ⟨by simp, rfl⟩
theorem set_nil (r v : Int) (w : World) : Calls Try.prog 17 #[.pointer none, .int .i64 r, .int .u16 v] w fun e w' => e = .returned (.int .i64 2) ∧ w = w' := by
  have q := eqf; have q' := eqn
  go_enter Try.func17, Try.ntmps17
  go_wp2
  go_ret
  exact ⟨rfl, rfl⟩
theorem set_zero (p : Nat) (r v : Int) (w : World) (h : w.cell? ⟨p, 0, none⟩ = some .nilFunc) : Calls Try.prog 17 #[.pointer (some ⟨p, 0, none⟩), .int .i64 r, .int .u16 v] w fun e w' => e = .returned (.int .i64 2) ∧ w = w' := by
  have q := eqf; have q' := eqn
  go_enter Try.func17, Try.ntmps17
  go_wp2
  go_ret
  exact ⟨rfl, rfl⟩
theorem set_ok (p : Nat) (s : Md.S) (r v : Int) (hv : 0 ≤ v ∧ v < 65536) (w : World) (h : SlaveAt w p s) : Calls Try.prog 17 #[.pointer (some ⟨p, 0, none⟩), .int .i64 r, .int .u16 v] w fun e w' => Turns p w e (.returned (.int .i64 (Md.setE r))) (Md.set s r v) w' := by
  obtain ⟨c0, -⟩ := slave_cells h
  obtain ⟨fn, hfn⟩ : ∃ fn, nextV p s.ph = .func fn #[.pointer (some ⟨p, 0, none⟩)] #[] := ⟨_, rfl⟩
  rw [hfn] at c0
  clear hfn
  by_cases c1 : r < 0
  · have e : Md.set s r v = s ∧ Md.setE r = 2 := by unfold Md.set Md.setE; rw [if_neg (by omega), if_neg (by omega)]; exact ⟨rfl, rfl⟩
    rw [e.1, e.2]
    have HS := Lib.hid h
    clear e h
    have q := eqf; have q' := eqn
    go_enter Try.func17, Try.ntmps17
    go_wp2
    go_ret
    exact ⟨rfl, HS.out, Mv.refl _ _⟩
  by_cases c2 : 32 ≤ r
  · have e : Md.set s r v = s ∧ Md.setE r = 2 := by unfold Md.set Md.setE; rw [if_neg (by omega), if_neg (by omega)]; exact ⟨rfl, rfl⟩
    rw [e.1, e.2]
    have HS := Lib.hid h
    clear e h
    have q := eqf; have q' := eqn
    go_enter Try.func17, Try.ntmps17
    go_wp2
    go_ret
    exact ⟨rfl, HS.out, Mv.refl _ _⟩
  obtain ⟨k, rfl⟩ := Int.eq_ofNat_of_zero_le (show 0 ≤ r by omega)
  have e : Md.set s k v = { s with regs := s.regs.set k v } ∧ Md.setE k = 0 := by unfold Md.set Md.setE; rw [if_pos (by omega), if_pos (by omega)]; exact ⟨rfl, rfl⟩
  rw [e.1, e.2]
  have hc := slave_reg h k (by omega)
  have b1 : (k : Int) < 32 := by omega
  have f := h.free
  have HF := Lib.hid (h.fit.wr k v hv)
  have HL := Lib.hid h.fit.rl
  obtain ⟨⟨cs, hh, hk⟩, -⟩ := h
  have HH := Lib.hid (And.intro hh hk)
  clear e c1 c2 hh hk
  have q := eqf; have q' := eqn
  go_enter Try.func17, Try.ntmps17
  go_wp2
  go_ret
  exact ⟨rfl, ⟨⟨_, at_set HH.out (HH.out.2.rg HL.out k (by omega) v)⟩, HF.out⟩, mv_set (Mv.refl _ _) _ _⟩
end Go.Proofs.Ytkegljcndhckeac
