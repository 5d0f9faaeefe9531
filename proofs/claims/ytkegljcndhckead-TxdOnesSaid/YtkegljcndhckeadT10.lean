import Derived.Test.YtkegljcndhckeadT9
namespace Go.Proofs.Ytkegljcndhckead
open Go.RowKit
set_option linter.unusedVariables false
theorem read_log1 (R : Rm.Ram) (who a : Int) (hl : R.log = []) : (Rm.read R who a).log = [] ∨ ∃ v e, (Rm.read R who a).log = [⟨who, false, a, v, e⟩] := by
  unfold Rm.read Rm.note
  split
  · exact .inr ⟨_, _, by show R.log ++ _ = _; rw [hl]; rfl⟩
  · exact .inl hl
theorem write_log1 (R : Rm.Ram) (who a v : Int) (hl : R.log = []) : (Rm.write R who a v).log = [] ∨ ∃ e, (Rm.write R who a v).log = [⟨who, true, a, v, e⟩] := by
  by_cases hi : Rm.is R a = true <;> by_cases hk : R.keep = true <;> simp [Rm.write, Rm.note, hi, hk, hl]
/-- One step notes one access at most. -/
theorem step_log1 (s : Tx.E × Rm.Ram) (ho : Tx.Ok s.1) (hl : s.2.log = []) :
    (Tx.step s).2.log = [] ∨ s.1.state = 1 ∧ ∃ a : Rm.Acc, (Tx.step s).2.log = [a] ∧ a.who = 2 ∧ (a.wr = false ∨ a.wr = true ∧ a.at_ = s.1.at_ ∨ a.wr = true ∧ a.at_ = (s.1.at_ + 12) % 4294967296) := by
  have hp := ho.phase
  have hR : ∀ (u : Tx.E) a, (u, Rm.read s.2 2 a).2.log = [] ∨ ∃ b : Rm.Acc, (u, Rm.read s.2 2 a).2.log = [b] ∧ b.who = 2 ∧ (b.wr = false ∨ b.wr = true ∧ b.at_ = s.1.at_ ∨ b.wr = true ∧ b.at_ = (s.1.at_ + 12) % 4294967296) := fun u a => by
    rcases read_log1 s.2 2 a hl with h | ⟨v, e, h⟩
    · exact .inl h
    · exact .inr ⟨_, h, rfl, .inl rfl⟩
  unfold Tx.step
  by_cases hs : s.1.state = 1
  · rw [if_pos hs]
    refine (show _ ∨ _ from ?_ : (Tx.phased s.1 s.2).2.log = [] ∨ ∃ a : Rm.Acc, (Tx.phased s.1 s.2).2.log = [a] ∧ a.who = 2 ∧ (a.wr = false ∨ a.wr = true ∧ a.at_ = s.1.at_ ∨ a.wr = true ∧ a.at_ = (s.1.at_ + 12) % 4294967296)).imp id fun h => ⟨hs, h⟩
    unfold Tx.phased
    by_cases p0 : s.1.phase = 0
    · rw [if_pos p0]; exact hR _ _
    rw [if_neg p0]
    by_cases p1 : s.1.phase = 1
    · rw [if_pos p1]; exact hR _ _
    rw [if_neg p1]
    by_cases p2 : s.1.phase = 2
    · rw [if_pos p2]; exact hR _ _
    rw [if_neg p2]
    by_cases p3 : s.1.phase = 3
    · rw [if_pos p3]; exact hR _ _
    rw [if_neg p3]
    by_cases p4 : s.1.phase = 4
    · rw [if_pos p4]; exact .inl hl
    rw [if_neg p4]
    by_cases p5 : s.1.phase = 5
    · rw [if_pos p5]
      have e : Tx.place s.1 = (s.1.at_ + 12) % 4294967296 := by
        unfold Tx.place
        rw [if_neg p0, if_neg p1, if_neg p2, if_neg p3, if_pos p5]; rfl
      rcases write_log1 s.2 2 (Tx.place s.1) s.1.time hl with h | ⟨v, h⟩
      · exact .inl h
      · exact .inr ⟨_, h, rfl, .inr (.inr ⟨rfl, e⟩)⟩
    · rw [if_neg p5]
      have e : Tx.place s.1 = s.1.at_ := by
        unfold Tx.place
        rw [if_neg p0, if_neg p1, if_neg p2, if_neg p3, if_neg p5]
      rcases write_log1 s.2 2 (Tx.place s.1) (Tx.backD s.1).word hl with h | ⟨v, h⟩
      · exact .inl h
      · exact .inr ⟨_, h, rfl, .inr (.inl ⟨rfl, e⟩)⟩
  · rw [if_neg hs]
    exact .inl hl
/-- The memory is let go by the engine. -/
theorem Goes.fit {p q : Nat} {F : List Nat} {fv : Value} {w w1 : World} {e : Tx.E} {R : Rm.Ram} (h : Goes p q F fv w e R w1) : Rm.Fit R := by
  obtain ⟨F1, fv1, hS, hM⟩ := h
  exact hS.ram.fit
end Go.Proofs.Ytkegljcndhckead
