import Derived.Test.YtkegljcndhckeabRPure
import Derived.Test.YtkegljcndhckeabDPure
/- Descriptors in memory (chapter 16), as data: no program in sight. -/
namespace Go.Proofs.Ytkegljcndhckeab.Ds
open Rm (Ram)
def adr (a : Int) (k : Nat) : Int := (a + 4 * (k : Int)) % 4294967296
/-- One word of a descriptor is written, unless an error stands. -/
def stStep (who a : Int) (d : D) (k : Nat) (s : Ram × Int) : Ram × Int :=
  if s.2 = 0 then (Rm.write s.1 who (adr a ((k + 1) % 4)) (d.words.getD ((k + 1) % 4) 0), Rm.rdE s.1 (adr a ((k + 1) % 4))) else s
/-- The first k words, in their order 1, 2, 3, 0. -/
def stK (R : Ram) (who a : Int) (d : D) : Nat → Ram × Int
  | 0 => (R, 0)
  | k + 1 => stStep who a d k (stK R who a d k)
def store (R : Ram) (who a : Int) (d : D) : Ram × Int := if d.may then stK R who a d 4 else (R, 1)
theorem stStep_len (who a : Int) (d : D) (k : Nat) (s : Ram × Int) : (stStep who a d k s).1.log.length ≤ s.1.log.length + 1 := by
  unfold stStep
  split
  · exact Rm.write_len _ _ _ _
  · omega
theorem stK_len (R : Ram) (who a : Int) (d : D) (k : Nat) : (stK R who a d k).1.log.length ≤ R.log.length + k := by
  induction k with
  | zero => simp [stK]
  | succ k ih => have := stStep_len who a d k (stK R who a d k); simp only [stK]; omega
/-- All four words there, a log kept: no error, four writes in turn. -/
theorem stK_log (R : Ram) (who a : Int) (d : D) (hk : R.keep = true) (hall : ∀ k, k < 4 → Rm.is R (adr a k) = true) (k : Nat) (hk4 : k ≤ 4) :
    (stK R who a d k).2 = 0 ∧ (stK R who a d k).1.keep = true ∧ (∀ j, j < 4 → Rm.is (stK R who a d k).1 (adr a j) = true) ∧
      (stK R who a d k).1.log = R.log ++ (List.range k).map fun j => ⟨who, true, adr a ((j + 1) % 4), d.words.getD ((j + 1) % 4) 0, 0⟩ := by
  induction k with
  | zero => exact ⟨rfl, hk, hall, by simp [stK]⟩
  | succ k ih =>
    obtain ⟨h1, h2, h3, h4⟩ := ih (by omega)
    have hi := h3 ((k + 1) % 4) (by omega)
    have he : Rm.rdE (stK R who a d k).1 (adr a ((k + 1) % 4)) = 0 := by simp [Rm.rdE, hi]
    have hs : stK R who a d (k + 1) = (Rm.write (stK R who a d k).1 who (adr a ((k + 1) % 4)) (d.words.getD ((k + 1) % 4) 0), Rm.rdE (stK R who a d k).1 (adr a ((k + 1) % 4))) := by
      show stStep who a d k (stK R who a d k) = _
      simp [stStep, h1]
    rw [hs]
    refine ⟨he, by simp [h2], fun j hj => by simp [h3 j hj], ?_⟩
    show (Rm.write _ _ _ _).log = _
    unfold Rm.write
    rw [hi]
    simp only [if_true, Rm.note, h2, if_true, h4, he, List.range_succ, List.map_append, List.append_assoc]
    rfl
end Go.Proofs.Ytkegljcndhckeab.Ds
