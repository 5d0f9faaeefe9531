import Derived.Test.YtkegljcndhckeadRPure
import Derived.Test.YtkegljcndhckeadDPure
/- Descriptors in memory (chapter 16), as data: no program in sight. -/
namespace Go.Proofs.Ytkegljcndhckead.Ds
open Rm (Ram)
def adr (a : Int) (k : Nat) : Int := (a + 4 * (k : Int)) % 4294967296
/-- One word of a descriptor is written, unless an error stands. -/
def stStep (who a : Int) (d : D) (k : Nat) (s : Ram × Int) : Ram × Int :=
  if s.2 = 0 then (Rm.write s.1 who (adr a ((k + 1) % 4)) (d.words.getD ((k + 1) % 4) 0), Rm.rdE s.1 (adr a ((k + 1) % 4))) else s
/-- The first k words, in their order 1, 2, 3, 0. -/
def stK (R : Ram) (who a : Int) (d : D) : Nat → Ram × Int
  | 0 => (R, 0)
  | k + 1 => stStep who a d k (stK R who a d k)
def store (R : Ram) (who a : Int) (d : D) : Ram × Int := if d.may then stK R who a d 4 else (R, 1)
theorem stStep_len (who a : Int) (d : D) (k : Nat) (s : Ram × Int) : (stStep who a d k s).1.log.length ≤ s.1.log.length + 1 := by
  unfold stStep
  split
  · exact Rm.write_len _ _ _ _
  · omega
theorem stK_len (R : Ram) (who a : Int) (d : D) (k : Nat) : (stK R who a d k).1.log.length ≤ R.log.length + k := by
  induction k with
  | zero => simp [stK]
  | succ k ih => have := stStep_len who a d k (stK R who a d k); simp only [stK]; omega
/-- All four words there, a log kept: no error, four writes in turn. -/
theorem stK_log (R : Ram) (who a : Int) (d : D) (hk : R.keep = true) (hall : ∀ k, k < 4 → Rm.is R (adr a k) = true) (k : Nat) (hk4 : k ≤ 4) :
    (stK R who a d k).2 = 0 ∧ (stK R who a d k).1.keep = true ∧ (∀ j, j < 4 → Rm.is (stK R who a d k).1 (adr a j) = true) ∧
      (stK R who a d k).1.log = R.log ++ (List.range k).map fun j => ⟨who, true, adr a ((j + 1) % 4), d.words.getD ((j + 1) % 4) 0, 0⟩ := by
  induction k with
  | zero => exact ⟨rfl, hk, hall, by simp [stK]⟩
  | succ k ih =>
    obtain ⟨h1, h2, h3, h4⟩ := ih (by omega)
    have hi := h3 ((k + 1) % 4) (by omega)
    have he : Rm.rdE (stK R who a d k).1 (adr a ((k + 1) % 4)) = 0 := by simp [Rm.rdE, hi]
    have hs : stK R who a d (k + 1) = (Rm.write (stK R who a d k).1 who (adr a ((k + 1) % 4)) (d.words.getD ((k + 1) % 4) 0), Rm.rdE (stK R who a d k).1 (adr a ((k + 1) % 4))) := by
      show stStep who a d k (stK R who a d k) = _
      simp [stStep, h1]
    rw [hs]
    refine ⟨he, by simp [h2], fun j hj => by simp [h3 j hj], ?_⟩
    show (Rm.write _ _ _ _).log = _
    unfold Rm.write
    rw [hi]
    simp only [if_true, Rm.note, h2, if_true, h4, he, List.range_succ, List.map_append, List.append_assoc]
    rfl
end Go.Proofs.Ytkegljcndhckead.Ds
namespace Go.Proofs.Ytkegljcndhckead.Ds
open Rm (Ram)
/-- Words as a descriptor, or refused. -/
def ofR (l : List Int) : D × Int :=
  match l with
  | [a, b, c, d] => if c ≤ 65535 ∧ a.toNat / 65536 % 2048 = 0 then (ofD a b c d, 0) else (blank, 5)
  | _ => (blank, 5)
/-- One word is read, unless an error stands. -/
def ldStep (who a : Int) (k : Nat) (s : Ram × List Int × Int) : Ram × List Int × Int :=
  if s.2.2 = 0 then (Rm.read s.1 who (adr a k), s.2.1 ++ [Rm.rdV s.1 (adr a k)], Rm.rdE s.1 (adr a k)) else s
def ldK (R : Ram) (who a : Int) : Nat → Ram × List Int × Int
  | 0 => (R, [], 0)
  | k + 1 => ldStep who a k (ldK R who a k)
def loadD (R : Ram) (who a : Int) : D := if (ldK R who a 4).2.2 = 0 then (ofR (ldK R who a 4).2.1).1 else blank
def loadE (R : Ram) (who a : Int) : Int := if (ldK R who a 4).2.2 = 0 then (ofR (ldK R who a 4).2.1).2 else (ldK R who a 4).2.2
theorem ldK_len (R : Ram) (who a : Int) (k : Nat) : (ldK R who a k).1.log.length ≤ R.log.length + k := by
  induction k with
  | zero => simp [ldK]
  | succ k ih =>
    simp only [ldK, ldStep]
    split
    · exact Nat.le_trans (Rm.read_len _ _ _) (by omega)
    · omega
theorem ldK_ok (R : Ram) (who a : Int) (k : Nat) (h : (ldK R who a k).2.2 = 0) : (ldK R who a k).2.1.length = k := by
  induction k with
  | zero => rfl
  | succ k ih =>
    simp only [ldK, ldStep] at h ⊢
    by_cases h0 : (ldK R who a k).2.2 = 0
    · rw [if_pos h0] at h ⊢
      simp [ih h0]
    · rw [if_neg h0] at h
      exact absurd h h0
theorem ldK_ws (R : Ram) (who a : Int) (k : Nat) : (ldK R who a k).1.ws = R.ws := by
  induction k with
  | zero => rfl
  | succ k ih =>
    simp only [ldK, ldStep]
    split
    · rw [Rm.read_ws, ih]
    · exact ih
theorem ldK_stop (R : Ram) (who a : Int) (k j : Nat) (h : (ldK R who a k).2.2 ≠ 0) : ldK R who a (k + j) = ldK R who a k := by
  induction j with
  | zero => rfl
  | succ j ih => show ldStep who a (k + j) (ldK R who a (k + j)) = _; rw [ih]; simp [ldStep, h]
theorem ldK_fit (R : Ram) (who a : Int) (hf : Rm.Fit R) (k : Nat) : ∀ x ∈ (ldK R who a k).2.1, 0 ≤ x ∧ x < 4294967296 := by
  induction k with
  | zero => simp [ldK]
  | succ k ih =>
    simp only [ldK, ldStep]
    split
    · intro x hx
      simp at hx
      rcases hx with hx | rfl
      · exact ih x hx
      · exact Rm.Fit.rdV (by unfold Rm.Fit; rw [ldK_ws]; exact hf) _
    · exact ih
end Go.Proofs.Ytkegljcndhckead.Ds
namespace Go.Proofs.Ytkegljcndhckead.Ds
open Rm (Ram)
/-- The i-th descriptor of a ring that is laid. -/
def lyD (n bufs size : Int) (own : Bool) (i : Nat) : D := ⟨own, decide ((i : Int) = n - 1), false, false, false, 0, (bufs + size * i) % 4294967296, size, 0⟩
def lyA (a : Int) (i : Nat) : Int := (a + 16 * (i : Int)) % 4294967296
def lyStep (a n bufs size : Int) (own : Bool) (k : Nat) (s : Ram × Int) : Ram × Int :=
  if s.2 = 0 then stK s.1 1 (lyA a k) (lyD n bufs size own k) 4 else s
def lyK (R : Ram) (a n bufs size : Int) (own : Bool) : Nat → Ram × Int
  | 0 => (R, 0)
  | k + 1 => lyStep a n bufs size own k (lyK R a n bufs size own k)
theorem lyK_len (R : Ram) (a n bufs size : Int) (own : Bool) (k : Nat) : (lyK R a n bufs size own k).1.log.length ≤ R.log.length + 4 * k := by
  induction k with
  | zero => simp [lyK]
  | succ k ih =>
    simp only [lyK, lyStep]
    split
    · exact Nat.le_trans (stK_len _ _ _ _ _) (by omega)
    · omega
theorem lyK_stop (R : Ram) (a n bufs size : Int) (own : Bool) (k j : Nat) (h : (lyK R a n bufs size own k).2 ≠ 0) : lyK R a n bufs size own (k + j) = lyK R a n bufs size own k := by
  induction j with
  | zero => rfl
  | succ j ih => show lyStep _ _ _ _ _ (k + j) (lyK R a n bufs size own (k + j)) = _; rw [ih]; simp [lyStep, h]
end Go.Proofs.Ytkegljcndhckead.Ds
