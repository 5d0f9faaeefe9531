import Derived.Test.YtkegljcndhckeadDMem
/- A ring that is laid, word by word. -/
namespace Go.Proofs.Ytkegljcndhckead.Ds
open Rm (Ram)
theorem lyA_four (b i : Nat) (h : b + 4 * i < 16384) : lyA (4 * (b : Int)) i = 4 * ((b + 4 * i : Nat) : Int) := by unfold lyA; omega
theorem ly_all (R : Ram) (b n : Nat) (bufs size : Int) (own : Bool) (h : b + 4 * n ≤ R.ws.length) (hm : R.ws.length ≤ 16384) (k : Nat) (hk : k ≤ n) :
    (lyK R (4 * (b : Int)) n bufs size own k).2 = 0 ∧ (lyK R (4 * (b : Int)) n bufs size own k).1.ws.length = R.ws.length ∧ (lyK R (4 * (b : Int)) n bufs size own k).1.keep = R.keep ∧ (R.keep = false → (lyK R (4 * (b : Int)) n bufs size own k).1.log = R.log) ∧
      ∀ j, W (lyK R (4 * (b : Int)) n bufs size own k).1 j = if b ≤ j ∧ j < b + 4 * k then (lyD n bufs size own ((j - b) / 4)).words.getD ((j - b) % 4) 0 else W R j := by
  induction k with
  | zero => exact ⟨rfl, rfl, rfl, fun _ => rfl, fun j => by rw [if_neg (by omega)]; rfl⟩
  | succ k ih =>
    obtain ⟨h1, h2, h3, h4, h5⟩ := ih (by omega)
    have hs : lyK R (4 * (b : Int)) n bufs size own (k + 1) = stK (lyK R (4 * (b : Int)) n bufs size own k).1 1 (lyA (4 * (b : Int)) k) (lyD n bufs size own k) 4 := by
      show lyStep _ _ _ _ _ k (lyK R _ _ _ _ _ k) = _
      simp [lyStep, h1]
    rw [hs, lyA_four b k (by omega)]
    generalize lyK R (4 * (b : Int)) n bufs size own k = u at *
    obtain ⟨g1, g2, g3, g4, g5⟩ := st_all u.1 1 (b + 4 * k) (lyD n bufs size own k) (by omega) (by omega)
    refine ⟨g1, by rw [g2, h2], by rw [g3, h3], fun hk => by rw [g4 (by rw [h3]; exact hk), h4 hk], fun j => ?_⟩
    rw [g5 j]
    by_cases c : b + 4 * k ≤ j ∧ j < b + 4 * k + 4
    · rw [if_pos c, if_pos (by omega)]
      rw [show (j - b) / 4 = k by omega, show (j - b) % 4 = j - (b + 4 * k) by omega]
    · rw [if_neg c, h5 j]
      by_cases c2 : b ≤ j ∧ j < b + 4 * k
      · rw [if_pos c2, if_pos (by omega)]
      · rw [if_neg c2, if_neg (by omega)]
/-- The i-th descriptor of a ring that was laid is loaded. -/
theorem ly_load (R R2 : Ram) (who : Int) (b n : Nat) (bufs size : Int) (own : Bool) (h : b + 4 * n ≤ R.ws.length) (hm : R.ws.length ≤ 16384) (hs : 0 ≤ size ∧ size ≤ 65535) (hw : R2.ws = (lyK R (4 * (b : Int)) n bufs size own n).1.ws) (i : Nat) (hi : i < n) :
    loadD R2 who (4 * ((b + 4 * i : Nat) : Int)) = lyD n bufs size own i ∧ loadE R2 who (4 * ((b + 4 * i : Nat) : Int)) = 0 ∧ (ldK R2 who (4 * ((b + 4 * i : Nat) : Int)) 4).1.ws = R2.ws ∧ (ldK R2 who (4 * ((b + 4 * i : Nat) : Int)) 4).1.keep = R2.keep ∧ (R2.keep = false → (ldK R2 who (4 * ((b + 4 * i : Nat) : Int)) 4).1.log = R2.log) := by
  obtain ⟨h1, h2, h3, h4, h5⟩ := ly_all R b n bufs size own h hm n (Nat.le_refl _)
  have hl : R2.ws.length = R.ws.length := by rw [hw, h2]
  obtain ⟨g1, g2, g3, g4, g5, g6⟩ := ld_all R2 who (b + 4 * i) (by omega) (by omega)
  have hW : ∀ j, W R2 j = W (lyK R (4 * (b : Int)) n bufs size own n).1 j := fun j => by unfold W; rw [hw]
  have e : [W R2 (b + 4 * i), W R2 (b + 4 * i + 1), W R2 (b + 4 * i + 2), W R2 (b + 4 * i + 3)] = (lyD n bufs size own i).words := by
    rw [hW, hW, hW, hW, h5, h5, h5, h5, if_pos (by omega), if_pos (by omega), if_pos (by omega), if_pos (by omega),
      show (b + 4 * i - b) / 4 = i by omega, show (b + 4 * i + 1 - b) / 4 = i by omega, show (b + 4 * i + 2 - b) / 4 = i by omega, show (b + 4 * i + 3 - b) / 4 = i by omega,
      show (b + 4 * i - b) % 4 = 0 by omega, show (b + 4 * i + 1 - b) % 4 = 1 by omega, show (b + 4 * i + 2 - b) % 4 = 2 by omega, show (b + 4 * i + 3 - b) % 4 = 3 by omega]
    rfl
  rw [e, of_words _ (by simp [D.may, lyD]; omega)] at g5 g6
  exact ⟨g5, g6, g2, g3, g4⟩
/-- A ring at no word's place. -/
theorem ly_bad (R : Ram) (a n bufs size : Int) (own : Bool) (k : Nat) (h : a % 4 ≠ 0) (ha : 0 ≤ a ∧ a < 4294967280) : (lyK R a n bufs size own (k + 1)).2 = 7 := by
  have h1 : (lyK R a n bufs size own 1).2 = 7 := by
    show (lyStep a n bufs size own 0 (R, 0)).2 = 7
    simp only [lyStep, if_true]
    have hb : ∀ (R : Ram) k, Rm.rdE R (adr (lyA a 0) k) = 7 := fun R k => by
      unfold Rm.rdE Rm.is adr lyA
      rw [if_neg]
      rw [decide_eq_true_eq]
      omega
    have s1 : (stK R 1 (lyA a 0) (lyD n bufs size own 0) 1).2 = 7 := by
      show (stStep _ _ _ 0 (R, 0)).2 = 7
      simp only [stStep, if_true]
      exact hb _ _
    have st : ∀ j, (stK R 1 (lyA a 0) (lyD n bufs size own 0) (1 + j)).2 = 7 := fun j => by
      induction j with
      | zero => exact s1
      | succ j ih =>
        show (stStep _ _ _ (1 + j) (stK R 1 (lyA a 0) (lyD n bufs size own 0) (1 + j))).2 = 7
        unfold stStep
        rw [if_neg (by rw [ih]; decide)]
        exact ih
    exact st 3
  have := lyK_stop R a n bufs size own 1 k (by rw [h1]; decide)
  rw [Nat.add_comm, this]
  exact h1
end Go.Proofs.Ytkegljcndhckead.Ds
