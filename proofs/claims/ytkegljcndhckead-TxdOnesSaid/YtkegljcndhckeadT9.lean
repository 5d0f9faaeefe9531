import Derived.Test.YtkegljcndhckeadT8
import Derived.Test.YtkegljcndhckeadDLay
namespace Go.Proofs.Ytkegljcndhckead
open Go.RowKit
set_option linter.unusedVariables false
theorem tlay_four (n : Nat) (size : Int) (own : Bool) (hn : n ≤ 64) : (Ds.lyK (Rm.blank 2048) 0 n 2048 size own n).2 = 0 ∧ (Ds.lyK (Rm.blank 2048) 0 n 2048 size own n).1.ws.length = 2048 ∧ (Ds.lyK (Rm.blank 2048) 0 n 2048 size own n).1.keep = false ∧ (Ds.lyK (Rm.blank 2048) 0 n 2048 size own n).1.log = [] := by
  have hl : (Rm.blank 2048).ws.length = 2048 := List.length_replicate ..
  obtain ⟨h1, h2, h3, h4, h5⟩ := Ds.ly_all (Rm.blank 2048) 0 n 2048 size own (by omega) (by omega) n (Nat.le_refl n)
  exact ⟨h1, h2.trans hl, h3, h4 rfl⟩
set_option maxRecDepth 20000 in
theorem tlaid_ok (n : Nat) (hn : 2 ≤ n ∧ n ≤ 64) (w : World) :
    Calls Try.prog 22 #[.int .i64 n] w fun e w' => e = .returned (.pointer (some ⟨w.heap.size + 1, 0, none⟩)) ∧
      ∃ F, RamAt w' (w.heap.size + 1) F (Ds.lyK (Rm.blank 2048) 0 n 2048 64 false n).1 ∧ Below w.heap.size w w' ∧ ∀ b ∈ F, w.heap.size ≤ b := by
  have H0 := Lib.hid (tlay_four n 64 false hn.2).1
  have HN := Lib.hid hn
  clear hn
  go_enter Try.func22, Try.ntmps22
  go_wp2_with fail
  refine (rnew_ok 2048 (by omega) _).mono ?_
  rintro e w1 ⟨rfl, hR, hb⟩
  have HB := Lib.hid hb
  have HR := Lib.hid (show RamAt w1 _ _ (Rm.blank 2048) from hR)
  clear hb hR
  go_wp2_with fail
  refine (lay_ok _ _ _ 0 n 2048 64 false (by decide) (by decide) HN.out (by decide) (by decide) _ HR.out (by decide)).mono ?_
  rintro e w2 ⟨rfl, F2, hR2, hM2⟩
  rw [H0.out]
  have HR2 := Lib.hid hR2
  have HE := Lib.hid (hM2.below HB.out.size (by intro k hk; simp at hk; omega))
  have HG := Lib.hid (hM2.ge HB.out.size (by intro k hk; simp at hk; omega))
  clear hR2 hM2
  go_wp2
  go_ret
  exact ⟨rfl, F2, HR2.out, HB.out.trans HE.out, HG.out⟩
/-- A log of one access, many times, cell by cell. -/
theorem accs_rep (A : Rm.Acc) (k i j : Nat) (hi : i < k) (hj : j < 5) : (accs (List.replicate k A))[i * 5 + j]? = A.cells[j]? := by
  induction k generalizing i with
  | zero => omega
  | succ k ih =>
    have hc : A.cells.length = 5 := rfl
    have e : accs (List.replicate (k + 1) A) = A.cells ++ accs (List.replicate k A) := by simp [accs, List.replicate_succ]
    rw [e]
    by_cases h0 : i = 0
    · subst h0
      rw [List.getElem?_append_left (by omega)]
      congr 1
      omega
    · rw [List.getElem?_append_right (by omega), hc]
      rw [show i * 5 + j - 5 = (i - 1) * 5 + j by omega]
      exact ih (i - 1) (by omega)
def idleA (v : Int) : Rm.Acc := ⟨2, false, 0, v, 0⟩
def idleR (R : Rm.Ram) (k : Nat) : Rm.Ram := { R with log := List.replicate k (idleA (Rm.rdV R 0)) }
def ste : Tx.E := Tx.start (Tx.new 0)
theorem idle_step (R : Rm.Ram) (hi : Rm.is R 0 = true) (hv : Rm.rdV R 0 < 2147483648 ∧ 0 ≤ Rm.rdV R 0) (hk : R.keep = true) (k : Nat) : Tx.step (ste, idleR R k) = (ste, idleR R (k + 1)) := by
  have e1 : Tx.place ste = 0 := rfl
  have e2 : Rm.is (idleR R k) 0 = true := hi
  have e3 : Rm.rdV (idleR R k) 0 = Rm.rdV R 0 := rfl
  have e4 : Rm.rdE (idleR R k) 0 = 0 := by unfold Rm.rdE; rw [e2, if_pos rfl]
  show (Tx.fetch ste (Rm.rdV (idleR R k) (Tx.place ste)) (Rm.is (idleR R k) (Tx.place ste)), Rm.read (idleR R k) 2 (Tx.place ste)) = _
  rw [e1, e2, e3]
  have h1 : Tx.fetch ste (Rm.rdV R 0) true = ste := by
    unfold Tx.fetch
    rw [if_pos rfl, if_pos (by omega)]
  have h2 : Rm.read (idleR R k) 2 0 = idleR R (k + 1) := by
    unfold Rm.read Rm.note
    rw [show (idleR R k).keep = true from hk, if_pos rfl, e3, e4]
    unfold idleR
    rw [List.replicate_succ', hk]
    rfl
  rw [h1, h2]
theorem idle_mem (n : Nat) (hn : n ≤ 64) (v : Int) (hv : 0 ≤ v ∧ v < 65536) :
    Rm.is (Rm.keep (Rm.write (Ds.lyK (Rm.blank 2048) 0 n 2048 64 false n).1 1 0 v) true) 0 = true ∧ Rm.rdV (Rm.keep (Rm.write (Ds.lyK (Rm.blank 2048) 0 n 2048 64 false n).1 1 0 v) true) 0 = v ∧ Rm.rdE (Ds.lyK (Rm.blank 2048) 0 n 2048 64 false n).1 0 = 0 := by
  obtain ⟨-, h2, h3, h4⟩ := tlay_four n 64 false hn
  generalize (Ds.lyK (Rm.blank 2048) 0 n 2048 64 false n).1 = R at *
  have hi : Rm.is R 0 = true := Rm.is_iff.2 ⟨rfl, by rw [h2]; omega⟩
  have hw : (Rm.write R 1 0 v).ws = R.ws.set 0 v := by unfold Rm.write; rw [hi, if_pos rfl]; simp
  have h5 : Rm.is (Rm.keep (Rm.write R 1 0 v) true) 0 = true := by
    refine Rm.is_iff.2 ⟨rfl, ?_⟩
    show (0 : Int) / 4 < ((Rm.write R 1 0 v).ws.length : Int)
    rw [hw, List.length_set, h2]; omega
  refine ⟨h5, ?_, by unfold Rm.rdE; rw [hi, if_pos rfl]⟩
  unfold Rm.rdV
  rw [h5, if_pos rfl]
  show (Rm.write R 1 0 v).ws.getD 0 0 = v
  rw [hw]
  simp [List.getD_eq_getElem?_getD, h2]
end Go.Proofs.Ytkegljcndhckead
