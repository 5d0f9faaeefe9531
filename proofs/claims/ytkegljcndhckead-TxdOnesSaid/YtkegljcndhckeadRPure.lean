/- Memory with a log of accesses (chapter 8), as data: no program in sight. -/
namespace Go.Proofs.Ytkegljcndhckead.Rm
structure Acc where
  who : Int
  wr : Bool
  at_ : Int
  val : Int
  err : Int
deriving DecidableEq
structure Ram where
  ws : List Int
  log : List Acc
  keep : Bool
/-- Is there a word at a? -/
def is (R : Ram) (a : Int) : Bool := decide (a % 4 = 0 ∧ a / 4 < R.ws.length)
def note (R : Ram) (x : Acc) : Ram := if R.keep then { R with log := R.log ++ [x] } else R
/-- What a read tells: the word, the error. -/
def rdV (R : Ram) (a : Int) : Int := if is R a then R.ws.getD (a / 4).toNat 0 else 0
def rdE (R : Ram) (a : Int) : Int := if is R a then 0 else 7
def read (R : Ram) (who a : Int) : Ram := note R ⟨who, false, a, rdV R a, rdE R a⟩
def write (R : Ram) (who a v : Int) : Ram := note (if is R a then { R with ws := R.ws.set (a / 4).toNat v } else R) ⟨who, true, a, v, rdE R a⟩
def keep (R : Ram) (on : Bool) : Ram := { R with log := [], keep := on }
def dumpOk (R : Ram) (a n : Int) : Bool := decide (a % 4 = 0 ∧ 0 ≤ n ∧ n ≤ R.ws.length ∧ (n ≤ 0 ∨ a / 4 ≤ R.ws.length - n))
def dump (R : Ram) (a n : Int) : List Int := (R.ws.drop (a / 4).toNat).take n.toNat
def blank (n : Nat) : Ram := ⟨List.replicate n 0, [], false⟩
theorem is_iff {R : Ram} {a : Int} : is R a = true ↔ a % 4 = 0 ∧ a / 4 < R.ws.length := by simp [is]
@[simp] theorem note_ws (R : Ram) (x : Acc) : (note R x).ws = R.ws := by unfold note; split <;> rfl
@[simp] theorem note_keep (R : Ram) (x : Acc) : (note R x).keep = R.keep := by unfold note; split <;> rfl
theorem note_len (R : Ram) (x : Acc) : (note R x).log.length ≤ R.log.length + 1 := by unfold note; split <;> simp
@[simp] theorem read_ws (R : Ram) (who a : Int) : (read R who a).ws = R.ws := by simp [read]
@[simp] theorem read_keep (R : Ram) (who a : Int) : (read R who a).keep = R.keep := by simp [read]
theorem read_len (R : Ram) (who a : Int) : (read R who a).log.length ≤ R.log.length + 1 := note_len _ _
@[simp] theorem write_keep (R : Ram) (who a v : Int) : (write R who a v).keep = R.keep := by unfold write; rw [note_keep]; split <;> rfl
@[simp] theorem write_len_ws (R : Ram) (who a v : Int) : (write R who a v).ws.length = R.ws.length := by unfold write; rw [note_ws]; split <;> simp
theorem write_len (R : Ram) (who a v : Int) : (write R who a v).log.length ≤ R.log.length + 1 := by
  unfold write
  refine Nat.le_trans (note_len _ _) ?_
  split <;> simp
theorem write_ws (R : Ram) (who a v : Int) : (write R who a v).ws = if is R a then R.ws.set (a / 4).toNat v else R.ws := by unfold write; rw [note_ws]; split <;> rfl
@[simp] theorem is_read (R : Ram) (who a b : Int) : is (read R who a) b = is R b := by simp [is]
@[simp] theorem is_write (R : Ram) (who a v b : Int) : is (write R who a v) b = is R b := by simp [is]
/-- All words fit. -/
def Fit (R : Ram) : Prop := ∀ x ∈ R.ws, 0 ≤ x ∧ x < 4294967296
theorem Fit.at_ {R : Ram} (h : Fit R) (i : Nat) : 0 ≤ R.ws.getD i 0 ∧ R.ws.getD i 0 < 4294967296 := by
  rw [List.getD_eq_getElem?_getD]
  by_cases hi : i < R.ws.length
  · simp [hi]; exact h _ (List.getElem_mem hi)
  · simp [List.getElem?_eq_none (Nat.le_of_not_lt hi)]
theorem Fit.rdV {R : Ram} (h : Fit R) (a : Int) : 0 ≤ rdV R a ∧ rdV R a < 4294967296 := by
  unfold Rm.rdV
  split
  · exact h.at_ _
  · omega
theorem Fit.read {R : Ram} (h : Fit R) (who a : Int) : Fit (read R who a) := by unfold Fit; rw [read_ws]; exact h
theorem Fit.write {R : Ram} (h : Fit R) (who a v : Int) (hv : 0 ≤ v ∧ v < 4294967296) : Fit (write R who a v) := by
  unfold Fit; rw [write_ws]
  split
  · intro x hx
    rcases List.mem_or_eq_of_mem_set hx with hx | hx
    · exact h x hx
    · rw [hx]; exact hv
  · exact h
theorem Fit.blank (n : Nat) : Fit (blank n) := by
  intro x hx
  simp [Rm.blank] at hx
  omega
theorem Fit.keep {R : Ram} (h : Fit R) (on : Bool) : Fit (keep R on) := h
end Go.Proofs.Ytkegljcndhckead.Rm
