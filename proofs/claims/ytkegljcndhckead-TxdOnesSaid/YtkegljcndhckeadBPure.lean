/- Plain laws on bytes and words (chapter 1): no program in sight. -/
namespace Go.Proofs.Ytkegljcndhckead.Wd
/-- Are they all bytes? -/
def Bytes (xs : List Int) : Prop := ∀ x ∈ xs, 0 ≤ x ∧ x < 256
def Words (xs : List Int) : Prop := ∀ x ∈ xs, 0 ≤ x ∧ x < 4294967296
theorem Bytes.at_ {xs : List Int} (h : Bytes xs) (i : Nat) : 0 ≤ xs.getD i 0 ∧ xs.getD i 0 < 256 := by
  rw [List.getD_eq_getElem?_getD]
  by_cases hi : i < xs.length
  · simp [hi]; exact h _ (List.getElem_mem hi)
  · simp [List.getElem?_eq_none (Nat.le_of_not_lt hi)]
theorem Words.at_ {xs : List Int} (h : Words xs) (i : Nat) : 0 ≤ xs.getD i 0 ∧ xs.getD i 0 < 4294967296 := by
  rw [List.getD_eq_getElem?_getD]
  by_cases hi : i < xs.length
  · simp [hi]; exact h _ (List.getElem_mem hi)
  · simp [List.getElem?_eq_none (Nat.le_of_not_lt hi)]
theorem Bytes.drop {xs : List Int} (h : Bytes xs) (i : Nat) : Bytes (xs.drop i) := fun x hx => h x (List.mem_of_mem_drop hx)
theorem Bytes.take {xs : List Int} (h : Bytes xs) (i : Nat) : Bytes (xs.take i) := fun x hx => h x (List.mem_of_mem_take hx)
/-- The word of the first k bytes, k up to four. -/
def ofK (xs : List Int) : Nat → Int
  | 0 => 0
  | k + 1 => ofK xs k + xs.getD k 0 * 256 ^ k
/-- The word of the first four bytes. -/
def ofL (xs : List Int) : Int := ofK xs 4
theorem ofK_bounds {xs : List Int} (h : Bytes xs) : ∀ k, 0 ≤ ofK xs k ∧ ofK xs k < 256 ^ k
  | 0 => by simp [ofK]
  | k + 1 => by
    have ih := ofK_bounds h k
    have hx := h.at_ k
    have hp : (0 : Int) < 256 ^ k := Int.pow_pos (by decide)
    have h1 : xs.getD k 0 * 256 ^ k ≤ 255 * 256 ^ k := Int.mul_le_mul_of_nonneg_right (by omega) (by omega)
    have h0 : 0 ≤ xs.getD k 0 * 256 ^ k := Int.mul_nonneg hx.1 (by omega)
    simp only [ofK, Int.pow_succ]
    omega
theorem ofL_bounds {xs : List Int} (h : Bytes xs) : 0 ≤ ofL xs ∧ ofL xs < 4294967296 := ofK_bounds h 4
theorem ofK_short (xs : List Int) (k : Nat) (hk : xs.length ≤ k) : ofK xs (k + 1) = ofK xs k := by
  have : xs.getD k 0 = 0 := by rw [List.getD_eq_getElem?_getD, List.getElem?_eq_none hk]; rfl
  show ofK xs k + xs.getD k 0 * 256 ^ k = ofK xs k
  rw [this]; simp
/-- As many bytes as there are, four at most, make the word. -/
theorem ofK_min (xs : List Int) : ofK xs (min xs.length 4) = ofL xs := by
  unfold ofL
  rcases Nat.lt_or_ge xs.length 4 with h | h
  · have h3 := ofK_short xs 3
    have h2 := ofK_short xs 2
    have h1 := ofK_short xs 1
    have h0 := ofK_short xs 0
    match hl : xs.length, h with
    | 0, _ => rw [hl] at h0 h1 h2 h3; simp at h0 h1 h2 h3; show ofK xs 0 = _; rw [h3, h2, h1, h0]
    | 1, _ => rw [hl] at h0 h1 h2 h3; simp at h1 h2 h3; show ofK xs 1 = _; rw [h3, h2, h1]
    | 2, _ => rw [hl] at h0 h1 h2 h3; simp at h2 h3; show ofK xs 2 = _; rw [h3, h2]
    | 3, _ => rw [hl] at h0 h1 h2 h3; simp at h3; show ofK xs 3 = _; rw [h3]
  · rw [Nat.min_eq_right h]
theorem ofL_eq (xs : List Int) : ofL xs = xs.getD 0 0 + xs.getD 1 0 * 256 + xs.getD 2 0 * 65536 + xs.getD 3 0 * 16777216 := by
  simp [ofL, ofK]
/-- From the highest byte down. -/
def hornK (xs : List Int) : Nat → Int
  | 0 => 0
  | k + 1 => hornK xs k * 256 + xs.getD (3 - k) 0
theorem horn_ofL (xs : List Int) : hornK xs 4 = ofL xs := by rw [ofL_eq]; simp [hornK]; omega
theorem hornK_bounds {xs : List Int} (h : Bytes xs) : ∀ k, 0 ≤ hornK xs k ∧ hornK xs k < 256 ^ k
  | 0 => by simp [hornK]
  | k + 1 => by
    have ih := hornK_bounds h k
    have hx := h.at_ (3 - k)
    simp only [hornK, Int.pow_succ]
    omega
/-- A word's bytes. -/
def bytesL (w : Int) : List Int := [w % 256, w / 256 % 256, w / 65536 % 256, w / 16777216 % 256]
theorem bytesL_bytes (w : Int) : Bytes (bytesL w) := by
  intro x hx
  simp [bytesL] at hx
  rcases hx with rfl | rfl | rfl | rfl <;> omega
theorem of_bytes (w : Int) (h : 0 ≤ w ∧ w < 4294967296) : ofL (bytesL w) = w := by
  rw [ofL_eq]; simp [bytesL]; omega
/-- Bytes as words. -/
def packL (xs : List Int) : List Int := (List.range ((xs.length + 3) / 4)).map fun i => ofL (xs.drop (4 * i))
/-- The words of the first k fours. -/
def packK (xs : List Int) (k : Nat) : List Int := (List.range k).map fun i => ofL (xs.drop (4 * i))
theorem packK_succ (xs : List Int) (k : Nat) : packK xs (k + 1) = packK xs k ++ [ofL (xs.drop (4 * k))] := by simp [packK, List.range_succ]
theorem packK_len (xs : List Int) (k : Nat) : (packK xs k).length = k := by simp [packK]
theorem packK_all (xs : List Int) : packK xs ((xs.length + 3) / 4) = packL xs := rfl
/-- Words as bytes. -/
def unpackK (ws : List Int) (k : Nat) : List Int := (ws.take k).flatMap bytesL
theorem unpackK_succ (ws : List Int) (k : Nat) (h : k < ws.length) : unpackK ws (k + 1) = unpackK ws k ++ bytesL (ws.getD k 0) := by
  unfold unpackK
  rw [List.take_succ_eq_append_getElem h, List.flatMap_append]
  simp [List.getD_eq_getElem?_getD, h]
theorem unpackK_len (ws : List Int) : ∀ k, k ≤ ws.length → (unpackK ws k).length = 4 * k
  | 0, _ => by simp [unpackK]
  | k + 1, h => by
    rw [unpackK_succ _ _ (by omega), List.length_append, unpackK_len ws k (by omega)]; simp [bytesL]; omega
theorem unpackK_bytes (ws : List Int) (k : Nat) : Bytes (unpackK ws k) := by
  intro x hx
  simp only [unpackK, List.mem_flatMap] at hx
  obtain ⟨w, _, hx⟩ := hx
  exact bytesL_bytes w x hx
def unpackL (ws : List Int) (n : Nat) : List Int := (unpackK ws ((n + 3) / 4)).take n
/-- Byte i. -/
theorem unpackK_at (ws : List Int) : ∀ k i, k ≤ ws.length → i < 4 * k → (unpackK ws k).getD i 0 = (bytesL (ws.getD (i / 4) 0)).getD (i % 4) 0
  | 0, i, _, h => by omega
  | k + 1, i, hk, h => by
    rw [unpackK_succ _ _ (by omega)]
    rcases Nat.lt_or_ge i (4 * k) with h1 | h1
    · rw [List.getD_eq_getElem?_getD, List.getElem?_append_left (by rw [unpackK_len _ _ (by omega)]; exact h1), ← List.getD_eq_getElem?_getD]
      exact unpackK_at ws k i (by omega) h1
    · rw [List.getD_eq_getElem?_getD, List.getElem?_append_right (by rw [unpackK_len _ _ (by omega)]; exact h1), ← List.getD_eq_getElem?_getD, unpackK_len _ _ (by omega)]
      have e1 : i / 4 = k := by omega
      have e2 : i % 4 = i - 4 * k := by omega
      rw [e1, e2]
/-- The reference's: byte by byte. -/
theorem unpackL_succ (ws : List Int) (n : Nat) (h : n < 4 * ws.length) : unpackL ws (n + 1) = unpackL ws n ++ [(bytesL (ws.getD (n / 4) 0)).getD (n % 4) 0] := by
  have key : ∀ m k, m ≤ 4 * k → k ≤ ws.length → (unpackK ws k).take m = (List.range m).map fun i => (bytesL (ws.getD (i / 4) 0)).getD (i % 4) 0 := by
    intro m k hm hk
    apply List.ext_getElem
    · simp [unpackK_len ws k hk]; omega
    · intro i h1 h2
      simp [unpackK_len ws k hk] at h1
      have := unpackK_at ws k i hk (by omega)
      rw [List.getD_eq_getElem?_getD, List.getElem?_eq_getElem (by rw [unpackK_len ws k hk]; omega)] at this
      simpa using this
  unfold unpackL
  rw [key _ _ (by omega) (by omega), key _ _ (by omega) (by omega), List.range_succ, List.map_append]
  rfl
theorem unpackL_len (ws : List Int) (n : Nat) (h : n ≤ 4 * ws.length) : (unpackL ws n).length = n := by
  unfold unpackL
  rw [List.length_take, unpackK_len ws _ (by omega)]; omega
theorem packL_len (xs : List Int) : (packL xs).length = (xs.length + 3) / 4 := by simp [packL]
/-- What was packed is unpacked. -/
theorem unpack_pack (xs : List Int) (h : Bytes xs) : unpackL (packL xs) xs.length = xs := by
  apply List.ext_getElem
  · rw [unpackL_len _ _ (by rw [packL_len]; omega)]
  · intro i h1 h2
    have hk := unpackK_at (packL xs) ((xs.length + 3) / 4) i (by rw [packL_len]; exact Nat.le_refl _) (by omega)
    have hl := unpackK_len (packL xs) ((xs.length + 3) / 4) (by rw [packL_len]; exact Nat.le_refl _)
    rw [List.getD_eq_getElem?_getD, List.getElem?_eq_getElem (by rw [hl]; omega)] at hk
    simp only [unpackL, List.getElem_take]
    have e : (unpackK (packL xs) ((xs.length + 3) / 4))[i]'(by rw [hl]; omega) = (bytesL ((packL xs).getD (i / 4) 0)).getD (i % 4) 0 := by simpa using hk
    rw [e]
    have e2 : (packL xs).getD (i / 4) 0 = ofL (xs.drop (4 * (i / 4))) := by
      rw [List.getD_eq_getElem?_getD, List.getElem?_eq_getElem (by rw [packL_len]; omega)]
      simp [packL]
    rw [e2, ofL_eq]
    have b := h.drop (4 * (i / 4))
    have b0 := b.at_ 0; have b1 := b.at_ 1; have b2 := b.at_ 2; have b3 := b.at_ 3
    have hd : ∀ j, (xs.drop (4 * (i / 4))).getD j 0 = xs.getD (4 * (i / 4) + j) 0 := fun j => by simp [List.getD_eq_getElem?_getD]
    have ex : xs[i] = xs.getD (4 * (i / 4) + i % 4) 0 := by
      rw [show 4 * (i / 4) + i % 4 = i by omega]; simp [List.getD_eq_getElem?_getD, h2]
    rw [ex]
    rw [hd] at b0 b1 b2 b3
    rw [hd, hd, hd, hd]
    have hm : i % 4 = 0 ∨ i % 4 = 1 ∨ i % 4 = 2 ∨ i % 4 = 3 := by omega
    rcases hm with hm | hm | hm | hm <;> rw [hm] <;> simp only [bytesL, List.getD_cons_zero, List.getD_cons_succ] <;> omega
end Go.Proofs.Ytkegljcndhckead.Wd
