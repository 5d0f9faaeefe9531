/- A slave on the management line (chapter 10), as data: no program in sight. -/
namespace Go.Proofs.Ytkegljcndhckeac.Md
/-- A frame: write, slave, register, value. -/
def frameN (op phy reg v : Nat) : Nat := 1073741824 + op * 268435456 + phy * 8388608 + reg * 262144 + 131072 + v
def opN (write : Bool) : Nat := if write then 1 else 2
structure S where
  ph : Nat
  regs : List Int
  addr : Int
  ones : Int
  bits : Int
  got : Nat
  out : Int
  reg : Int
  to : Int
  v : Int
  took : Bool
def new (addr : Int) : S := ⟨0, List.replicate 32 0, addr, 0, 0, 0, 0, 0, 0, 0, false⟩
def idle (s : S) (i : Nat) : S :=
  if i = 1 then { s with ones := min (s.ones + 1) 32 }
  else if s.ones = 32 then { s with bits := 1, got := 0, ph := 1 }
  else { s with ones := 0 }
def push (s : S) (i : Nat) : S := { s with got := (s.got * 2 + i) % 4294967296, bits := s.bits + 1 }
def endB (s : S) (i : Nat) : Bool := decide ((s.bits = 2 ∧ i = 0) ∨ (s.bits = 4 ∧ s.got % 4 ≠ 1 ∧ s.got % 4 ≠ 2))
def head1 (s : S) (i : Nat) : S :=
  if endB s i then { s with ones := i, ph := 0 }
  else if s.bits = 14 then { s with reg := (s.got % 32 : Nat), out := s.regs.getD (s.got % 32) 0, ph := 2 }
  else s
def head (s : S) (i : Nat) : S := head1 (push s i) i
def own (s : S) : Bool := decide (((s.got / 2 ^ (s.bits - 9).toNat % 32 : Nat) : Int) = s.addr)
def writes (s : S) : Bool := decide (s.got / 2 ^ (s.bits - 4).toNat % 4 = 1)
def outB (s : S) : Int := if own s && !writes s && decide (16 ≤ s.bits) then ((s.out.toNat / 2 ^ (32 - s.bits).toNat % 2 : Nat) : Int) else 1
def take (s : S) : S := { s with regs := s.regs.set s.reg.toNat (s.got % 65536 : Nat), to := s.reg, v := (s.got % 65536 : Nat), took := true }
def tail1 (s : S) : S :=
  if s.bits = 32 then { (if own s && writes s then take s else s) with ones := 0, ph := 0 } else s
def tail (s : S) (i : Nat) : S := tail1 (push s i)
def clock (s : S) (i : Nat) : S := if s.ph = 0 then idle s i else if s.ph = 1 then head s i else tail s i
def told (s : S) (i : Nat) : Int := if s.ph = 2 then outB (push s i) else 1
def get (s : S) (r : Int) : Int := if 0 ≤ r ∧ r < 32 then s.regs.getD r.toNat 0 else 0
def set (s : S) (r v : Int) : S := if 0 ≤ r ∧ r < 32 then { s with regs := s.regs.set r.toNat v } else s
def setE (r : Int) : Int := if 0 ≤ r ∧ r < 32 then 0 else 2
/-- k ones. -/
def ones (s : S) : Nat → S
  | 0 => s
  | k + 1 => clock (ones s k) 1
/-- The bits 31 .. 32 - k of w: the state, and the last 16 bits that were told. -/
def sends (s : S) (w : Nat) : Nat → S × Nat
  | 0 => (s, 0)
  | k + 1 => (clock (sends s w k).1 (w / 2 ^ (31 - k) % 2), ((sends s w k).2 * 2 + (told (sends s w k).1 (w / 2 ^ (31 - k) % 2)).toNat) % 65536)
def send (s : S) (w : Nat) : S × Nat := sends (ones s 32) w 32
/-- Each part is of its kind. -/
structure Fit (s : S) : Prop where
  ph : s.ph ≤ 2
  rl : s.regs.length = 32
  rb : ∀ x ∈ s.regs, 0 ≤ x ∧ x < 65536
  addr : 0 ≤ s.addr ∧ s.addr < 32
  ones : 0 ≤ s.ones ∧ s.ones ≤ 32
  bits : 0 ≤ s.bits ∧ s.bits ≤ 32
  got : s.got < 4294967296
  out : 0 ≤ s.out ∧ s.out < 65536
  reg : 0 ≤ s.reg ∧ s.reg < 32
  to : 0 ≤ s.to ∧ s.to < 32
  v : 0 ≤ s.v ∧ s.v < 65536
/-- What always holds of a slave. -/
structure Ok (s : S) : Prop where
  fit : Fit s
  b0 : s.ph ≠ 0 → 1 ≤ s.bits ∧ s.bits < 32
  b1 : s.ph = 1 → s.bits < 14
  b2 : s.ph = 2 → 14 ≤ s.bits
theorem Ok.of {s : S} (f : Fit s) (h : (s.ph ≠ 0 → 1 ≤ s.bits ∧ s.bits < 32) ∧ (s.ph = 1 → s.bits < 14) ∧ (s.ph = 2 → 14 ≤ s.bits)) : Ok s := ⟨f, h.1, h.2.1, h.2.2⟩
theorem rb_at {l : List Int} (h : ∀ x ∈ l, 0 ≤ x ∧ x < 65536) (i : Nat) : 0 ≤ l.getD i 0 ∧ l.getD i 0 < 65536 := by
  rw [List.getD_eq_getElem?_getD]
  by_cases hi : i < l.length
  · simp [hi]; exact h _ (List.getElem_mem hi)
  · simp [List.getElem?_eq_none (Nat.le_of_not_lt hi)]
theorem rb_set {l : List Int} (h : ∀ x ∈ l, 0 ≤ x ∧ x < 65536) (i : Nat) (v : Int) (hv : 0 ≤ v ∧ v < 65536) : ∀ x ∈ l.set i v, 0 ≤ x ∧ x < 65536 := by
  intro x hx
  rcases List.mem_or_eq_of_mem_set hx with hx | hx
  · exact h x hx
  · rw [hx]; exact hv
theorem Ok.new (a : Int) (h : 0 ≤ a ∧ a < 32) : Ok (new a) := by
  refine ⟨⟨?_, ?_, ?_, h, ?_, ?_, ?_, ?_, ?_, ?_, ?_⟩, ?_, ?_, ?_⟩ <;> simp [Md.new]
theorem Fit.idle {s : S} (h : Fit s) (i : Nat) : Fit (idle s i) := by
  obtain ⟨ph, rl, rb, ad, on, bi, go, ou, re, to, v⟩ := h
  unfold Md.idle
  split
  · constructor <;> simp only [] <;> first | assumption | omega
  · split
    · constructor <;> simp only [] <;> first | assumption | omega
    · constructor <;> simp only [] <;> first | assumption | omega
theorem Ok.idle {s : S} (h : Ok s) (i : Nat) (p0 : s.ph = 0) : Ok (idle s i) := by
  refine Ok.of (h.fit.idle i) ?_
  unfold Md.idle
  split
  · refine ⟨?_, ?_, ?_⟩ <;> simp only [] <;> omega
  · split
    · refine ⟨?_, ?_, ?_⟩ <;> simp only [] <;> omega
    · refine ⟨?_, ?_, ?_⟩ <;> simp only [] <;> omega
theorem Fit.push {s : S} (h : Fit s) (i : Nat) (h2 : s.bits < 32) : Fit (push s i) := by
  obtain ⟨ph, rl, rb, ad, on, bi, go, ou, re, to, v⟩ := h
  have hg : (s.got * 2 + i) % 4294967296 < 4294967296 := Nat.mod_lt _ (by decide)
  constructor <;> simp only [Md.push] at * <;> first | assumption | omega
theorem Fit.over {s : S} (h : Fit s) (i : Int) (hi : 0 ≤ i ∧ i ≤ 32) : Fit { s with ones := i, ph := 0 } := by
  obtain ⟨ph, rl, rb, ad, on, bi, go, ou, re, to, v⟩ := h
  constructor <;> simp only [] <;> first | assumption | omega
theorem Fit.reads {s : S} (h : Fit s) : Fit { s with reg := (s.got % 32 : Nat), out := s.regs.getD (s.got % 32) 0, ph := 2 } := by
  obtain ⟨ph, rl, rb, ad, on, bi, go, ou, re, to, v⟩ := h
  have hr := rb_at rb (s.got % 32)
  constructor <;> simp only [] <;> first | assumption | omega
theorem Fit.take {s : S} (h : Fit s) : Fit (take s) := by
  obtain ⟨ph, rl, rb, ad, on, bi, go, ou, re, to, v⟩ := h
  have hs := rb_set rb s.reg.toNat ((s.got % 65536 : Nat) : Int) (by omega)
  constructor <;> simp only [Md.take, List.length_set] <;> first | assumption | omega
theorem Fit.head1 {s : S} (h : Fit s) (i : Nat) (hi : i < 2) : Fit (head1 s i) := by
  unfold Md.head1
  split
  · exact h.over i (by omega)
  · split
    · exact h.reads
    · exact h
theorem Fit.tail1 {s : S} (h : Fit s) : Fit (tail1 s) := by
  unfold Md.tail1
  split
  · split
    · exact h.take.over 0 (by omega)
    · exact h.over 0 (by omega)
  · exact h
theorem Ok.head {s : S} (h : Ok s) (i : Nat) (hi : i < 2) (p1 : s.ph = 1) : Ok (head s i) := by
  have h0 := h.b0 (by omega); have h1 := h.b1 p1
  refine Ok.of ((h.fit.push i (by omega)).head1 i hi) ?_
  unfold Md.head Md.head1
  split
  · refine ⟨?_, ?_, ?_⟩ <;> simp only [push] <;> omega
  · split
    · refine ⟨?_, ?_, ?_⟩ <;> simp only [push] at * <;> omega
    · refine ⟨?_, ?_, ?_⟩ <;> simp only [push] at * <;> omega
theorem Ok.tail {s : S} (h : Ok s) (i : Nat) (p2 : s.ph = 2) : Ok (tail s i) := by
  have h0 := h.b0 (by omega); have h1 := h.b2 p2
  refine Ok.of ((h.fit.push i (by omega)).tail1) ?_
  unfold Md.tail Md.tail1
  split
  · refine ⟨?_, ?_, ?_⟩ <;> simp only [] <;> omega
  · refine ⟨?_, ?_, ?_⟩ <;> simp only [push] at * <;> omega
theorem Ok.clock {s : S} (h : Ok s) (i : Nat) (hi : i < 2) : Ok (clock s i) := by
  unfold Md.clock
  split
  · exact h.idle i ‹_›
  · split
    · exact h.head i hi ‹_›
    · exact h.tail i (by have := h.fit.ph; omega)
theorem Fit.wr {s : S} (h : Fit s) (i : Nat) (v : Int) (hv : 0 ≤ v ∧ v < 65536) : Fit { s with regs := s.regs.set i v } :=
  ⟨h.ph, by simpa using h.rl, rb_set h.rb _ _ hv, h.addr, h.ones, h.bits, h.got, h.out, h.reg, h.to, h.v⟩
theorem Ok.set {s : S} (h : Ok s) (r v : Int) (hv : 0 ≤ v ∧ v < 65536) : Ok (set s r v) := by
  unfold Md.set
  split
  · exact ⟨h.fit.wr r.toNat v hv, h.b0, h.b1, h.b2⟩
  · exact h
theorem outB_or (s : S) : outB s = 0 ∨ outB s = 1 := by
  unfold outB
  split
  · omega
  · exact .inr rfl
theorem told_or (s : S) (i : Nat) : told s i = 0 ∨ told s i = 1 := by
  unfold told
  split
  · exact outB_or _
  · exact .inr rfl
theorem Ok.onesK {s : S} (h : Ok s) (k : Nat) : Ok (Md.ones s k) := by
  induction k with
  | zero => exact h
  | succ k ih => exact ih.clock 1 (by omega)
theorem Ok.sends {s : S} (h : Ok s) (w k : Nat) : Ok (Md.sends s w k).1 := by
  induction k with
  | zero => exact h
  | succ k ih => exact ih.clock _ (by omega)
theorem Ok.send {s : S} (h : Ok s) (w : Nat) : Ok (Md.send s w).1 := by
  unfold Md.send
  generalize hk : (32 : Nat) = k
  exact (h.onesK k).sends w k
theorem sends_lt (s : S) (w k : Nat) : (Md.sends s w k).2 < 65536 := by
  cases k with
  | zero => simp [Md.sends]
  | succ k => exact Nat.mod_lt _ (by decide)
end Go.Proofs.Ytkegljcndhckeac.Md
