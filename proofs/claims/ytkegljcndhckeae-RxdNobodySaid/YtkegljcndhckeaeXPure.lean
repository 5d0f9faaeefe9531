import Derived.Test.YtkegljcndhckeaeDMem
import Derived.Test.YtkegljcndhckeaeBPure
/- The engine that writes frames (chapter 18), as data: no program in sight. -/
namespace Go.Proofs.Ytkegljcndhckeae.Rx
open Rm (Ram)
open Ds (D)
structure E where
  base : Int
  at_ : Int
  state : Int
  phase : Int
  d : D
  put : Int
  sent : Int
  inner : Bool
  frame : List Int
  time : Int
def new (base : Int) : E := ⟨base, base, 0, 0, Ds.blank, 0, 0, false, [], 0⟩
def start (e : E) : E := { new e.base with state := 1 }
def stop (e : E) : E := new e.base
def add (a k : Int) : Int := (a + k) % 4294967296
def halt (e : E) : E := { e with state := 2 }
def isFree (e : E) : Bool := decide (e.state = 1 ∧ e.frame = [])
def giveE (e : E) (f : List Int) : Int := if e.state ≠ 1 then 8 else if f.length = 0 ∨ 1518 < f.length then 1 else if e.frame = [] then 0 else 3
def give (e : E) (f : List Int) (t : Int) : E := if giveE e f = 0 then { e with frame := f, time := t, sent := 0, inner := false, phase := 0 } else e
def fin (x : E × Bool) : E := if x.2 then x.1 else halt x.1
def fetchF (e : E) (v : Int) (ok : Bool) : E × Bool :=
  if ok then
    if v.toNat / 2147483648 % 2 = 0 then (e, true)
    else if (Ds.ofR [v, 0, 0, 0]).2 ≠ 0 then (e, false)
    else ({ e with d := (Ds.ofR [v, 0, 0, 0]).1, put := 0, phase := 1 }, true)
  else (e, false)
def wherF (e : E) (v : Int) (ok : Bool) : E × Bool := ({ e with d := { e.d with at_ := v }, phase := 2 }, ok)
def sizeF (e : E) (v : Int) (ok : Bool) : E × Bool :=
  if ok = false ∨ v = 0 ∨ 2048 < v ∨ v % 4 ≠ 0 then (e, false) else ({ e with d := { e.d with size := v }, phase := 3 }, true)
/-- How many bytes of the frame go into a word. -/
def part (e : E) : Int := min 4 ((e.frame.length : Int) - e.sent)
def word (e : E) : Int := Wd.ofL ((e.frame.drop e.sent.toNat).take (part e).toNat)
def data1 (e : E) : E := { e with sent := e.sent + part e, put := e.put + 4 }
def dataF (e : E) (ok : Bool) : E × Bool :=
  if ok then (if (data1 e).sent = e.frame.length then { data1 e with phase := 4 } else if (data1 e).put = e.d.size then { data1 e with phase := 5 } else data1 e, true) else (e, false)
def stampF (e : E) (ok : Bool) : E × Bool := ({ e with phase := 5 }, ok)
def isLast (e : E) : Bool := decide (e.sent = e.frame.length)
def backD (e : E) : D := ⟨false, e.d.wrap, !e.inner, isLast e, false, e.sent, 0, 0, 0⟩
def backF (e : E) (ok : Bool) : E × Bool :=
  if ok then ({ e with at_ := if e.d.wrap then e.base else add e.at_ 16, inner := true, frame := if isLast e then [] else e.frame, phase := 0 }, true) else (e, false)
/-- Where a phase reads or writes. -/
def place (e : E) : Int := if e.phase = 0 then e.at_ else if e.phase = 1 then add e.at_ 4 else if e.phase = 2 then add e.at_ 8 else if e.phase = 3 then add e.d.at_ e.put else if e.phase = 4 then add e.at_ 12 else e.at_
/-- The phase by itself. -/
def phased (e : E) (R : Ram) : E × Ram :=
  if e.phase = 0 then (fin (fetchF e (Rm.rdV R (place e)) (Rm.is R (place e))), Rm.read R 3 (place e))
  else if e.phase = 1 then (fin (wherF e (Rm.rdV R (place e)) (Rm.is R (place e))), Rm.read R 3 (place e))
  else if e.phase = 2 then (fin (sizeF e (Rm.rdV R (place e)) (Rm.is R (place e))), Rm.read R 3 (place e))
  else if e.phase = 3 then (fin (dataF e (Rm.is R (place e))), Rm.write R 3 (place e) (word e))
  else if e.phase = 4 then (fin (stampF e (Rm.is R (place e))), Rm.write R 3 (place e) e.time)
  else (fin (backF e (Rm.is R (place e))), Rm.write R 3 (place e) (backD e).word)
def goes (e : E) : Bool := decide (e.state = 1 ∧ e.frame ≠ [])
def step (s : E × Ram) : E × Ram := if goes s.1 then phased s.1 s.2 else s
def steps (s : E × Ram) : Nat → E × Ram
  | 0 => s
  | k + 1 => step (steps s k)
/-- What always holds. -/
structure Ok (e : E) : Prop where
  base : 0 ≤ e.base ∧ e.base < 4294967296
  at_ : 0 ≤ e.at_ ∧ e.at_ < 4294967296
  state : 0 ≤ e.state ∧ e.state ≤ 2
  phase : 0 ≤ e.phase ∧ e.phase ≤ 5
  dat : 0 ≤ e.d.at_ ∧ e.d.at_ < 4294967296
  dlen : 0 ≤ e.d.len ∧ e.d.len < 65536
  dsize : 0 ≤ e.d.size ∧ e.d.size ≤ 2048
  dstamp : e.d.stamp = 0
  put : 0 ≤ e.put ∧ e.put ≤ 2048
  g0 : e.phase = 1 ∨ e.phase = 2 → e.put = 0
  p3 : e.phase = 3 → e.put < e.d.size ∧ e.put % 4 = 0 ∧ e.d.size % 4 = 0
  sent : 0 ≤ e.sent ∧ e.sent ≤ 1518
  s3 : e.frame ≠ [] → e.phase ≤ 3 → e.sent < e.frame.length
  s5 : e.frame ≠ [] → e.sent ≤ e.frame.length
  fl : (e.frame.length : Int) ≤ 1518
  fb : Wd.Bytes e.frame
  time : 0 ≤ e.time ∧ e.time < 4294967296
theorem Ok.new (b : Int) (h : 0 ≤ b ∧ b < 4294967296) : Ok (new b) := by
  refine ⟨h, h, ?_, ?_, ?_, ?_, ?_, rfl, ?_, ?_, ?_, ?_, ?_, ?_, ?_, ?_, ?_⟩ <;> simp [Rx.new, Ds.blank, Wd.Bytes]
theorem Ok.start {e : E} (h : Ok e) : Ok (start e) := by
  have t := Ok.new e.base h.base
  exact ⟨t.base, t.at_, by simp [Rx.start], t.phase, t.dat, t.dlen, t.dsize, t.dstamp, t.put, t.g0, t.p3, t.sent, t.s3, t.s5, t.fl, t.fb, t.time⟩
theorem Ok.stop {e : E} (h : Ok e) : Ok (stop e) := Ok.new e.base h.base
theorem Ok.halt {e : E} (h : Ok e) : Ok (halt e) := ⟨h.base, h.at_, by simp [Rx.halt], h.phase, h.dat, h.dlen, h.dsize, h.dstamp, h.put, h.g0, h.p3, h.sent, h.s3, h.s5, h.fl, h.fb, h.time⟩
theorem Ok.give {e : E} (h : Ok e) (f : List Int) (t : Int) (hf : Wd.Bytes f) (ht : 0 ≤ t ∧ t < 4294967296) : Ok (give e f t) := by
  unfold Rx.give
  split
  · rename_i hz
    have hl : 1 ≤ f.length ∧ f.length ≤ 1518 := by
      unfold giveE at hz
      split at hz
      · exact absurd hz (by decide)
      · split at hz
        · exact absurd hz (by decide)
        · omega
    exact ⟨h.base, h.at_, h.state, by simp, h.dat, h.dlen, h.dsize, h.dstamp, h.put, fun h => absurd h (by simp), fun h => absurd h (by simp), by simp, fun _ _ => by simp only; omega, fun _ => by simp only; omega, by simp only; omega, hf, ht⟩
  · exact h
theorem of_first (v : Int) (h : (Ds.ofR [v, 0, 0, 0]).2 = 0) : (Ds.ofR [v, 0, 0, 0]).1 = Ds.ofD v 0 0 0 := by
  by_cases c : (0 : Int) ≤ 65535 ∧ v.toNat / 65536 % 2048 = 0
  · show (if (0 : Int) ≤ 65535 ∧ v.toNat / 65536 % 2048 = 0 then (Ds.ofD v 0 0 0, (0 : Int)) else (Ds.blank, 5)).1 = _
    rw [if_pos c]
  · have h2 : (if (0 : Int) ≤ 65535 ∧ v.toNat / 65536 % 2048 = 0 then (Ds.ofD v 0 0 0, (0 : Int)) else (Ds.blank, 5)).2 = 0 := h
    rw [if_neg c] at h2
    exact absurd h2 (by decide)
theorem Ok.fin {x : E × Bool} (h : Ok x.1) : Ok (fin x) := by
  unfold Rx.fin
  split
  · exact h
  · exact h.halt
theorem Ok.fetch {e : E} (h : Ok e) (v : Int) (ok : Bool) (hp : e.phase = 0) : Ok (fetchF e v ok).1 := by
  unfold fetchF
  split
  · split
    · exact h
    · split
      · exact h
      · rename_i hc
        have hc : (Ds.ofR [v, 0, 0, 0]).2 = 0 := by
          by_cases c : (Ds.ofR [v, 0, 0, 0]).2 = 0
          · exact c
          · exact absurd c hc
        rw [of_first v hc]
        refine ⟨h.base, h.at_, h.state, by simp, ?_, ?_, ?_, rfl, by simp, fun _ => rfl, fun h => absurd h (by simp), h.sent, fun q _ => h.s3 q (by omega), h.s5, h.fl, h.fb, h.time⟩ <;> simp only [Ds.ofD, Ds.ofK] <;> omega
  · exact h
theorem Ok.wher {e : E} (h : Ok e) (v : Int) (ok : Bool) (hv : 0 ≤ v ∧ v < 4294967296) (hp : e.phase = 1) : Ok (wherF e v ok).1 :=
  ⟨h.base, h.at_, h.state, by simp [wherF], hv, h.dlen, h.dsize, h.dstamp, h.put, fun _ => h.g0 (.inl hp), fun h => absurd h (by simp [wherF]), h.sent, fun q _ => h.s3 q (by omega), h.s5, h.fl, h.fb, h.time⟩
theorem Ok.size {e : E} (h : Ok e) (v : Int) (ok : Bool) (hv : 0 ≤ v) (hp : e.phase = 2) : Ok (sizeF e v ok).1 := by
  unfold sizeF
  split
  · exact h
  · rename_i hc
    have hg := h.g0 (.inr hp)
    have h1 : v ≠ 0 := fun c => hc (.inr (.inl c))
    have h2 : v ≤ 2048 := by
      by_cases c : 2048 < v
      · exact absurd (.inr (.inr (.inl c))) hc
      · omega
    have h3 : v % 4 = 0 := by
      by_cases c : v % 4 ≠ 0
      · exact absurd (.inr (.inr (.inr c))) hc
      · omega
    exact ⟨h.base, h.at_, h.state, by simp, h.dat, h.dlen, by simp only; omega, h.dstamp, h.put, fun h => absurd h (by simp), fun _ => by simp only; omega, h.sent, fun q _ => h.s3 q (by omega), h.s5, h.fl, h.fb, h.time⟩
theorem Ok.part {e : E} (h : Ok e) (p : e.phase = 3) (hf : e.frame ≠ []) : 1 ≤ Rx.part e ∧ Rx.part e ≤ 4 ∧ Rx.part e ≤ (e.frame.length : Int) - e.sent := by
  have := h.s3 hf (by omega)
  unfold Rx.part
  omega
theorem Ok.data {e : E} (h : Ok e) (ok : Bool) (p : e.phase = 3) (hf : e.frame ≠ []) : Ok (dataF e ok).1 := by
  have hp := h.part p hf
  have h3 := h.p3 p
  have hg := h.put
  have hs := h.dsize
  have hl := h.fl
  have hse := h.sent
  unfold dataF
  split
  · have e1 : (data1 e).sent = e.sent + Rx.part e := rfl
    have e2 : (data1 e).put = e.put + 4 := rfl
    by_cases c1 : (data1 e).sent = (e.frame.length : Int)
    · simp only [if_pos c1]
      exact ⟨h.base, h.at_, h.state, by simp, h.dat, h.dlen, h.dsize, h.dstamp, by simp only; omega, fun h => absurd h (by simp), fun h => absurd h (by simp), by simp only; omega, fun _ q => absurd q (by simp), fun _ => by simp only; rw [c1]; exact Int.le_refl _, h.fl, h.fb, h.time⟩
    · simp only [if_neg c1]
      have k1 : (data1 e).sent < (e.frame.length : Int) := by omega
      by_cases c2 : (data1 e).put = e.d.size
      · simp only [if_pos c2]
        exact ⟨h.base, h.at_, h.state, by simp, h.dat, h.dlen, h.dsize, h.dstamp, by simp only; omega, fun h => absurd h (by simp), fun h => absurd h (by simp), by simp only; omega, fun _ q => absurd q (by simp), fun _ => Int.le_of_lt k1, h.fl, h.fb, h.time⟩
      · simp only [if_neg c2]
        have k2 : (data1 e).put < e.d.size := by omega
        exact ⟨h.base, h.at_, h.state, h.phase, h.dat, h.dlen, h.dsize, h.dstamp, by omega, fun q => by have q : e.phase = 1 ∨ e.phase = 2 := q; omega, fun _ => ⟨k2, by rw [e2]; omega, h3.2.2⟩, by omega, fun _ _ => k1, fun _ => Int.le_of_lt k1, h.fl, h.fb, h.time⟩
  · exact h
theorem Ok.stamp {e : E} (h : Ok e) (ok : Bool) : Ok (stampF e ok).1 :=
  ⟨h.base, h.at_, h.state, by simp [stampF], h.dat, h.dlen, h.dsize, h.dstamp, h.put, fun h => absurd h (by simp [stampF]), fun h => absurd h (by simp [stampF]), h.sent, fun _ q => absurd q (by simp [stampF]), h.s5, h.fl, h.fb, h.time⟩
theorem Ok.back {e : E} (h : Ok e) (ok : Bool) : Ok (backF e ok).1 := by
  have ha : 0 ≤ (if e.d.wrap then e.base else add e.at_ 16) ∧ (if e.d.wrap then e.base else add e.at_ 16) < 4294967296 := by
    split
    · exact h.base
    · unfold add; omega
  unfold backF
  split
  · by_cases hl : isLast e = true
    · simp only [hl, if_true]
      exact ⟨h.base, ha, h.state, by simp, h.dat, h.dlen, h.dsize, h.dstamp, h.put, fun h => absurd h (by simp), fun h => absurd h (by simp), h.sent, fun q => absurd rfl q, fun q => absurd rfl q, by simp, fun x hx => by simp at hx, h.time⟩
    · have hne : ¬ e.sent = e.frame.length := fun c => hl (decide_eq_true c)
      rw [Bool.not_eq_true] at hl
      simp only [hl, Bool.false_eq_true, if_false]
      exact ⟨h.base, ha, h.state, by simp, h.dat, h.dlen, h.dsize, h.dstamp, h.put, fun h => absurd h (by simp), fun h => absurd h (by simp), h.sent, fun q _ => by have := h.s5 q; simp only at *; omega, h.s5, h.fl, h.fb, h.time⟩
  · exact h
theorem goes_iff {e : E} (h : goes e = true) : e.state = 1 ∧ e.frame ≠ [] := of_decide_eq_true h
theorem Ok.step {s : E × Ram} (h : Ok s.1) (hf : Rm.Fit s.2) : Ok (step s).1 := by
  unfold Rx.step
  split
  · rename_i hg
    obtain ⟨_, hne⟩ := goes_iff hg
    unfold phased
    split
    · exact (h.fetch _ _ ‹_›).fin
    split
    · exact (h.wher _ _ (hf.rdV _) ‹_›).fin
    split
    · exact (h.size _ _ (hf.rdV _).1 ‹_›).fin
    split
    · exact (h.data _ ‹_› hne).fin
    split
    · exact (h.stamp _).fin
    · exact (h.back _).fin
  · exact h
theorem back_lt (e : E) (h : Ok e) : 0 ≤ ((backD e).word : Int) ∧ ((backD e).word : Int) < 4294967296 := by
  have hs := h.sent
  have := Ds.acc_lt (backD e) 5 (by omega) (by show e.sent.toNat < 65536; omega)
  unfold D.word
  omega
theorem word_lt (e : E) (h : Ok e) : 0 ≤ word e ∧ word e < 4294967296 := by
  unfold word
  exact Wd.ofK_bounds (fun x hx => h.fb x (List.mem_of_mem_drop (List.mem_of_mem_take hx))) 4
theorem Ok.fit {s : E × Ram} (h : Ok s.1) (hf : Rm.Fit s.2) : Rm.Fit (Rx.step s).2 := by
  unfold Rx.step
  split
  · unfold phased
    split
    · exact hf.read _ _
    split
    · exact hf.read _ _
    split
    · exact hf.read _ _
    split
    · exact hf.write _ _ _ (word_lt _ h)
    split
    · exact hf.write _ _ _ h.time
    · exact hf.write _ _ _ (back_lt _ h)
  · exact hf
theorem step_len (s : E × Ram) : (Rx.step s).2.log.length ≤ s.2.log.length + 1 := by
  unfold Rx.step
  split
  · unfold phased
    repeat' split
    all_goals first | exact Rm.read_len _ _ _ | exact Rm.write_len _ _ _ _
  · omega
theorem steps_ok {s : E × Ram} (h : Ok s.1) (hf : Rm.Fit s.2) (k : Nat) : Ok (steps s k).1 ∧ Rm.Fit (steps s k).2 ∧ (steps s k).2.log.length ≤ s.2.log.length + k := by
  induction k with
  | zero => exact ⟨h, hf, Nat.le_refl _⟩
  | succ k ih => exact ⟨Ok.step ih.1 ih.2.1, Ok.fit ih.1 ih.2.1, by have := step_len (steps s k); simp only [steps]; omega⟩
end Go.Proofs.Ytkegljcndhckeae.Rx
