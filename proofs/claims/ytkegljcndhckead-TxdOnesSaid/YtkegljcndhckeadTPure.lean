import Derived.Test.YtkegljcndhckeadDMem
import Derived.Test.YtkegljcndhckeadBPure
/- The engine that reads frames (chapter 17), as data: no program in sight. -/
namespace Go.Proofs.Ytkegljcndhckead.Tx
open Rm (Ram)
open Ds (D)
structure E where
  base : Int
  at_ : Int
  state : Int
  phase : Int
  d : D
  got : Int
  inner : Bool
  frame : List Int
  time : Int
def new (base : Int) : E := ⟨base, base, 0, 0, Ds.blank, 0, false, [], 0⟩
def start (e : E) : E := { new e.base with state := 1 }
def stop (e : E) : E := new e.base
def add (a k : Int) : Int := (a + k) % 4294967296
def halt (e : E) : E := { e with state := 2 }
/-- What a step makes of the engine: read at a, told v, ok. -/
def fetch (e : E) (v : Int) (ok : Bool) : E :=
  if ok then
    if v.toNat / 2147483648 % 2 = 0 then e
    else if (Ds.ofR [v, 0, 0, 0]).2 ≠ 0 ∨ (Ds.ofR [v, 0, 0, 0]).1.first = e.inner then halt e
    else { e with d := (Ds.ofR [v, 0, 0, 0]).1, got := 0, phase := 1 }
  else halt e
def wher (e : E) (v : Int) (ok : Bool) : E :=
  let e1 := { e with d := { e.d with at_ := v }, phase := 2 }
  if ok then e1 else halt e1
def size (e : E) (v : Int) (ok : Bool) : E :=
  if ok = false ∨ v = 0 ∨ 2048 < v ∨ 1518 < (e.frame.length : Int) + v then halt e else { e with d := { e.d with size := v }, phase := 3 }
/-- How many bytes of a word are taken. -/
def part (e : E) : Int := min 4 (e.d.size - e.got)
def data (e : E) (v : Int) (ok : Bool) : E :=
  if ok then
    let e1 := { e with frame := e.frame ++ (Wd.bytesL v).take (part e).toNat, got := e.got + part e }
    if e1.got < e1.d.size then e1 else { e1 with phase := if e1.d.last then 4 else 6 }
  else halt e
def stamp (e : E) (ok : Bool) : E := if ok then { e with phase := 6 } else halt { e with phase := 6 }
def backD (e : E) : D := ⟨false, e.d.wrap, e.d.first, e.d.last, false, e.d.size, 0, 0, 0⟩
def back (e : E) (ok : Bool) : E :=
  if ok then { e with at_ := if e.d.wrap then e.base else add e.at_ 16, inner := !e.d.last, frame := if e.d.last then [] else e.frame, phase := 0 } else halt e
/-- The same, as the program tells it: what the phase leaves, and whether it goes on. -/
def fin (x : E × Bool) : E := if x.2 then x.1 else halt x.1
def fetchF (e : E) (v : Int) (ok : Bool) : E × Bool :=
  if ok then
    if v.toNat / 2147483648 % 2 = 0 then (e, true)
    else if (Ds.ofR [v, 0, 0, 0]).2 ≠ 0 ∨ (Ds.ofR [v, 0, 0, 0]).1.first = e.inner then (e, false)
    else ({ e with d := (Ds.ofR [v, 0, 0, 0]).1, got := 0, phase := 1 }, true)
  else (e, false)
def wherF (e : E) (v : Int) (ok : Bool) : E × Bool := ({ e with d := { e.d with at_ := v }, phase := 2 }, ok)
def sizeF (e : E) (v : Int) (ok : Bool) : E × Bool :=
  if ok = false ∨ v = 0 ∨ 2048 < v ∨ 1518 < (e.frame.length : Int) + v then (e, false) else ({ e with d := { e.d with size := v }, phase := 3 }, true)
def data1 (e : E) (v : Int) : E := { e with frame := e.frame ++ (Wd.bytesL v).take (part e).toNat, got := e.got + part e }
def dataF (e : E) (v : Int) (ok : Bool) : E × Bool :=
  if ok then (if (data1 e v).got < (data1 e v).d.size then data1 e v else { data1 e v with phase := if (data1 e v).d.last then 4 else 6 }, true) else (e, false)
def stampF (e : E) (ok : Bool) : E × Bool := ({ e with phase := 6 }, ok)
def backF (e : E) (ok : Bool) : E × Bool :=
  if ok then ({ e with at_ := if e.d.wrap then e.base else add e.at_ 16, inner := !e.d.last, frame := if e.d.last then [] else e.frame, phase := 0 }, true) else (e, false)
theorem fetch_fin (e : E) (v : Int) (ok : Bool) : fetch e v ok = fin (fetchF e v ok) := by unfold fetch fetchF fin; repeat' split <;> simp_all
theorem wher_fin (e : E) (v : Int) (ok : Bool) : wher e v ok = fin (wherF e v ok) := rfl
theorem size_fin (e : E) (v : Int) (ok : Bool) : size e v ok = fin (sizeF e v ok) := by unfold size sizeF fin; split <;> rfl
theorem data_fin (e : E) (v : Int) (ok : Bool) : data e v ok = fin (dataF e v ok) := by
  unfold data dataF fin
  cases ok <;> rfl
theorem stamp_fin (e : E) (ok : Bool) : stamp e ok = fin (stampF e ok) := rfl
theorem back_fin (e : E) (ok : Bool) : back e ok = fin (backF e ok) := by unfold back backF fin; cases ok <;> rfl
/-- Where a phase reads or writes. -/
def place (e : E) : Int := if e.phase = 0 then e.at_ else if e.phase = 1 then add e.at_ 4 else if e.phase = 2 then add e.at_ 8 else if e.phase = 3 then add e.d.at_ e.got else if e.phase = 5 then add e.at_ 12 else e.at_
def reads (e : E) : Bool := decide (0 ≤ e.phase ∧ e.phase ≤ 3)
/-- The phase by itself. -/
def phased (e : E) (R : Ram) : E × Ram :=
  if e.phase = 0 then (fetch e (Rm.rdV R (place e)) (Rm.is R (place e)), Rm.read R 2 (place e))
  else if e.phase = 1 then (wher e (Rm.rdV R (place e)) (Rm.is R (place e)), Rm.read R 2 (place e))
  else if e.phase = 2 then (size e (Rm.rdV R (place e)) (Rm.is R (place e)), Rm.read R 2 (place e))
  else if e.phase = 3 then (data e (Rm.rdV R (place e)) (Rm.is R (place e)), Rm.read R 2 (place e))
  else if e.phase = 4 then (e, R)
  else if e.phase = 5 then (stamp e (Rm.is R (place e)), Rm.write R 2 (place e) e.time)
  else (back e (Rm.is R (place e)), Rm.write R 2 (place e) (backD e).word)
def step (s : E × Ram) : E × Ram := if s.1.state = 1 then phased s.1 s.2 else s
def steps (s : E × Ram) : Nat → E × Ram
  | 0 => s
  | k + 1 => step (steps s k)
def isReady (e : E) : Bool := decide (e.state = 1 ∧ e.phase = 4)
def done (e : E) (t : Int) : E := if isReady e then { e with time := t, phase := 5 } else e
def doneE (e : E) : Int := if isReady e then 0 else 6
/-- What always holds. -/
structure Ok (e : E) : Prop where
  base : 0 ≤ e.base ∧ e.base < 4294967296
  at_ : 0 ≤ e.at_ ∧ e.at_ < 4294967296
  state : 0 ≤ e.state ∧ e.state ≤ 2
  phase : 0 ≤ e.phase ∧ e.phase ≤ 6
  dat : 0 ≤ e.d.at_ ∧ e.d.at_ < 4294967296
  dlen : 0 ≤ e.d.len ∧ e.d.len < 65536
  dsize : 0 ≤ e.d.size ∧ e.d.size ≤ 2048
  dstamp : e.d.stamp = 0
  got : 0 ≤ e.got ∧ e.got ≤ 2048
  g0 : e.phase = 1 ∨ e.phase = 2 → e.got = 0
  p3 : e.phase = 3 → e.got < e.d.size ∧ (e.frame.length : Int) + (e.d.size - e.got) ≤ 1518
  fl : (e.frame.length : Int) ≤ 1518
  fb : Wd.Bytes e.frame
  time : 0 ≤ e.time ∧ e.time < 4294967296
theorem Ok.new (b : Int) (h : 0 ≤ b ∧ b < 4294967296) : Ok (new b) := by
  refine ⟨h, h, ?_, ?_, ?_, ?_, ?_, rfl, ?_, ?_, ?_, ?_, ?_, ?_⟩ <;> simp [Tx.new, Ds.blank, Wd.Bytes]
theorem Ok.start {e : E} (h : Ok e) : Ok (start e) := by
  have := Ok.new e.base h.base
  exact ⟨this.base, this.at_, by simp [Tx.start], this.phase, this.dat, this.dlen, this.dsize, this.dstamp, this.got, this.g0, this.p3, this.fl, this.fb, this.time⟩
theorem Ok.stop {e : E} (h : Ok e) : Ok (stop e) := Ok.new e.base h.base
theorem Ok.halt {e : E} (h : Ok e) : Ok (halt e) := ⟨h.base, h.at_, by simp [Tx.halt], h.phase, h.dat, h.dlen, h.dsize, h.dstamp, h.got, h.g0, h.p3, h.fl, h.fb, h.time⟩
theorem Ok.done {e : E} (h : Ok e) (t : Int) (ht : 0 ≤ t ∧ t < 4294967296) : Ok (done e t) := by
  unfold Tx.done
  split
  · exact ⟨h.base, h.at_, h.state, by simp, h.dat, h.dlen, h.dsize, h.dstamp, h.got, fun h => absurd h (by simp), fun h => absurd h (by simp), h.fl, h.fb, ht⟩
  · exact h
theorem of_first (v : Int) (h : (Ds.ofR [v, 0, 0, 0]).2 = 0) : (Ds.ofR [v, 0, 0, 0]).1 = Ds.ofD v 0 0 0 := by
  by_cases c : (0 : Int) ≤ 65535 ∧ v.toNat / 65536 % 2048 = 0
  · show (if (0 : Int) ≤ 65535 ∧ v.toNat / 65536 % 2048 = 0 then (Ds.ofD v 0 0 0, (0 : Int)) else (Ds.blank, 5)).1 = _
    rw [if_pos c]
  · have h2 : (if (0 : Int) ≤ 65535 ∧ v.toNat / 65536 % 2048 = 0 then (Ds.ofD v 0 0 0, (0 : Int)) else (Ds.blank, 5)).2 = 0 := h
    rw [if_neg c] at h2
    exact absurd h2 (by decide)
theorem Ok.fetch {e : E} (h : Ok e) (v : Int) (ok : Bool) : Ok (fetch e v ok) := by
  unfold Tx.fetch
  split
  · split
    · exact h
    · split
      · exact h.halt
      · rename_i hc
        have hc : (Ds.ofR [v, 0, 0, 0]).2 = 0 := by
          by_cases c : (Ds.ofR [v, 0, 0, 0]).2 = 0
          · exact c
          · exact absurd (.inl c) hc
        rw [of_first v hc]
        refine ⟨h.base, h.at_, h.state, by simp, ?_, ?_, ?_, rfl, by simp, fun _ => rfl, fun h => absurd h (by simp), h.fl, h.fb, h.time⟩ <;> simp only [Ds.ofD, Ds.ofK] <;> omega
  · exact h.halt
theorem Ok.wher {e : E} (h : Ok e) (v : Int) (ok : Bool) (hv : 0 ≤ v ∧ v < 4294967296) (hp : e.phase = 1) : Ok (wher e v ok) := by
  have h1 : Ok { e with d := { e.d with at_ := v }, phase := 2 } := ⟨h.base, h.at_, h.state, by simp, hv, h.dlen, h.dsize, h.dstamp, h.got, fun _ => h.g0 (.inl hp), fun h => absurd h (by simp), h.fl, h.fb, h.time⟩
  unfold Tx.wher
  split
  · exact h1
  · exact h1.halt
theorem Ok.size {e : E} (h : Ok e) (v : Int) (ok : Bool) (hv : 0 ≤ v) (hp : e.phase = 2) : Ok (size e v ok) := by
  unfold Tx.size
  split
  · exact h.halt
  · rename_i hc
    have h1 : v ≠ 0 ∧ v ≤ 2048 ∧ (e.frame.length : Int) + v ≤ 1518 := by
      refine ⟨fun c => hc (.inr (.inl c)), ?_, ?_⟩
      · by_cases c : 2048 < v
        · exact absurd (.inr (.inr (.inl c))) hc
        · omega
      · by_cases c : 1518 < (e.frame.length : Int) + v
        · exact absurd (.inr (.inr (.inr c))) hc
        · omega
    have hg := h.g0 (.inr hp)
    exact ⟨h.base, h.at_, h.state, by simp, h.dat, h.dlen, by simp only; omega, h.dstamp, h.got, fun h => absurd h (by simp), fun _ => by simp only; omega, h.fl, h.fb, h.time⟩
theorem bytesL_len (v : Int) : (Wd.bytesL v).length = 4 := rfl
theorem bytes_take {l : List Int} (h : Wd.Bytes l) (n : Nat) : Wd.Bytes (l.take n) := fun x hx => h x (List.mem_of_mem_take hx)
theorem bytes_app {l k : List Int} (h : Wd.Bytes l) (g : Wd.Bytes k) : Wd.Bytes (l ++ k) := fun x hx => by
  rcases List.mem_append.1 hx with hx | hx
  · exact h x hx
  · exact g x hx
theorem Ok.part {e : E} (h : Ok e) (p : e.phase = 3) : 1 ≤ Tx.part e ∧ Tx.part e ≤ 4 ∧ Tx.part e ≤ e.d.size - e.got := by
  have := h.p3 p
  unfold Tx.part
  omega
theorem Ok.data {e : E} (h : Ok e) (v : Int) (ok : Bool) (p : e.phase = 3) : Ok (data e v ok) := by
  have hp := h.part p
  have h3 := h.p3 p
  have hg := h.got
  have hs := h.dsize
  unfold Tx.data
  split
  · have hl : ((e.frame ++ (Wd.bytesL v).take (Tx.part e).toNat).length : Int) = e.frame.length + Tx.part e := by
      rw [List.length_append, List.length_take, bytesL_len]; omega
    have hb := bytes_app h.fb (bytes_take (Wd.bytesL_bytes v) (Tx.part e).toNat)
    simp only
    split
    · rename_i c
      exact ⟨h.base, h.at_, h.state, h.phase, h.dat, h.dlen, h.dsize, h.dstamp, by simp only; omega, fun q => by simp only at q; omega, fun _ => ⟨c, by simp only; omega⟩, by simp only; omega, hb, h.time⟩
    · refine ⟨h.base, h.at_, h.state, ?_, h.dat, h.dlen, h.dsize, h.dstamp, by simp only; omega, fun q => ?_, fun q => ?_, by simp only; omega, hb, h.time⟩
      · simp only; split <;> omega
      · simp only at q; split at q <;> omega
      · simp only at q; split at q <;> omega
  · exact h.halt
theorem Ok.stamp {e : E} (h : Ok e) (ok : Bool) : Ok (stamp e ok) := by
  have h1 : Ok { e with phase := 6 } := ⟨h.base, h.at_, h.state, by simp, h.dat, h.dlen, h.dsize, h.dstamp, h.got, fun h => absurd h (by simp), fun h => absurd h (by simp), h.fl, h.fb, h.time⟩
  unfold Tx.stamp
  split
  · exact h1
  · exact h1.halt
theorem Ok.back {e : E} (h : Ok e) (ok : Bool) : Ok (back e ok) := by
  have ha : 0 ≤ (if e.d.wrap then e.base else add e.at_ 16) ∧ (if e.d.wrap then e.base else add e.at_ 16) < 4294967296 := by
    split
    · exact h.base
    · unfold add; omega
  have hf : ((if e.d.last then [] else e.frame).length : Int) ≤ 1518 := by
    split
    · simp
    · exact h.fl
  have hb : Wd.Bytes (if e.d.last then [] else e.frame) := by
    split
    · intro x hx; simp at hx
    · exact h.fb
  unfold Tx.back
  split
  · exact ⟨h.base, ha, h.state, by simp, h.dat, h.dlen, h.dsize, h.dstamp, h.got, fun h => absurd h (by simp), fun h => absurd h (by simp), hf, hb, h.time⟩
  · exact h.halt
theorem Ok.phased {e : E} (h : Ok e) {R : Ram} (hf : Rm.Fit R) : Ok (phased e R).1 := by
  unfold Tx.phased
  split
  · exact h.fetch _ _
  split
  · exact h.wher _ _ (hf.rdV _) ‹_›
  split
  · exact h.size _ _ (hf.rdV _).1 ‹_›
  split
  · exact h.data _ _ ‹_›
  split
  · exact h
  split
  · exact h.stamp _
  · exact h.back _
theorem Ok.step {s : E × Ram} (h : Ok s.1) (hf : Rm.Fit s.2) : Ok (step s).1 := by
  unfold Tx.step
  split
  · exact h.phased hf
  · exact h
theorem word_lt (e : E) (h : Ok e) : 0 ≤ ((backD e).word : Int) ∧ ((backD e).word : Int) < 4294967296 := by
  have hs := h.dsize
  have := Ds.acc_lt (backD e) 5 (by omega) (by show e.d.size.toNat < 65536; omega)
  unfold D.word
  omega
theorem Ok.fit {s : E × Ram} (h : Ok s.1) (hf : Rm.Fit s.2) : Rm.Fit (Tx.step s).2 := by
  unfold Tx.step
  split
  · unfold Tx.phased
    split
    · exact hf.read _ _
    split
    · exact hf.read _ _
    split
    · exact hf.read _ _
    split
    · exact hf.read _ _
    split
    · exact hf
    split
    · exact hf.write _ _ _ h.time
    · exact hf.write _ _ _ (word_lt _ h)
  · exact hf
theorem step_len (s : E × Ram) : (step s).2.log.length ≤ s.2.log.length + 1 := by
  unfold Tx.step
  split
  · unfold Tx.phased
    repeat' split
    all_goals first | exact Rm.read_len _ _ _ | exact Rm.write_len _ _ _ _ | exact Nat.le_succ _
  · omega
theorem steps_ok {s : E × Ram} (h : Ok s.1) (hf : Rm.Fit s.2) (k : Nat) : Ok (steps s k).1 ∧ Rm.Fit (steps s k).2 ∧ (steps s k).2.log.length ≤ s.2.log.length + k := by
  induction k with
  | zero => exact ⟨h, hf, Nat.le_refl _⟩
  | succ k ih => exact ⟨Ok.step ih.1 ih.2.1, Ok.fit ih.1 ih.2.1, by have := step_len (steps s k); simp only [steps]; omega⟩
end Go.Proofs.Ytkegljcndhckead.Tx
