import Derived.Test.YtkegljcndhckeadT6
import Derived.Test.YtkegljcndhckeadD6
import Derived.Test.YtkegljcndhckeadD9
import Derived.Test.YtkegljcndhckeadRM6
namespace Go.Proofs.Ytkegljcndhckead
open Go.RowKit
set_option linter.unusedVariables false
/-! ### One call behind another, all told of the world w in which the engine was made -/
theorem Goes.start {p q : Nat} {F : List Nat} {fv : Value} {w : World} {e : Tx.E} {R : Rm.Ram} (h : SysF w p q F fv e R) : Goes p q F fv w e R w := ⟨F, fv, h, Mv.refl _ _⟩
theorem Goes.trans {p q : Nat} {F F1 : List Nat} {fv fv1 : Value} {w w1 w2 : World} {e : Tx.E} {R : Rm.Ram} (hM : Mv (blks q F fv) (blks q F1 fv1) w w1) (h : Goes p q F1 fv1 w1 e R w2) : Goes p q F fv w e R w2 := by
  obtain ⟨F2, fv2, hS, hM2⟩ := h
  exact ⟨F2, fv2, hS, hM.trans hM2⟩
theorem Goes.ram {p q : Nat} {F F1 F2 : List Nat} {fv fv1 : Value} {w w1 w2 : World} {e : Tx.E} {R R2 : Rm.Ram} (h : SysF w1 p q F1 fv1 e R) (hM : Mv (blks q F fv) (blks q F1 fv1) w w1) (hR : RamAt w2 p F2 R2) (hM2 : Mv F1 F2 w1 w2) : Goes p q F fv w e R2 w2 :=
  ⟨F2, fv1, h.ram_mv hR hM2, hM.trans hM2.wide⟩
theorem Goes.below {p q : Nat} {F : List Nat} {fv : Value} {w w1 w2 : World} {e : Tx.E} {R : Rm.Ram} (h : Goes p q F fv w e R w1) (hb : Below w1.heap.size w1 w2) : Goes p q F fv w e R w2 := by
  obtain ⟨F1, fv1, hS, hM⟩ := h
  exact ⟨F1, fv1, hS.below hb, hM.trans (Mv.of_below hb)⟩
theorem Goes.end {p q : Nat} {F : List Nat} {fv : Value} {w w1 : World} {e : Tx.E} {R : Rm.Ram} (h : Goes p q F fv w e R w1) (B : Nat) (hB : B ≤ w.heap.size) (hF : ∀ b ∈ blks q F fv, B ≤ b) : Below B w w1 := by
  obtain ⟨F1, fv1, hS, hM⟩ := h
  exact hM.below hB hF
theorem gstep {p q : Nat} {F : List Nat} {fv : Value} {w w1 : World} {e : Tx.E} {R : Rm.Ram} (h : Goes p q F fv w e R w1) (ho : Tx.Ok e) (hl : R.log.length < 1000000000) :
    Calls Try.prog 12 #[.pointer (some ⟨q, 0, none⟩)] w1 fun r w' => r = .returned (.tuple #[]) ∧ Goes p q F fv w (Tx.step (e, R)).1 (Tx.step (e, R)).2 w' := by
  obtain ⟨F1, fv1, hS, hM⟩ := h
  exact (tstep_ok p q F1 fv1 e R ho w1 hS hl).mono fun r w' ⟨h1, h2⟩ => ⟨h1, Goes.trans hM h2⟩
theorem gstart {p q : Nat} {F : List Nat} {fv : Value} {w w1 : World} {e : Tx.E} {R : Rm.Ram} (h : Goes p q F fv w e R w1) :
    Calls Try.prog 10 #[.pointer (some ⟨q, 0, none⟩)] w1 fun r w' => r = .returned (.tuple #[]) ∧ Goes p q F fv w (Tx.start e) R w' := by
  obtain ⟨F1, fv1, hS, hM⟩ := h
  exact (tstart_ok p q F1 fv1 e R w1 hS).mono fun r w' ⟨h1, h2⟩ => ⟨h1, Goes.trans hM h2⟩
theorem gstop {p q : Nat} {F : List Nat} {fv : Value} {w w1 : World} {e : Tx.E} {R : Rm.Ram} (h : Goes p q F fv w e R w1) :
    Calls Try.prog 11 #[.pointer (some ⟨q, 0, none⟩)] w1 fun r w' => r = .returned (.tuple #[]) ∧ Goes p q F fv w (Tx.stop e) R w' := by
  obtain ⟨F1, fv1, hS, hM⟩ := h
  exact (tstop_ok p q F1 fv1 e R w1 hS).mono fun r w' ⟨h1, h2⟩ => ⟨h1, Goes.trans hM h2⟩
theorem gdone {p q : Nat} {F : List Nat} {fv : Value} {w w1 : World} {e : Tx.E} {R : Rm.Ram} (h : Goes p q F fv w e R w1) (t : Int) :
    Calls Try.prog 15 #[.pointer (some ⟨q, 0, none⟩), .int .u32 t] w1 fun r w' => r = .returned (.int .i64 (Tx.doneE e)) ∧ Goes p q F fv w (Tx.done e t) R w' := by
  obtain ⟨F1, fv1, hS, hM⟩ := h
  exact (tdone_ok p q F1 fv1 e R t w1 hS).mono fun r w' ⟨h1, h2⟩ => ⟨h1, Goes.trans hM h2⟩
theorem gstate {p q : Nat} {F : List Nat} {fv : Value} {w w1 : World} {e : Tx.E} {R : Rm.Ram} (h : Goes p q F fv w e R w1) :
    Calls Try.prog 14 #[.pointer (some ⟨q, 0, none⟩)] w1 fun r w' => r = .returned (.int .i64 e.state) ∧ w1 = w' := by
  obtain ⟨F1, fv1, hS, hM⟩ := h
  exact tstate_ok p q F1 fv1 e R w1 hS
theorem gplace {p q : Nat} {F : List Nat} {fv : Value} {w w1 : World} {e : Tx.E} {R : Rm.Ram} (h : Goes p q F fv w e R w1) :
    Calls Try.prog 16 #[.pointer (some ⟨q, 0, none⟩)] w1 fun r w' => r = .returned (.int .u32 e.at_) ∧ w1 = w' := by
  obtain ⟨F1, fv1, hS, hM⟩ := h
  exact tplace_ok p q F1 fv1 e R w1 hS
theorem gready {p q : Nat} {F : List Nat} {fv : Value} {w w1 : World} {e : Tx.E} {R : Rm.Ram} (h : Goes p q F fv w e R w1) (ho : Tx.Ok e) :
    Calls Try.prog 13 #[.pointer (some ⟨q, 0, none⟩)] w1 fun r w' => ∃ v, r = .returned (.tuple #[v, .bool (Tx.isReady e)]) ∧ Rd w' v (nums .u8 (if Tx.isReady e then e.frame else [])) ∧ Below w1.heap.size w1 w' := by
  obtain ⟨F1, fv1, hS, hM⟩ := h
  cases hr : Tx.isReady e with
  | true => exact (tready_ok p q F1 fv1 e R ho w1 hS hr).mono fun r w' ⟨v, h1, h2, h3⟩ => ⟨v, h1, h2, h3⟩
  | false => exact (tready_no p q F1 fv1 e R w1 hS hr).mono fun r w' ⟨h1, h2⟩ => ⟨_, h1, Rd.nil _, h2 ▸ Below.refl _ _⟩
theorem gwrite {p q : Nat} {F : List Nat} {fv : Value} {w w1 : World} {e : Tx.E} {R : Rm.Ram} (h : Goes p q F fv w e R w1) (who a v : Int) (ha : 0 ≤ a ∧ a < 4294967296) (hv : 0 ≤ v ∧ v < 4294967296) (hl : R.log.length < 1000000000) :
    Calls Try.prog 18 #[.pointer (some ⟨p, 0, none⟩), .int .i64 who, .int .u32 a, .int .u32 v] w1 fun r w' => r = .returned (.int .i64 (Rm.rdE R a)) ∧ Goes p q F fv w e (Rm.write R who a v) w' := by
  obtain ⟨F1, fv1, hS, hM⟩ := h
  exact (write_ok p F1 R who a v ha hv w1 hS.ram hl).mono fun r w' ⟨h1, F2, h2, h3⟩ => ⟨h1, Goes.ram hS hM h2 h3⟩
theorem gload {p q : Nat} {F : List Nat} {fv : Value} {w w1 : World} {e : Tx.E} {R : Rm.Ram} (h : Goes p q F fv w e R w1) (who a : Int) (ha : 0 ≤ a ∧ a < 4294967296) (hl : R.log.length < 900000000) :
    Calls Try.prog 35 #[.pointer (some ⟨p, 0, none⟩), .int .i64 who, .int .u32 a] w1 fun r w' => r = .returned (.tuple #[.agg (Ds.loadD R who a).cells.toArray, .int .i64 (Ds.loadE R who a)]) ∧ Goes p q F fv w e (Ds.ldK R who a 4).1 w' := by
  obtain ⟨F1, fv1, hS, hM⟩ := h
  exact (load_ok p F1 R who a ha w1 hS.ram hl).mono fun r w' ⟨h1, F2, h2, h3⟩ => ⟨h1, Goes.ram hS hM h2 h3⟩
theorem gstore {p q : Nat} {F : List Nat} {fv : Value} {w w1 : World} {e : Tx.E} {R : Rm.Ram} (h : Goes p q F fv w e R w1) (who a : Int) (ha : 0 ≤ a ∧ a < 4294967296) (d : Ds.D) (hm : d.may = true) (hf1 : 0 ≤ d.at_ ∧ d.at_ < 4294967296) (hf2 : 0 ≤ d.stamp ∧ d.stamp < 4294967296) (hl : R.log.length < 900000000) :
    Calls Try.prog 37 #[.pointer (some ⟨p, 0, none⟩), .int .i64 who, .int .u32 a, .agg d.cells.toArray] w1 fun r w' => r = .returned (.int .i64 (Ds.stK R who a d 4).2) ∧ Goes p q F fv w e (Ds.stK R who a d 4).1 w' := by
  obtain ⟨F1, fv1, hS, hM⟩ := h
  exact (store_ok p F1 R who a ha d hm hf1 hf2 w1 hS.ram hl).mono fun r w' ⟨h1, F2, h2, h3⟩ => ⟨h1, Goes.ram hS hM h2 h3⟩
theorem glay {p q : Nat} {F : List Nat} {fv : Value} {w w1 : World} {e : Tx.E} {R : Rm.Ram} (h : Goes p q F fv w e R w1) (a : Int) (n : Nat) (bufs size : Int) (own : Bool) (ha : 0 ≤ a ∧ a < 4294967296) (hb : 0 ≤ bufs ∧ bufs < 4294967296) (hn : 2 ≤ n ∧ n ≤ 64) (hs : 4 ≤ size ∧ size ≤ 2048) (hs4 : size % 4 = 0) (hl : R.log.length < 800000000) :
    Calls Try.prog 36 #[.pointer (some ⟨p, 0, none⟩), .int .u32 a, .int .i64 n, .int .u32 bufs, .int .i64 size, .bool own] w1 fun r w' => r = .returned (.int .i64 (Ds.lyK R a n bufs size own n).2) ∧ Goes p q F fv w e (Ds.lyK R a n bufs size own n).1 w' := by
  obtain ⟨F1, fv1, hS, hM⟩ := h
  exact (lay_ok p F1 R a n bufs size own ha hb hn hs hs4 w1 hS.ram hl).mono fun r w' ⟨h1, F2, h2, h3⟩ => ⟨h1, Goes.ram hS hM h2 h3⟩
theorem gkeep {p q : Nat} {F : List Nat} {fv : Value} {w w1 : World} {e : Tx.E} {R : Rm.Ram} (h : Goes p q F fv w e R w1) (on : Bool) :
    Calls Try.prog 20 #[.pointer (some ⟨p, 0, none⟩), .bool on] w1 fun r w' => r = .returned (.tuple #[]) ∧ Goes p q F fv w e (Rm.keep R on) w' := by
  obtain ⟨F1, fv1, hS, hM⟩ := h
  exact (keep_ok p F1 R on w1 hS.ram).mono fun r w' ⟨h1, F2, h2, h3⟩ => ⟨h1, Goes.ram hS hM h2 h3⟩
theorem glog {p q : Nat} {F : List Nat} {fv : Value} {w w1 : World} {e : Tx.E} {R : Rm.Ram} (h : Goes p q F fv w e R w1) (hl : R.log.length < 1000000000) :
    Calls Try.prog 21 #[.pointer (some ⟨p, 0, none⟩)] w1 fun r w' => r = .returned (.slice (some ⟨w1.heap.size, 0, none⟩) R.log.length R.log.length) ∧
      w'.heap[w1.heap.size]? = some (.cells (accs R.log).toArray 43 (0, 0)) ∧ Goes p q F fv w e R w' ∧ Below w1.heap.size w1 w' := by
  have hG := h
  obtain ⟨F1, fv1, hS, hM⟩ := h
  exact (log_ok p F1 R w1 hS.ram hl).mono fun r w' ⟨h1, h2, h3⟩ => ⟨h1, h2, hG.below h3, h3⟩
end Go.Proofs.Ytkegljcndhckead
