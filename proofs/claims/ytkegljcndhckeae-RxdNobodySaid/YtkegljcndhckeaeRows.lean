/-
  No cell of these rows narrows 'for every input' (looked for: loops, veiled, ifaces, maps, wideKeys, modest, calm, conditions, laid).
  DERIVED. THE GIVEN ROWS OF THIS SEAT. 6 by the template 'for every input the law returns true; each argument reads behind the call as it read before'; 0 by the template 'total and deterministic' (their statements: YtkegljcndhckeaeTotals.lean).
  GIVEN WITH THE SEED: the statements are not yours to turn. If you find one false, say at which input.
  Laid BY PROGRAM, IN A SANDBOX (cutbox-rows.mjs): the forced cells as the released guide's own fill.sh prints them over the translation e00f5bb71d6c80d1… (all of the seat's roots in one cut). By AI agents, Wed Nov 11 2026. No macro, syntax, notation, axiom, sorry.
-/
import Derived.Test.YtkegljcndhckeaeChecked
import GoSem.Claim
import GoSem.ClaimJoined
import GoSem.ClaimMapViews
import Derived.JoinedTies
import Derived.KernelRfl
namespace Go.Proofs.Ytkegljcndhckeae
/- THE CELL 'sum', in the pinned program and in every row, IS THE sha256 OF THE DUMP (.gsa) THAT YtkegljcndhckeaeProg.lean LOADS. Nothing in Lean hashes anything: it is a label: what it is worth is what the hold of that sum in a sandbox is worth. -/
noncomputable def Try.pinned : Pinned := { name := "ytkegljcndhckeae", sum := "e00f5bb71d6c80d156320561623ccf9c54fc0ed6312c82c13cd15d6b41332aeb", checked := Try.checked }
namespace Rows
def none {H : Type} : Left H := { results := [], args := [] }

/-- 'snubberlaw18.RxdNobody': WHATEVER THE INPUT: true; the input reads as it did. -/
def rxdNobodySpec : ChangeSpec := { name := "rxdNobody", fn := fun _ => fun
  | [d] => { results := [.lit (.bool true)], args := [d] }
  | _ => none }
def rxdNobodyRow : OpenClaim := { program := "ytkegljcndhckeae", sum := "e00f5bb71d6c80d156320561623ccf9c54fc0ed6312c82c13cd15d6b41332aeb", func := "snubber/snubberlaw18.RxdNobody", spec := "rxdNobody", unfollowed := true, recurses := true, apart := false }
def RxdNobodySaid : Prop := rxdNobodyRow.holds Try.pinned (OpenSpec.ofChange rxdNobodySpec)

/-- ITS FALSE NEIGHBOUR: 'it returns false'. Refute it at one input. -/
def rxdNobodyWrong : ChangeSpec := { name := "rxdNobody", fn := fun _ => fun
  | [d] => { results := [.lit (.bool false)], args := [d] }
  | _ => none }
def RxdNobodyWrongFalsely : Prop := rxdNobodyRow.holds Try.pinned (OpenSpec.ofChange rxdNobodyWrong)

/-- 'snubberlaw18.RxdWrites': WHATEVER THE INPUT: true; the input reads as it did. -/
def rxdWritesSpec : ChangeSpec := { name := "rxdWrites", fn := fun _ => fun
  | [d1, d2, d3, d4] => { results := [.lit (.bool true)], args := [d1, d2, d3, d4] }
  | _ => none }
def rxdWritesRow : OpenClaim := { program := "ytkegljcndhckeae", sum := "e00f5bb71d6c80d156320561623ccf9c54fc0ed6312c82c13cd15d6b41332aeb", func := "snubber/snubberlaw18.RxdWrites", spec := "rxdWrites", unfollowed := true, recurses := true, apart := false }
def RxdWritesSaid : Prop := rxdWritesRow.holds Try.pinned (OpenSpec.ofChange rxdWritesSpec)

/-- ITS FALSE NEIGHBOUR: 'it returns false'. Refute it at one input. -/
def rxdWritesWrong : ChangeSpec := { name := "rxdWrites", fn := fun _ => fun
  | [d1, d2, d3, d4] => { results := [.lit (.bool false)], args := [d1, d2, d3, d4] }
  | _ => none }
def RxdWritesWrongFalsely : Prop := rxdWritesRow.holds Try.pinned (OpenSpec.ofChange rxdWritesWrong)

/-- 'snubberlaw18.RxdFrames': WHATEVER THE INPUT: true; the input reads as it did. -/
def rxdFramesSpec : ChangeSpec := { name := "rxdFrames", fn := fun _ => fun
  | [d1, d2, d3] => { results := [.lit (.bool true)], args := [d1, d2, d3] }
  | _ => none }
def rxdFramesRow : OpenClaim := { program := "ytkegljcndhckeae", sum := "e00f5bb71d6c80d156320561623ccf9c54fc0ed6312c82c13cd15d6b41332aeb", func := "snubber/snubberlaw18.RxdFrames", spec := "rxdFrames", unfollowed := true, recurses := true, apart := false }
def RxdFramesSaid : Prop := rxdFramesRow.holds Try.pinned (OpenSpec.ofChange rxdFramesSpec)

/-- ITS FALSE NEIGHBOUR: 'it returns false'. Refute it at one input. -/
def rxdFramesWrong : ChangeSpec := { name := "rxdFrames", fn := fun _ => fun
  | [d1, d2, d3] => { results := [.lit (.bool false)], args := [d1, d2, d3] }
  | _ => none }
def RxdFramesWrongFalsely : Prop := rxdFramesRow.holds Try.pinned (OpenSpec.ofChange rxdFramesWrong)

/-- 'snubberlaw18.RxdPlays': WHATEVER THE INPUT: true; the input reads as it did. -/
def rxdPlaysSpec : ChangeSpec := { name := "rxdPlays", fn := fun _ => fun
  | [d1, d2, d3] => { results := [.lit (.bool true)], args := [d1, d2, d3] }
  | _ => none }
def rxdPlaysRow : OpenClaim := { program := "ytkegljcndhckeae", sum := "e00f5bb71d6c80d156320561623ccf9c54fc0ed6312c82c13cd15d6b41332aeb", func := "snubber/snubberlaw18.RxdPlays", spec := "rxdPlays", unfollowed := true, recurses := true, apart := false }
def RxdPlaysSaid : Prop := rxdPlaysRow.holds Try.pinned (OpenSpec.ofChange rxdPlaysSpec)

/-- ITS FALSE NEIGHBOUR: 'it returns false'. Refute it at one input. -/
def rxdPlaysWrong : ChangeSpec := { name := "rxdPlays", fn := fun _ => fun
  | [d1, d2, d3] => { results := [.lit (.bool false)], args := [d1, d2, d3] }
  | _ => none }
def RxdPlaysWrongFalsely : Prop := rxdPlaysRow.holds Try.pinned (OpenSpec.ofChange rxdPlaysWrong)

/-- 'snubberlaw18.RxdStops': WHATEVER THE INPUT: true; the input reads as it did. -/
def rxdStopsSpec : ChangeSpec := { name := "rxdStops", fn := fun _ => fun
  | [d1, d2, d3] => { results := [.lit (.bool true)], args := [d1, d2, d3] }
  | _ => none }
def rxdStopsRow : OpenClaim := { program := "ytkegljcndhckeae", sum := "e00f5bb71d6c80d156320561623ccf9c54fc0ed6312c82c13cd15d6b41332aeb", func := "snubber/snubberlaw18.RxdStops", spec := "rxdStops", unfollowed := true, recurses := true, apart := false }
def RxdStopsSaid : Prop := rxdStopsRow.holds Try.pinned (OpenSpec.ofChange rxdStopsSpec)

/-- ITS FALSE NEIGHBOUR: 'it returns false'. Refute it at one input. -/
def rxdStopsWrong : ChangeSpec := { name := "rxdStops", fn := fun _ => fun
  | [d1, d2, d3] => { results := [.lit (.bool false)], args := [d1, d2, d3] }
  | _ => none }
def RxdStopsWrongFalsely : Prop := rxdStopsRow.holds Try.pinned (OpenSpec.ofChange rxdStopsWrong)

/-- 'snubberlaw18.RxdWaits': WHATEVER THE INPUT: true; the input reads as it did. -/
def rxdWaitsSpec : ChangeSpec := { name := "rxdWaits", fn := fun _ => fun
  | [d1, d2] => { results := [.lit (.bool true)], args := [d1, d2] }
  | _ => none }
def rxdWaitsRow : OpenClaim := { program := "ytkegljcndhckeae", sum := "e00f5bb71d6c80d156320561623ccf9c54fc0ed6312c82c13cd15d6b41332aeb", func := "snubber/snubberlaw18.RxdWaits", spec := "rxdWaits", unfollowed := true, recurses := true, apart := false }
def RxdWaitsSaid : Prop := rxdWaitsRow.holds Try.pinned (OpenSpec.ofChange rxdWaitsSpec)

/-- ITS FALSE NEIGHBOUR: 'it returns false'. Refute it at one input. -/
def rxdWaitsWrong : ChangeSpec := { name := "rxdWaits", fn := fun _ => fun
  | [d1, d2] => { results := [.lit (.bool false)], args := [d1, d2] }
  | _ => none }
def RxdWaitsWrongFalsely : Prop := rxdWaitsRow.holds Try.pinned (OpenSpec.ofChange rxdWaitsWrong)

/- THE SECOND FORM. 'bulk': how many values and letters a reading holds, each counted each time it is reached (what is shared counts as often as it is met; a slice's spare places count too). A statement '..UptoSaid' is the law's where the arguments, and the package variables that the reading takes, are together of bulk at most 1048576: NARROWER than '..Said'. Prove '..Said' where nothing that the law and all that it calls make is longer than what came in: it says more and counts as full. Else prove '..UptoSaid'. A law counts once. -/
mutual
def uptoBulk {H : Type} : DataW H → Nat
  | .lit (.string bytes) => bytes.length + 1
  | .lit _ => 1
  | .nil => 1
  | .ptr d => uptoBulk d + 1
  | .slice elems spare => uptoBulkAll elems + uptoBulkAll spare + 1
  | .agg parts => uptoBulkAll parts + 1
  | .iface _ d => uptoBulk d + 1
  | .map entries => uptoBulkEntries entries + 1
  | .held _ => 1
def uptoBulkAll {H : Type} : List (DataW H) → Nat
  | [] => 0
  | d :: r => uptoBulk d + uptoBulkAll r
def uptoBulkEntries {H : Type} : List (Lit × DataW H) → Nat
  | [] => 0
  | x :: r => uptoBulkEntry x + uptoBulkEntries r
def uptoBulkEntry {H : Type} : Lit × DataW H → Nat
  | (.string bytes, d) => bytes.length + uptoBulk d + 1
  | (_, d) => uptoBulk d + 1
 end
def uptoSmall : (H : Type) → List (DataW H) → Bool := fun _ ds => decide (uptoBulkAll ds ≤ 1048576)
def OpenSpec.upto (s : _root_.Go.ChangeSpec) : _root_.Go.OpenSpec := { _root_.Go.OpenSpec.ofChange s with cond := some uptoSmall }

/-- 'snubberlaw18.RxdNobody', WHERE WHAT IT READS IS OF BULK AT MOST 1048576: true; the input reads as it did. -/
def rxdNobodyUptoRow : OpenClaim := { program := "ytkegljcndhckeae", sum := "e00f5bb71d6c80d156320561623ccf9c54fc0ed6312c82c13cd15d6b41332aeb", func := "snubber/snubberlaw18.RxdNobody", spec := "rxdNobody", unfollowed := true, recurses := true, apart := false, narrowed := true }
def RxdNobodyUptoSaid : Prop := rxdNobodyUptoRow.holds Try.pinned (OpenSpec.upto rxdNobodySpec)

/-- 'snubberlaw18.RxdWrites', WHERE WHAT IT READS IS OF BULK AT MOST 1048576: true; the input reads as it did. -/
def rxdWritesUptoRow : OpenClaim := { program := "ytkegljcndhckeae", sum := "e00f5bb71d6c80d156320561623ccf9c54fc0ed6312c82c13cd15d6b41332aeb", func := "snubber/snubberlaw18.RxdWrites", spec := "rxdWrites", unfollowed := true, recurses := true, apart := false, narrowed := true }
def RxdWritesUptoSaid : Prop := rxdWritesUptoRow.holds Try.pinned (OpenSpec.upto rxdWritesSpec)

/-- 'snubberlaw18.RxdFrames', WHERE WHAT IT READS IS OF BULK AT MOST 1048576: true; the input reads as it did. -/
def rxdFramesUptoRow : OpenClaim := { program := "ytkegljcndhckeae", sum := "e00f5bb71d6c80d156320561623ccf9c54fc0ed6312c82c13cd15d6b41332aeb", func := "snubber/snubberlaw18.RxdFrames", spec := "rxdFrames", unfollowed := true, recurses := true, apart := false, narrowed := true }
def RxdFramesUptoSaid : Prop := rxdFramesUptoRow.holds Try.pinned (OpenSpec.upto rxdFramesSpec)

/-- 'snubberlaw18.RxdPlays', WHERE WHAT IT READS IS OF BULK AT MOST 1048576: true; the input reads as it did. -/
def rxdPlaysUptoRow : OpenClaim := { program := "ytkegljcndhckeae", sum := "e00f5bb71d6c80d156320561623ccf9c54fc0ed6312c82c13cd15d6b41332aeb", func := "snubber/snubberlaw18.RxdPlays", spec := "rxdPlays", unfollowed := true, recurses := true, apart := false, narrowed := true }
def RxdPlaysUptoSaid : Prop := rxdPlaysUptoRow.holds Try.pinned (OpenSpec.upto rxdPlaysSpec)

/-- 'snubberlaw18.RxdStops', WHERE WHAT IT READS IS OF BULK AT MOST 1048576: true; the input reads as it did. -/
def rxdStopsUptoRow : OpenClaim := { program := "ytkegljcndhckeae", sum := "e00f5bb71d6c80d156320561623ccf9c54fc0ed6312c82c13cd15d6b41332aeb", func := "snubber/snubberlaw18.RxdStops", spec := "rxdStops", unfollowed := true, recurses := true, apart := false, narrowed := true }
def RxdStopsUptoSaid : Prop := rxdStopsUptoRow.holds Try.pinned (OpenSpec.upto rxdStopsSpec)

/-- 'snubberlaw18.RxdWaits', WHERE WHAT IT READS IS OF BULK AT MOST 1048576: true; the input reads as it did. -/
def rxdWaitsUptoRow : OpenClaim := { program := "ytkegljcndhckeae", sum := "e00f5bb71d6c80d156320561623ccf9c54fc0ed6312c82c13cd15d6b41332aeb", func := "snubber/snubberlaw18.RxdWaits", spec := "rxdWaits", unfollowed := true, recurses := true, apart := false, narrowed := true }
def RxdWaitsUptoSaid : Prop := rxdWaitsUptoRow.holds Try.pinned (OpenSpec.upto rxdWaitsSpec)

end Rows
end Go.Proofs.Ytkegljcndhckeae
