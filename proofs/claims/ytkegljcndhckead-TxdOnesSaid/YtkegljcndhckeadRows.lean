/-
  No cell of these rows narrows 'for every input' (looked for: loops, veiled, ifaces, maps, wideKeys, modest, calm, conditions, laid).
  DERIVED. THE GIVEN ROWS OF THIS SEAT. 6 by the template 'for every input the law returns true; each argument reads behind the call as it read before'; 0 by the template 'total and deterministic' (their statements: YtkegljcndhckeadTotals.lean).
  GIVEN WITH THE SEED: the statements are not yours to turn. If you find one false, say at which input.
  Laid BY PROGRAM, IN A SANDBOX (cutbox-rows.mjs): the forced cells as the released guide's own fill.sh prints them over the translation 4609c16070c95df8… (all of the seat's roots in one cut). By AI agents, Wed Nov 11 2026. No macro, syntax, notation, axiom, sorry.
-/
import Derived.Test.YtkegljcndhckeadChecked
import GoSem.Claim
import GoSem.ClaimJoined
import GoSem.ClaimMapViews
import Derived.JoinedTies
import Derived.KernelRfl
namespace Go.Proofs.Ytkegljcndhckead
/- THE CELL 'sum', in the pinned program and in every row, IS THE sha256 OF THE DUMP (.gsa) THAT YtkegljcndhckeadProg.lean LOADS. Nothing in Lean hashes anything: it is a label: what it is worth is what the hold of that sum in a sandbox is worth. -/
noncomputable def Try.pinned : Pinned := { name := "ytkegljcndhckead", sum := "4609c16070c95df88e8d208caa4278533ea6fe31560c7fe86f49780c2aaa3d06", checked := Try.checked }
namespace Rows
def none {H : Type} : Left H := { results := [], args := [] }

/-- 'snubberlaw17.TxdNobody': WHATEVER THE INPUT: true; the input reads as it did. -/
def txdNobodySpec : ChangeSpec := { name := "txdNobody", fn := fun _ => fun
  | [d] => { results := [.lit (.bool true)], args := [d] }
  | _ => none }
def txdNobodyRow : OpenClaim := { program := "ytkegljcndhckead", sum := "4609c16070c95df88e8d208caa4278533ea6fe31560c7fe86f49780c2aaa3d06", func := "snubber/snubberlaw17.TxdNobody", spec := "txdNobody", unfollowed := true, recurses := true, apart := false }
def TxdNobodySaid : Prop := txdNobodyRow.holds Try.pinned (OpenSpec.ofChange txdNobodySpec)

/-- ITS FALSE NEIGHBOUR: 'it returns false'. Refute it at one input. -/
def txdNobodyWrong : ChangeSpec := { name := "txdNobody", fn := fun _ => fun
  | [d] => { results := [.lit (.bool false)], args := [d] }
  | _ => none }
def TxdNobodyWrongFalsely : Prop := txdNobodyRow.holds Try.pinned (OpenSpec.ofChange txdNobodyWrong)

/-- 'snubberlaw17.TxdOnes': WHATEVER THE INPUT: true; the input reads as it did. -/
def txdOnesSpec : ChangeSpec := { name := "txdOnes", fn := fun _ => fun
  | [d1, d2, d3] => { results := [.lit (.bool true)], args := [d1, d2, d3] }
  | _ => none }
def txdOnesRow : OpenClaim := { program := "ytkegljcndhckead", sum := "4609c16070c95df88e8d208caa4278533ea6fe31560c7fe86f49780c2aaa3d06", func := "snubber/snubberlaw17.TxdOnes", spec := "txdOnes", unfollowed := true, recurses := true, apart := false }
def TxdOnesSaid : Prop := txdOnesRow.holds Try.pinned (OpenSpec.ofChange txdOnesSpec)

/-- ITS FALSE NEIGHBOUR: 'it returns false'. Refute it at one input. -/
def txdOnesWrong : ChangeSpec := { name := "txdOnes", fn := fun _ => fun
  | [d1, d2, d3] => { results := [.lit (.bool false)], args := [d1, d2, d3] }
  | _ => none }
def TxdOnesWrongFalsely : Prop := txdOnesRow.holds Try.pinned (OpenSpec.ofChange txdOnesWrong)

/-- 'snubberlaw17.TxdIdles': WHATEVER THE INPUT: true; the input reads as it did. -/
def txdIdlesSpec : ChangeSpec := { name := "txdIdles", fn := fun _ => fun
  | [d1, d2, d3] => { results := [.lit (.bool true)], args := [d1, d2, d3] }
  | _ => none }
def txdIdlesRow : OpenClaim := { program := "ytkegljcndhckead", sum := "4609c16070c95df88e8d208caa4278533ea6fe31560c7fe86f49780c2aaa3d06", func := "snubber/snubberlaw17.TxdIdles", spec := "txdIdles", unfollowed := true, recurses := true, apart := false }
def TxdIdlesSaid : Prop := txdIdlesRow.holds Try.pinned (OpenSpec.ofChange txdIdlesSpec)

/-- ITS FALSE NEIGHBOUR: 'it returns false'. Refute it at one input. -/
def txdIdlesWrong : ChangeSpec := { name := "txdIdles", fn := fun _ => fun
  | [d1, d2, d3] => { results := [.lit (.bool false)], args := [d1, d2, d3] }
  | _ => none }
def TxdIdlesWrongFalsely : Prop := txdIdlesRow.holds Try.pinned (OpenSpec.ofChange txdIdlesWrong)

/-- 'snubberlaw17.TxdPlays': WHATEVER THE INPUT: true; the input reads as it did. -/
def txdPlaysSpec : ChangeSpec := { name := "txdPlays", fn := fun _ => fun
  | [d1, d2, d3] => { results := [.lit (.bool true)], args := [d1, d2, d3] }
  | _ => none }
def txdPlaysRow : OpenClaim := { program := "ytkegljcndhckead", sum := "4609c16070c95df88e8d208caa4278533ea6fe31560c7fe86f49780c2aaa3d06", func := "snubber/snubberlaw17.TxdPlays", spec := "txdPlays", unfollowed := true, recurses := true, apart := false }
def TxdPlaysSaid : Prop := txdPlaysRow.holds Try.pinned (OpenSpec.ofChange txdPlaysSpec)

/-- ITS FALSE NEIGHBOUR: 'it returns false'. Refute it at one input. -/
def txdPlaysWrong : ChangeSpec := { name := "txdPlays", fn := fun _ => fun
  | [d1, d2, d3] => { results := [.lit (.bool false)], args := [d1, d2, d3] }
  | _ => none }
def TxdPlaysWrongFalsely : Prop := txdPlaysRow.holds Try.pinned (OpenSpec.ofChange txdPlaysWrong)

/-- 'snubberlaw17.TxdFrames': WHATEVER THE INPUT: true; the input reads as it did. -/
def txdFramesSpec : ChangeSpec := { name := "txdFrames", fn := fun _ => fun
  | [d1, d2] => { results := [.lit (.bool true)], args := [d1, d2] }
  | _ => none }
def txdFramesRow : OpenClaim := { program := "ytkegljcndhckead", sum := "4609c16070c95df88e8d208caa4278533ea6fe31560c7fe86f49780c2aaa3d06", func := "snubber/snubberlaw17.TxdFrames", spec := "txdFrames", unfollowed := true, recurses := true, apart := false }
def TxdFramesSaid : Prop := txdFramesRow.holds Try.pinned (OpenSpec.ofChange txdFramesSpec)

/-- ITS FALSE NEIGHBOUR: 'it returns false'. Refute it at one input. -/
def txdFramesWrong : ChangeSpec := { name := "txdFrames", fn := fun _ => fun
  | [d1, d2] => { results := [.lit (.bool false)], args := [d1, d2] }
  | _ => none }
def TxdFramesWrongFalsely : Prop := txdFramesRow.holds Try.pinned (OpenSpec.ofChange txdFramesWrong)

/-- 'snubberlaw17.TxdStops': WHATEVER THE INPUT: true; the input reads as it did. -/
def txdStopsSpec : ChangeSpec := { name := "txdStops", fn := fun _ => fun
  | [d1, d2, d3] => { results := [.lit (.bool true)], args := [d1, d2, d3] }
  | _ => none }
def txdStopsRow : OpenClaim := { program := "ytkegljcndhckead", sum := "4609c16070c95df88e8d208caa4278533ea6fe31560c7fe86f49780c2aaa3d06", func := "snubber/snubberlaw17.TxdStops", spec := "txdStops", unfollowed := true, recurses := true, apart := false }
def TxdStopsSaid : Prop := txdStopsRow.holds Try.pinned (OpenSpec.ofChange txdStopsSpec)

/-- ITS FALSE NEIGHBOUR: 'it returns false'. Refute it at one input. -/
def txdStopsWrong : ChangeSpec := { name := "txdStops", fn := fun _ => fun
  | [d1, d2, d3] => { results := [.lit (.bool false)], args := [d1, d2, d3] }
  | _ => none }
def TxdStopsWrongFalsely : Prop := txdStopsRow.holds Try.pinned (OpenSpec.ofChange txdStopsWrong)

/- THE SECOND FORM. 'bulk': how many values and letters a reading holds, each counted each time it is reached (what is shared counts as often as it is met; a slice's spare places count too). A statement '..UptoSaid' is the law's where the arguments, and the package variables that the reading takes, are together of bulk at most 1048576: NARROWER than '..Said'. Prove '..Said' where nothing that the law and all that it calls make is longer than what came in: it says more and counts as full. Else prove '..UptoSaid'. A law counts once. -/
mutual
def uptoBulk {H : Type} : DataW H → Nat
  | .lit (.string bytes) => bytes.length + 1
  | .lit _ => 1
  | .nil => 1
  | .ptr d => uptoBulk d + 1
  | .slice elems spare => uptoBulkAll elems + uptoBulkAll spare + 1
  | .agg parts => uptoBulkAll parts + 1
  | .iface _ d => uptoBulk d + 1
  | .map entries => uptoBulkEntries entries + 1
  | .held _ => 1
def uptoBulkAll {H : Type} : List (DataW H) → Nat
  | [] => 0
  | d :: r => uptoBulk d + uptoBulkAll r
def uptoBulkEntries {H : Type} : List (Lit × DataW H) → Nat
  | [] => 0
  | x :: r => uptoBulkEntry x + uptoBulkEntries r
def uptoBulkEntry {H : Type} : Lit × DataW H → Nat
  | (.string bytes, d) => bytes.length + uptoBulk d + 1
  | (_, d) => uptoBulk d + 1
 end
def uptoSmall : (H : Type) → List (DataW H) → Bool := fun _ ds => decide (uptoBulkAll ds ≤ 1048576)
def OpenSpec.upto (s : _root_.Go.ChangeSpec) : _root_.Go.OpenSpec := { _root_.Go.OpenSpec.ofChange s with cond := some uptoSmall }

/-- 'snubberlaw17.TxdNobody', WHERE WHAT IT READS IS OF BULK AT MOST 1048576: true; the input reads as it did. -/
def txdNobodyUptoRow : OpenClaim := { program := "ytkegljcndhckead", sum := "4609c16070c95df88e8d208caa4278533ea6fe31560c7fe86f49780c2aaa3d06", func := "snubber/snubberlaw17.TxdNobody", spec := "txdNobody", unfollowed := true, recurses := true, apart := false, narrowed := true }
def TxdNobodyUptoSaid : Prop := txdNobodyUptoRow.holds Try.pinned (OpenSpec.upto txdNobodySpec)

/-- 'snubberlaw17.TxdOnes', WHERE WHAT IT READS IS OF BULK AT MOST 1048576: true; the input reads as it did. -/
def txdOnesUptoRow : OpenClaim := { program := "ytkegljcndhckead", sum := "4609c16070c95df88e8d208caa4278533ea6fe31560c7fe86f49780c2aaa3d06", func := "snubber/snubberlaw17.TxdOnes", spec := "txdOnes", unfollowed := true, recurses := true, apart := false, narrowed := true }
def TxdOnesUptoSaid : Prop := txdOnesUptoRow.holds Try.pinned (OpenSpec.upto txdOnesSpec)

/-- 'snubberlaw17.TxdIdles', WHERE WHAT IT READS IS OF BULK AT MOST 1048576: true; the input reads as it did. -/
def txdIdlesUptoRow : OpenClaim := { program := "ytkegljcndhckead", sum := "4609c16070c95df88e8d208caa4278533ea6fe31560c7fe86f49780c2aaa3d06", func := "snubber/snubberlaw17.TxdIdles", spec := "txdIdles", unfollowed := true, recurses := true, apart := false, narrowed := true }
def TxdIdlesUptoSaid : Prop := txdIdlesUptoRow.holds Try.pinned (OpenSpec.upto txdIdlesSpec)

/-- 'snubberlaw17.TxdPlays', WHERE WHAT IT READS IS OF BULK AT MOST 1048576: true; the input reads as it did. -/
def txdPlaysUptoRow : OpenClaim := { program := "ytkegljcndhckead", sum := "4609c16070c95df88e8d208caa4278533ea6fe31560c7fe86f49780c2aaa3d06", func := "snubber/snubberlaw17.TxdPlays", spec := "txdPlays", unfollowed := true, recurses := true, apart := false, narrowed := true }
def TxdPlaysUptoSaid : Prop := txdPlaysUptoRow.holds Try.pinned (OpenSpec.upto txdPlaysSpec)

/-- 'snubberlaw17.TxdFrames', WHERE WHAT IT READS IS OF BULK AT MOST 1048576: true; the input reads as it did. -/
def txdFramesUptoRow : OpenClaim := { program := "ytkegljcndhckead", sum := "4609c16070c95df88e8d208caa4278533ea6fe31560c7fe86f49780c2aaa3d06", func := "snubber/snubberlaw17.TxdFrames", spec := "txdFrames", unfollowed := true, recurses := true, apart := false, narrowed := true }
def TxdFramesUptoSaid : Prop := txdFramesUptoRow.holds Try.pinned (OpenSpec.upto txdFramesSpec)

/-- 'snubberlaw17.TxdStops', WHERE WHAT IT READS IS OF BULK AT MOST 1048576: true; the input reads as it did. -/
def txdStopsUptoRow : OpenClaim := { program := "ytkegljcndhckead", sum := "4609c16070c95df88e8d208caa4278533ea6fe31560c7fe86f49780c2aaa3d06", func := "snubber/snubberlaw17.TxdStops", spec := "txdStops", unfollowed := true, recurses := true, apart := false, narrowed := true }
def TxdStopsUptoSaid : Prop := txdStopsUptoRow.holds Try.pinned (OpenSpec.upto txdStopsSpec)

end Rows
end Go.Proofs.Ytkegljcndhckead
