/-
  No cell of these rows narrows 'for every input' (looked for: loops, veiled, ifaces, maps, wideKeys, modest, calm, conditions, laid).
  DERIVED. THE GIVEN ROWS OF THIS SEAT. 6 by the template 'for every input the law returns true; each argument reads behind the call as it read before'; 0 by the template 'total and deterministic' (their statements: YtkegljcndhckeacTotals.lean).
  GIVEN WITH THE SEED: the statements are not yours to turn. If you find one false, say at which input.
  Laid BY PROGRAM, IN A SANDBOX (cutbox-rows.mjs): the forced cells as the released guide's own fill.sh prints them over the translation 78c40c03903363aa… (all of the seat's roots in one cut). By AI agents, Wed Nov 11 2026. No macro, syntax, notation, axiom, sorry.
-/
import Derived.Test.YtkegljcndhckeacChecked
import GoSem.Claim
import GoSem.ClaimJoined
import GoSem.ClaimMapViews
import Derived.JoinedTies
import Derived.KernelRfl
namespace Go.Proofs.Ytkegljcndhckeac
/- THE CELL 'sum', in the pinned program and in every row, IS THE sha256 OF THE DUMP (.gsa) THAT YtkegljcndhckeacProg.lean LOADS. Nothing in Lean hashes anything: it is a label: what it is worth is what the hold of that sum in a sandbox is worth. -/
noncomputable def Try.pinned : Pinned := { name := "ytkegljcndhckeac", sum := "78c40c03903363aa83954f878c73f3dfdf02e7c5fcd35cec524796e8e2743efd", checked := Try.checked }
namespace Rows
def none {H : Type} : Left H := { results := [], args := [] }

/-- 'snubberlaw10.MdioRows': WHATEVER THE INPUT: true; the input reads as it did. -/
def mdioRowsSpec : ChangeSpec := { name := "mdioRows", fn := fun _ => fun
  | [d1, d2, d3, d4] => { results := [.lit (.bool true)], args := [d1, d2, d3, d4] }
  | _ => none }
def mdioRowsRow : OpenClaim := { program := "ytkegljcndhckeac", sum := "78c40c03903363aa83954f878c73f3dfdf02e7c5fcd35cec524796e8e2743efd", func := "snubber/snubberlaw10.MdioRows", spec := "mdioRows", unfollowed := true, recurses := true, apart := false }
def MdioRowsSaid : Prop := mdioRowsRow.holds Try.pinned (OpenSpec.ofChange mdioRowsSpec)

/-- ITS FALSE NEIGHBOUR: 'it returns false'. Refute it at one input. -/
def mdioRowsWrong : ChangeSpec := { name := "mdioRows", fn := fun _ => fun
  | [d1, d2, d3, d4] => { results := [.lit (.bool false)], args := [d1, d2, d3, d4] }
  | _ => none }
def MdioRowsWrongFalsely : Prop := mdioRowsRow.holds Try.pinned (OpenSpec.ofChange mdioRowsWrong)

/-- 'snubberlaw10.MdioPlays': WHATEVER THE INPUT: true; the input reads as it did. -/
def mdioPlaysSpec : ChangeSpec := { name := "mdioPlays", fn := fun _ => fun
  | [d1, d2] => { results := [.lit (.bool true)], args := [d1, d2] }
  | _ => none }
def mdioPlaysRow : OpenClaim := { program := "ytkegljcndhckeac", sum := "78c40c03903363aa83954f878c73f3dfdf02e7c5fcd35cec524796e8e2743efd", func := "snubber/snubberlaw10.MdioPlays", spec := "mdioPlays", unfollowed := true, recurses := true, apart := false }
def MdioPlaysSaid : Prop := mdioPlaysRow.holds Try.pinned (OpenSpec.ofChange mdioPlaysSpec)

/-- ITS FALSE NEIGHBOUR: 'it returns false'. Refute it at one input. -/
def mdioPlaysWrong : ChangeSpec := { name := "mdioPlays", fn := fun _ => fun
  | [d1, d2] => { results := [.lit (.bool false)], args := [d1, d2] }
  | _ => none }
def MdioPlaysWrongFalsely : Prop := mdioPlaysRow.holds Try.pinned (OpenSpec.ofChange mdioPlaysWrong)

/-- 'snubberlaw10.MdioBack': WHATEVER THE INPUT: true; the input reads as it did. -/
def mdioBackSpec : ChangeSpec := { name := "mdioBack", fn := fun _ => fun
  | [d1, d2, d3, d4, d5] => { results := [.lit (.bool true)], args := [d1, d2, d3, d4, d5] }
  | _ => none }
def mdioBackRow : OpenClaim := { program := "ytkegljcndhckeac", sum := "78c40c03903363aa83954f878c73f3dfdf02e7c5fcd35cec524796e8e2743efd", func := "snubber/snubberlaw10.MdioBack", spec := "mdioBack", unfollowed := true, recurses := true, apart := false }
def MdioBackSaid : Prop := mdioBackRow.holds Try.pinned (OpenSpec.ofChange mdioBackSpec)

/-- ITS FALSE NEIGHBOUR: 'it returns false'. Refute it at one input. -/
def mdioBackWrong : ChangeSpec := { name := "mdioBack", fn := fun _ => fun
  | [d1, d2, d3, d4, d5] => { results := [.lit (.bool false)], args := [d1, d2, d3, d4, d5] }
  | _ => none }
def MdioBackWrongFalsely : Prop := mdioBackRow.holds Try.pinned (OpenSpec.ofChange mdioBackWrong)

/-- 'snubberlaw10.MdioNobody': WHATEVER THE INPUT: true; the input reads as it did. -/
def mdioNobodySpec : ChangeSpec := { name := "mdioNobody", fn := fun _ => fun
  | [d1, d2] => { results := [.lit (.bool true)], args := [d1, d2] }
  | _ => none }
def mdioNobodyRow : OpenClaim := { program := "ytkegljcndhckeac", sum := "78c40c03903363aa83954f878c73f3dfdf02e7c5fcd35cec524796e8e2743efd", func := "snubber/snubberlaw10.MdioNobody", spec := "mdioNobody", unfollowed := true, recurses := true, apart := false }
def MdioNobodySaid : Prop := mdioNobodyRow.holds Try.pinned (OpenSpec.ofChange mdioNobodySpec)

/-- ITS FALSE NEIGHBOUR: 'it returns false'. Refute it at one input. -/
def mdioNobodyWrong : ChangeSpec := { name := "mdioNobody", fn := fun _ => fun
  | [d1, d2] => { results := [.lit (.bool false)], args := [d1, d2] }
  | _ => none }
def MdioNobodyWrongFalsely : Prop := mdioNobodyRow.holds Try.pinned (OpenSpec.ofChange mdioNobodyWrong)

/-- 'snubberlaw10.MdioFrames': WHATEVER THE INPUT: true; the input reads as it did. -/
def mdioFramesSpec : ChangeSpec := { name := "mdioFrames", fn := fun _ => fun
  | [d1, d2, d3, d4, d5] => { results := [.lit (.bool true)], args := [d1, d2, d3, d4, d5] }
  | _ => none }
def mdioFramesRow : OpenClaim := { program := "ytkegljcndhckeac", sum := "78c40c03903363aa83954f878c73f3dfdf02e7c5fcd35cec524796e8e2743efd", func := "snubber/snubberlaw10.MdioFrames", spec := "mdioFrames", unfollowed := true, recurses := true, apart := false }
def MdioFramesSaid : Prop := mdioFramesRow.holds Try.pinned (OpenSpec.ofChange mdioFramesSpec)

/-- ITS FALSE NEIGHBOUR: 'it returns false'. Refute it at one input. -/
def mdioFramesWrong : ChangeSpec := { name := "mdioFrames", fn := fun _ => fun
  | [d1, d2, d3, d4, d5] => { results := [.lit (.bool false)], args := [d1, d2, d3, d4, d5] }
  | _ => none }
def MdioFramesWrongFalsely : Prop := mdioFramesRow.holds Try.pinned (OpenSpec.ofChange mdioFramesWrong)

/-- 'snubberlaw10.MdioWhole': WHATEVER THE INPUT: true; the input reads as it did. -/
def mdioWholeSpec : ChangeSpec := { name := "mdioWhole", fn := fun _ => fun
  | [d1, d2, d3, d4, d5] => { results := [.lit (.bool true)], args := [d1, d2, d3, d4, d5] }
  | _ => none }
def mdioWholeRow : OpenClaim := { program := "ytkegljcndhckeac", sum := "78c40c03903363aa83954f878c73f3dfdf02e7c5fcd35cec524796e8e2743efd", func := "snubber/snubberlaw10.MdioWhole", spec := "mdioWhole", unfollowed := true, recurses := true, apart := false }
def MdioWholeSaid : Prop := mdioWholeRow.holds Try.pinned (OpenSpec.ofChange mdioWholeSpec)

/-- ITS FALSE NEIGHBOUR: 'it returns false'. Refute it at one input. -/
def mdioWholeWrong : ChangeSpec := { name := "mdioWhole", fn := fun _ => fun
  | [d1, d2, d3, d4, d5] => { results := [.lit (.bool false)], args := [d1, d2, d3, d4, d5] }
  | _ => none }
def MdioWholeWrongFalsely : Prop := mdioWholeRow.holds Try.pinned (OpenSpec.ofChange mdioWholeWrong)

/- THE SECOND FORM. 'bulk': how many values and letters a reading holds, each counted each time it is reached (what is shared counts as often as it is met; a slice's spare places count too). A statement '..UptoSaid' is the law's where the arguments, and the package variables that the reading takes, are together of bulk at most 1048576: NARROWER than '..Said'. Prove '..Said' where nothing that the law and all that it calls make is longer than what came in: it says more and counts as full. Else prove '..UptoSaid'. A law counts once. -/
mutual
def uptoBulk {H : Type} : DataW H → Nat
  | .lit (.string bytes) => bytes.length + 1
  | .lit _ => 1
  | .nil => 1
  | .ptr d => uptoBulk d + 1
  | .slice elems spare => uptoBulkAll elems + uptoBulkAll spare + 1
  | .agg parts => uptoBulkAll parts + 1
  | .iface _ d => uptoBulk d + 1
  | .map entries => uptoBulkEntries entries + 1
  | .held _ => 1
def uptoBulkAll {H : Type} : List (DataW H) → Nat
  | [] => 0
  | d :: r => uptoBulk d + uptoBulkAll r
def uptoBulkEntries {H : Type} : List (Lit × DataW H) → Nat
  | [] => 0
  | x :: r => uptoBulkEntry x + uptoBulkEntries r
def uptoBulkEntry {H : Type} : Lit × DataW H → Nat
  | (.string bytes, d) => bytes.length + uptoBulk d + 1
  | (_, d) => uptoBulk d + 1
 end
def uptoSmall : (H : Type) → List (DataW H) → Bool := fun _ ds => decide (uptoBulkAll ds ≤ 1048576)
def OpenSpec.upto (s : _root_.Go.ChangeSpec) : _root_.Go.OpenSpec := { _root_.Go.OpenSpec.ofChange s with cond := some uptoSmall }

/-- 'snubberlaw10.MdioRows', WHERE WHAT IT READS IS OF BULK AT MOST 1048576: true; the input reads as it did. -/
def mdioRowsUptoRow : OpenClaim := { program := "ytkegljcndhckeac", sum := "78c40c03903363aa83954f878c73f3dfdf02e7c5fcd35cec524796e8e2743efd", func := "snubber/snubberlaw10.MdioRows", spec := "mdioRows", unfollowed := true, recurses := true, apart := false, narrowed := true }
def MdioRowsUptoSaid : Prop := mdioRowsUptoRow.holds Try.pinned (OpenSpec.upto mdioRowsSpec)

/-- 'snubberlaw10.MdioPlays', WHERE WHAT IT READS IS OF BULK AT MOST 1048576: true; the input reads as it did. -/
def mdioPlaysUptoRow : OpenClaim := { program := "ytkegljcndhckeac", sum := "78c40c03903363aa83954f878c73f3dfdf02e7c5fcd35cec524796e8e2743efd", func := "snubber/snubberlaw10.MdioPlays", spec := "mdioPlays", unfollowed := true, recurses := true, apart := false, narrowed := true }
def MdioPlaysUptoSaid : Prop := mdioPlaysUptoRow.holds Try.pinned (OpenSpec.upto mdioPlaysSpec)

/-- 'snubberlaw10.MdioBack', WHERE WHAT IT READS IS OF BULK AT MOST 1048576: true; the input reads as it did. -/
def mdioBackUptoRow : OpenClaim := { program := "ytkegljcndhckeac", sum := "78c40c03903363aa83954f878c73f3dfdf02e7c5fcd35cec524796e8e2743efd", func := "snubber/snubberlaw10.MdioBack", spec := "mdioBack", unfollowed := true, recurses := true, apart := false, narrowed := true }
def MdioBackUptoSaid : Prop := mdioBackUptoRow.holds Try.pinned (OpenSpec.upto mdioBackSpec)

/-- 'snubberlaw10.MdioNobody', WHERE WHAT IT READS IS OF BULK AT MOST 1048576: true; the input reads as it did. -/
def mdioNobodyUptoRow : OpenClaim := { program := "ytkegljcndhckeac", sum := "78c40c03903363aa83954f878c73f3dfdf02e7c5fcd35cec524796e8e2743efd", func := "snubber/snubberlaw10.MdioNobody", spec := "mdioNobody", unfollowed := true, recurses := true, apart := false, narrowed := true }
def MdioNobodyUptoSaid : Prop := mdioNobodyUptoRow.holds Try.pinned (OpenSpec.upto mdioNobodySpec)

/-- 'snubberlaw10.MdioFrames', WHERE WHAT IT READS IS OF BULK AT MOST 1048576: true; the input reads as it did. -/
def mdioFramesUptoRow : OpenClaim := { program := "ytkegljcndhckeac", sum := "78c40c03903363aa83954f878c73f3dfdf02e7c5fcd35cec524796e8e2743efd", func := "snubber/snubberlaw10.MdioFrames", spec := "mdioFrames", unfollowed := true, recurses := true, apart := false, narrowed := true }
def MdioFramesUptoSaid : Prop := mdioFramesUptoRow.holds Try.pinned (OpenSpec.upto mdioFramesSpec)

/-- 'snubberlaw10.MdioWhole', WHERE WHAT IT READS IS OF BULK AT MOST 1048576: true; the input reads as it did. -/
def mdioWholeUptoRow : OpenClaim := { program := "ytkegljcndhckeac", sum := "78c40c03903363aa83954f878c73f3dfdf02e7c5fcd35cec524796e8e2743efd", func := "snubber/snubberlaw10.MdioWhole", spec := "mdioWhole", unfollowed := true, recurses := true, apart := false, narrowed := true }
def MdioWholeUptoSaid : Prop := mdioWholeUptoRow.holds Try.pinned (OpenSpec.upto mdioWholeSpec)

end Rows
end Go.Proofs.Ytkegljcndhckeac
