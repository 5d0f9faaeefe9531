/-
  No cell of these rows narrows 'for every input' (looked for: loops, veiled, ifaces, maps, wideKeys, modest, calm, conditions, laid).
  DERIVED. THE GIVEN ROWS OF THIS SEAT. 6 by the template 'for every input the law returns true; each argument reads behind the call as it read before'; 0 by the template 'total and deterministic' (their statements: YtkegljcndhckeaaTotals.lean).
  GIVEN WITH THE SEED: the statements are not yours to turn. If you find one false, say at which input.
  Laid BY PROGRAM, IN A SANDBOX (cutbox-rows.mjs): the forced cells as the released guide's own fill.sh prints them over the translation 692a1413cab28168… (all of the seat's roots in one cut). By AI agents, Wed Nov 11 2026. No macro, syntax, notation, axiom, sorry.
-/
import Derived.Test.YtkegljcndhckeaaChecked
import GoSem.Claim
import GoSem.ClaimJoined
import GoSem.ClaimMapViews
import Derived.JoinedTies
import Derived.KernelRfl
namespace Go.Proofs.Ytkegljcndhckeaa
/- THE CELL 'sum', in the pinned program and in every row, IS THE sha256 OF THE DUMP (.gsa) THAT YtkegljcndhckeaaProg.lean LOADS. Nothing in Lean hashes anything: it is a label: what it is worth is what the hold of that sum in a sandbox is worth. -/
noncomputable def Try.pinned : Pinned := { name := "ytkegljcndhckeaa", sum := "692a1413cab28168d716959caed0d624a89dc99580087304be9d3a139aef54f7", checked := Try.checked }
namespace Rows
def none {H : Type} : Left H := { results := [], args := [] }

/-- 'snubberlaw08.RamBack': WHATEVER THE INPUT: true; the input reads as it did. -/
def ramBackSpec : ChangeSpec := { name := "ramBack", fn := fun _ => fun
  | [d1, d2, d3, d4, d5] => { results := [.lit (.bool true)], args := [d1, d2, d3, d4, d5] }
  | _ => none }
def ramBackRow : OpenClaim := { program := "ytkegljcndhckeaa", sum := "692a1413cab28168d716959caed0d624a89dc99580087304be9d3a139aef54f7", func := "snubber/snubberlaw08.RamBack", spec := "ramBack", apart := false }
def RamBackSaid : Prop := ramBackRow.holds Try.pinned (OpenSpec.ofChange ramBackSpec)

/-- ITS FALSE NEIGHBOUR: 'it returns false'. Refute it at one input. -/
def ramBackWrong : ChangeSpec := { name := "ramBack", fn := fun _ => fun
  | [d1, d2, d3, d4, d5] => { results := [.lit (.bool false)], args := [d1, d2, d3, d4, d5] }
  | _ => none }
def RamBackWrongFalsely : Prop := ramBackRow.holds Try.pinned (OpenSpec.ofChange ramBackWrong)

/-- 'snubberlaw08.RamBlank': WHATEVER THE INPUT: true; the input reads as it did. -/
def ramBlankSpec : ChangeSpec := { name := "ramBlank", fn := fun _ => fun
  | [d1, d2] => { results := [.lit (.bool true)], args := [d1, d2] }
  | _ => none }
def ramBlankRow : OpenClaim := { program := "ytkegljcndhckeaa", sum := "692a1413cab28168d716959caed0d624a89dc99580087304be9d3a139aef54f7", func := "snubber/snubberlaw08.RamBlank", spec := "ramBlank", apart := false }
def RamBlankSaid : Prop := ramBlankRow.holds Try.pinned (OpenSpec.ofChange ramBlankSpec)

/-- ITS FALSE NEIGHBOUR: 'it returns false'. Refute it at one input. -/
def ramBlankWrong : ChangeSpec := { name := "ramBlank", fn := fun _ => fun
  | [d1, d2] => { results := [.lit (.bool false)], args := [d1, d2] }
  | _ => none }
def RamBlankWrongFalsely : Prop := ramBlankRow.holds Try.pinned (OpenSpec.ofChange ramBlankWrong)

/-- 'snubberlaw08.RamPlays': WHATEVER THE INPUT: true; the input reads as it did. -/
def ramPlaysSpec : ChangeSpec := { name := "ramPlays", fn := fun _ => fun
  | [d1, d2] => { results := [.lit (.bool true)], args := [d1, d2] }
  | _ => none }
def ramPlaysRow : OpenClaim := { program := "ytkegljcndhckeaa", sum := "692a1413cab28168d716959caed0d624a89dc99580087304be9d3a139aef54f7", func := "snubber/snubberlaw08.RamPlays", spec := "ramPlays", apart := false }
def RamPlaysSaid : Prop := ramPlaysRow.holds Try.pinned (OpenSpec.ofChange ramPlaysSpec)

/-- ITS FALSE NEIGHBOUR: 'it returns false'. Refute it at one input. -/
def ramPlaysWrong : ChangeSpec := { name := "ramPlays", fn := fun _ => fun
  | [d1, d2] => { results := [.lit (.bool false)], args := [d1, d2] }
  | _ => none }
def RamPlaysWrongFalsely : Prop := ramPlaysRow.holds Try.pinned (OpenSpec.ofChange ramPlaysWrong)

/-- 'snubberlaw08.RamLogs': WHATEVER THE INPUT: true; the input reads as it did. -/
def ramLogsSpec : ChangeSpec := { name := "ramLogs", fn := fun _ => fun
  | [d1, d2] => { results := [.lit (.bool true)], args := [d1, d2] }
  | _ => none }
def ramLogsRow : OpenClaim := { program := "ytkegljcndhckeaa", sum := "692a1413cab28168d716959caed0d624a89dc99580087304be9d3a139aef54f7", func := "snubber/snubberlaw08.RamLogs", spec := "ramLogs", apart := false }
def RamLogsSaid : Prop := ramLogsRow.holds Try.pinned (OpenSpec.ofChange ramLogsSpec)

/-- ITS FALSE NEIGHBOUR: 'it returns false'. Refute it at one input. -/
def ramLogsWrong : ChangeSpec := { name := "ramLogs", fn := fun _ => fun
  | [d1, d2] => { results := [.lit (.bool false)], args := [d1, d2] }
  | _ => none }
def RamLogsWrongFalsely : Prop := ramLogsRow.holds Try.pinned (OpenSpec.ofChange ramLogsWrong)

/-- 'snubberlaw08.RamNobody': WHATEVER THE INPUT: true; the input reads as it did. -/
def ramNobodySpec : ChangeSpec := { name := "ramNobody", fn := fun _ => fun
  | [d1, d2] => { results := [.lit (.bool true)], args := [d1, d2] }
  | _ => none }
def ramNobodyRow : OpenClaim := { program := "ytkegljcndhckeaa", sum := "692a1413cab28168d716959caed0d624a89dc99580087304be9d3a139aef54f7", func := "snubber/snubberlaw08.RamNobody", spec := "ramNobody", apart := false }
def RamNobodySaid : Prop := ramNobodyRow.holds Try.pinned (OpenSpec.ofChange ramNobodySpec)

/-- ITS FALSE NEIGHBOUR: 'it returns false'. Refute it at one input. -/
def ramNobodyWrong : ChangeSpec := { name := "ramNobody", fn := fun _ => fun
  | [d1, d2] => { results := [.lit (.bool false)], args := [d1, d2] }
  | _ => none }
def RamNobodyWrongFalsely : Prop := ramNobodyRow.holds Try.pinned (OpenSpec.ofChange ramNobodyWrong)

/-- 'snubberlaw08.RamDumps': WHATEVER THE INPUT: true; the input reads as it did. -/
def ramDumpsSpec : ChangeSpec := { name := "ramDumps", fn := fun _ => fun
  | [d1, d2, d3] => { results := [.lit (.bool true)], args := [d1, d2, d3] }
  | _ => none }
def ramDumpsRow : OpenClaim := { program := "ytkegljcndhckeaa", sum := "692a1413cab28168d716959caed0d624a89dc99580087304be9d3a139aef54f7", func := "snubber/snubberlaw08.RamDumps", spec := "ramDumps", apart := false }
def RamDumpsSaid : Prop := ramDumpsRow.holds Try.pinned (OpenSpec.ofChange ramDumpsSpec)

/-- ITS FALSE NEIGHBOUR: 'it returns false'. Refute it at one input. -/
def ramDumpsWrong : ChangeSpec := { name := "ramDumps", fn := fun _ => fun
  | [d1, d2, d3] => { results := [.lit (.bool false)], args := [d1, d2, d3] }
  | _ => none }
def RamDumpsWrongFalsely : Prop := ramDumpsRow.holds Try.pinned (OpenSpec.ofChange ramDumpsWrong)

/- THE SECOND FORM. 'bulk': how many values and letters a reading holds, each counted each time it is reached (what is shared counts as often as it is met; a slice's spare places count too). A statement '..UptoSaid' is the law's where the arguments, and the package variables that the reading takes, are together of bulk at most 1048576: NARROWER than '..Said'. Prove '..Said' where nothing that the law and all that it calls make is longer than what came in: it says more and counts as full. Else prove '..UptoSaid'. A law counts once. -/
mutual
def uptoBulk {H : Type} : DataW H → Nat
  | .lit (.string bytes) => bytes.length + 1
  | .lit _ => 1
  | .nil => 1
  | .ptr d => uptoBulk d + 1
  | .slice elems spare => uptoBulkAll elems + uptoBulkAll spare + 1
  | .agg parts => uptoBulkAll parts + 1
  | .iface _ d => uptoBulk d + 1
  | .map entries => uptoBulkEntries entries + 1
  | .held _ => 1
def uptoBulkAll {H : Type} : List (DataW H) → Nat
  | [] => 0
  | d :: r => uptoBulk d + uptoBulkAll r
def uptoBulkEntries {H : Type} : List (Lit × DataW H) → Nat
  | [] => 0
  | x :: r => uptoBulkEntry x + uptoBulkEntries r
def uptoBulkEntry {H : Type} : Lit × DataW H → Nat
  | (.string bytes, d) => bytes.length + uptoBulk d + 1
  | (_, d) => uptoBulk d + 1
 end
def uptoSmall : (H : Type) → List (DataW H) → Bool := fun _ ds => decide (uptoBulkAll ds ≤ 1048576)
def OpenSpec.upto (s : _root_.Go.ChangeSpec) : _root_.Go.OpenSpec := { _root_.Go.OpenSpec.ofChange s with cond := some uptoSmall }

/-- 'snubberlaw08.RamBack', WHERE WHAT IT READS IS OF BULK AT MOST 1048576: true; the input reads as it did. -/
def ramBackUptoRow : OpenClaim := { program := "ytkegljcndhckeaa", sum := "692a1413cab28168d716959caed0d624a89dc99580087304be9d3a139aef54f7", func := "snubber/snubberlaw08.RamBack", spec := "ramBack", apart := false, narrowed := true }
def RamBackUptoSaid : Prop := ramBackUptoRow.holds Try.pinned (OpenSpec.upto ramBackSpec)

/-- 'snubberlaw08.RamBlank', WHERE WHAT IT READS IS OF BULK AT MOST 1048576: true; the input reads as it did. -/
def ramBlankUptoRow : OpenClaim := { program := "ytkegljcndhckeaa", sum := "692a1413cab28168d716959caed0d624a89dc99580087304be9d3a139aef54f7", func := "snubber/snubberlaw08.RamBlank", spec := "ramBlank", apart := false, narrowed := true }
def RamBlankUptoSaid : Prop := ramBlankUptoRow.holds Try.pinned (OpenSpec.upto ramBlankSpec)

/-- 'snubberlaw08.RamPlays', WHERE WHAT IT READS IS OF BULK AT MOST 1048576: true; the input reads as it did. -/
def ramPlaysUptoRow : OpenClaim := { program := "ytkegljcndhckeaa", sum := "692a1413cab28168d716959caed0d624a89dc99580087304be9d3a139aef54f7", func := "snubber/snubberlaw08.RamPlays", spec := "ramPlays", apart := false, narrowed := true }
def RamPlaysUptoSaid : Prop := ramPlaysUptoRow.holds Try.pinned (OpenSpec.upto ramPlaysSpec)

/-- 'snubberlaw08.RamLogs', WHERE WHAT IT READS IS OF BULK AT MOST 1048576: true; the input reads as it did. -/
def ramLogsUptoRow : OpenClaim := { program := "ytkegljcndhckeaa", sum := "692a1413cab28168d716959caed0d624a89dc99580087304be9d3a139aef54f7", func := "snubber/snubberlaw08.RamLogs", spec := "ramLogs", apart := false, narrowed := true }
def RamLogsUptoSaid : Prop := ramLogsUptoRow.holds Try.pinned (OpenSpec.upto ramLogsSpec)

/-- 'snubberlaw08.RamNobody', WHERE WHAT IT READS IS OF BULK AT MOST 1048576: true; the input reads as it did. -/
def ramNobodyUptoRow : OpenClaim := { program := "ytkegljcndhckeaa", sum := "692a1413cab28168d716959caed0d624a89dc99580087304be9d3a139aef54f7", func := "snubber/snubberlaw08.RamNobody", spec := "ramNobody", apart := false, narrowed := true }
def RamNobodyUptoSaid : Prop := ramNobodyUptoRow.holds Try.pinned (OpenSpec.upto ramNobodySpec)

/-- 'snubberlaw08.RamDumps', WHERE WHAT IT READS IS OF BULK AT MOST 1048576: true; the input reads as it did. -/
def ramDumpsUptoRow : OpenClaim := { program := "ytkegljcndhckeaa", sum := "692a1413cab28168d716959caed0d624a89dc99580087304be9d3a139aef54f7", func := "snubber/snubberlaw08.RamDumps", spec := "ramDumps", apart := false, narrowed := true }
def RamDumpsUptoSaid : Prop := ramDumpsUptoRow.holds Try.pinned (OpenSpec.upto ramDumpsSpec)

end Rows
end Go.Proofs.Ytkegljcndhckeaa
