/-
  No cell of these rows narrows 'for every input' (looked for: loops, veiled, ifaces, maps, wideKeys, modest, calm, conditions, laid).
  DERIVED. THE GIVEN ROWS OF THIS SEAT. 6 by the template 'for every input the law returns true; each argument reads behind the call as it read before'; 0 by the template 'total and deterministic' (their statements: YtkegljcndhckeabTotals.lean).
  GIVEN WITH THE SEED: the statements are not yours to turn. If you find one false, say at which input.
  Laid BY PROGRAM, IN A SANDBOX (cutbox-rows.mjs): the forced cells as the released guide's own fill.sh prints them over the translation 0da5ab3dcb849059… (all of the seat's roots in one cut). By AI agents, Wed Nov 11 2026. No macro, syntax, notation, axiom, sorry.
-/
import Derived.Test.YtkegljcndhckeabChecked
import GoSem.Claim
import GoSem.ClaimJoined
import GoSem.ClaimMapViews
import Derived.JoinedTies
import Derived.KernelRfl
namespace Go.Proofs.Ytkegljcndhckeab
/- THE CELL 'sum', in the pinned program and in every row, IS THE sha256 OF THE DUMP (.gsa) THAT YtkegljcndhckeabProg.lean LOADS. Nothing in Lean hashes anything: it is a label: what it is worth is what the hold of that sum in a sandbox is worth. -/
noncomputable def Try.pinned : Pinned := { name := "ytkegljcndhckeab", sum := "0da5ab3dcb849059139b6150dbe9093ff23636369bb47d8b49585fb60e60e872", checked := Try.checked }
namespace Rows
def none {H : Type} : Left H := { results := [], args := [] }

/-- 'snubberlaw16.DescFlags': WHATEVER THE INPUT: true; the input reads as it did. -/
def descFlagsSpec : ChangeSpec := { name := "descFlags", fn := fun _ => fun
  | [d1, d2] => { results := [.lit (.bool true)], args := [d1, d2] }
  | _ => none }
def descFlagsRow : OpenClaim := { program := "ytkegljcndhckeab", sum := "0da5ab3dcb849059139b6150dbe9093ff23636369bb47d8b49585fb60e60e872", func := "snubber/snubberlaw16.DescFlags", spec := "descFlags", apart := false }
def DescFlagsSaid : Prop := descFlagsRow.holds Try.pinned (OpenSpec.ofChange descFlagsSpec)

/-- ITS FALSE NEIGHBOUR: 'it returns false'. Refute it at one input. -/
def descFlagsWrong : ChangeSpec := { name := "descFlags", fn := fun _ => fun
  | [d1, d2] => { results := [.lit (.bool false)], args := [d1, d2] }
  | _ => none }
def DescFlagsWrongFalsely : Prop := descFlagsRow.holds Try.pinned (OpenSpec.ofChange descFlagsWrong)

/-- 'snubberlaw16.DescWords': WHATEVER THE INPUT: true; the input reads as it did. -/
def descWordsSpec : ChangeSpec := { name := "descWords", fn := fun _ => fun
  | [d1, d2] => { results := [.lit (.bool true)], args := [d1, d2] }
  | _ => none }
def descWordsRow : OpenClaim := { program := "ytkegljcndhckeab", sum := "0da5ab3dcb849059139b6150dbe9093ff23636369bb47d8b49585fb60e60e872", func := "snubber/snubberlaw16.DescWords", spec := "descWords", apart := false }
def DescWordsSaid : Prop := descWordsRow.holds Try.pinned (OpenSpec.ofChange descWordsSpec)

/-- ITS FALSE NEIGHBOUR: 'it returns false'. Refute it at one input. -/
def descWordsWrong : ChangeSpec := { name := "descWords", fn := fun _ => fun
  | [d1, d2] => { results := [.lit (.bool false)], args := [d1, d2] }
  | _ => none }
def DescWordsWrongFalsely : Prop := descWordsRow.holds Try.pinned (OpenSpec.ofChange descWordsWrong)

/-- 'snubberlaw16.DescLast': WHATEVER THE INPUT: true; the input reads as it did. -/
def descLastSpec : ChangeSpec := { name := "descLast", fn := fun _ => fun
  | [d1, d2, d3] => { results := [.lit (.bool true)], args := [d1, d2, d3] }
  | _ => none }
def descLastRow : OpenClaim := { program := "ytkegljcndhckeab", sum := "0da5ab3dcb849059139b6150dbe9093ff23636369bb47d8b49585fb60e60e872", func := "snubber/snubberlaw16.DescLast", spec := "descLast", apart := false }
def DescLastSaid : Prop := descLastRow.holds Try.pinned (OpenSpec.ofChange descLastSpec)

/-- ITS FALSE NEIGHBOUR: 'it returns false'. Refute it at one input. -/
def descLastWrong : ChangeSpec := { name := "descLast", fn := fun _ => fun
  | [d1, d2, d3] => { results := [.lit (.bool false)], args := [d1, d2, d3] }
  | _ => none }
def DescLastWrongFalsely : Prop := descLastRow.holds Try.pinned (OpenSpec.ofChange descLastWrong)

/-- 'snubberlaw16.DescBack': WHATEVER THE INPUT: true; the input reads as it did. -/
def descBackSpec : ChangeSpec := { name := "descBack", fn := fun _ => fun
  | [d1, d2, d3] => { results := [.lit (.bool true)], args := [d1, d2, d3] }
  | _ => none }
def descBackRow : OpenClaim := { program := "ytkegljcndhckeab", sum := "0da5ab3dcb849059139b6150dbe9093ff23636369bb47d8b49585fb60e60e872", func := "snubber/snubberlaw16.DescBack", spec := "descBack", apart := false }
def DescBackSaid : Prop := descBackRow.holds Try.pinned (OpenSpec.ofChange descBackSpec)

/-- ITS FALSE NEIGHBOUR: 'it returns false'. Refute it at one input. -/
def descBackWrong : ChangeSpec := { name := "descBack", fn := fun _ => fun
  | [d1, d2, d3] => { results := [.lit (.bool false)], args := [d1, d2, d3] }
  | _ => none }
def DescBackWrongFalsely : Prop := descBackRow.holds Try.pinned (OpenSpec.ofChange descBackWrong)

/-- 'snubberlaw16.DescLays': WHATEVER THE INPUT: true; the input reads as it did. -/
def descLaysSpec : ChangeSpec := { name := "descLays", fn := fun _ => fun
  | [d1, d2, d3] => { results := [.lit (.bool true)], args := [d1, d2, d3] }
  | _ => none }
def descLaysRow : OpenClaim := { program := "ytkegljcndhckeab", sum := "0da5ab3dcb849059139b6150dbe9093ff23636369bb47d8b49585fb60e60e872", func := "snubber/snubberlaw16.DescLays", spec := "descLays", apart := false }
def DescLaysSaid : Prop := descLaysRow.holds Try.pinned (OpenSpec.ofChange descLaysSpec)

/-- ITS FALSE NEIGHBOUR: 'it returns false'. Refute it at one input. -/
def descLaysWrong : ChangeSpec := { name := "descLays", fn := fun _ => fun
  | [d1, d2, d3] => { results := [.lit (.bool false)], args := [d1, d2, d3] }
  | _ => none }
def DescLaysWrongFalsely : Prop := descLaysRow.holds Try.pinned (OpenSpec.ofChange descLaysWrong)

/-- 'snubberlaw16.DescPlays': WHATEVER THE INPUT: true; the input reads as it did. -/
def descPlaysSpec : ChangeSpec := { name := "descPlays", fn := fun _ => fun
  | [d1, d2] => { results := [.lit (.bool true)], args := [d1, d2] }
  | _ => none }
def descPlaysRow : OpenClaim := { program := "ytkegljcndhckeab", sum := "0da5ab3dcb849059139b6150dbe9093ff23636369bb47d8b49585fb60e60e872", func := "snubber/snubberlaw16.DescPlays", spec := "descPlays", apart := false }
def DescPlaysSaid : Prop := descPlaysRow.holds Try.pinned (OpenSpec.ofChange descPlaysSpec)

/-- ITS FALSE NEIGHBOUR: 'it returns false'. Refute it at one input. -/
def descPlaysWrong : ChangeSpec := { name := "descPlays", fn := fun _ => fun
  | [d1, d2] => { results := [.lit (.bool false)], args := [d1, d2] }
  | _ => none }
def DescPlaysWrongFalsely : Prop := descPlaysRow.holds Try.pinned (OpenSpec.ofChange descPlaysWrong)

/- THE SECOND FORM. 'bulk': how many values and letters a reading holds, each counted each time it is reached (what is shared counts as often as it is met; a slice's spare places count too). A statement '..UptoSaid' is the law's where the arguments, and the package variables that the reading takes, are together of bulk at most 1048576: NARROWER than '..Said'. Prove '..Said' where nothing that the law and all that it calls make is longer than what came in: it says more and counts as full. Else prove '..UptoSaid'. A law counts once. -/
mutual
def uptoBulk {H : Type} : DataW H → Nat
  | .lit (.string bytes) => bytes.length + 1
  | .lit _ => 1
  | .nil => 1
  | .ptr d => uptoBulk d + 1
  | .slice elems spare => uptoBulkAll elems + uptoBulkAll spare + 1
  | .agg parts => uptoBulkAll parts + 1
  | .iface _ d => uptoBulk d + 1
  | .map entries => uptoBulkEntries entries + 1
  | .held _ => 1
def uptoBulkAll {H : Type} : List (DataW H) → Nat
  | [] => 0
  | d :: r => uptoBulk d + uptoBulkAll r
def uptoBulkEntries {H : Type} : List (Lit × DataW H) → Nat
  | [] => 0
  | x :: r => uptoBulkEntry x + uptoBulkEntries r
def uptoBulkEntry {H : Type} : Lit × DataW H → Nat
  | (.string bytes, d) => bytes.length + uptoBulk d + 1
  | (_, d) => uptoBulk d + 1
 end
def uptoSmall : (H : Type) → List (DataW H) → Bool := fun _ ds => decide (uptoBulkAll ds ≤ 1048576)
def OpenSpec.upto (s : _root_.Go.ChangeSpec) : _root_.Go.OpenSpec := { _root_.Go.OpenSpec.ofChange s with cond := some uptoSmall }

/-- 'snubberlaw16.DescFlags', WHERE WHAT IT READS IS OF BULK AT MOST 1048576: true; the input reads as it did. -/
def descFlagsUptoRow : OpenClaim := { program := "ytkegljcndhckeab", sum := "0da5ab3dcb849059139b6150dbe9093ff23636369bb47d8b49585fb60e60e872", func := "snubber/snubberlaw16.DescFlags", spec := "descFlags", apart := false, narrowed := true }
def DescFlagsUptoSaid : Prop := descFlagsUptoRow.holds Try.pinned (OpenSpec.upto descFlagsSpec)

/-- 'snubberlaw16.DescWords', WHERE WHAT IT READS IS OF BULK AT MOST 1048576: true; the input reads as it did. -/
def descWordsUptoRow : OpenClaim := { program := "ytkegljcndhckeab", sum := "0da5ab3dcb849059139b6150dbe9093ff23636369bb47d8b49585fb60e60e872", func := "snubber/snubberlaw16.DescWords", spec := "descWords", apart := false, narrowed := true }
def DescWordsUptoSaid : Prop := descWordsUptoRow.holds Try.pinned (OpenSpec.upto descWordsSpec)

/-- 'snubberlaw16.DescLast', WHERE WHAT IT READS IS OF BULK AT MOST 1048576: true; the input reads as it did. -/
def descLastUptoRow : OpenClaim := { program := "ytkegljcndhckeab", sum := "0da5ab3dcb849059139b6150dbe9093ff23636369bb47d8b49585fb60e60e872", func := "snubber/snubberlaw16.DescLast", spec := "descLast", apart := false, narrowed := true }
def DescLastUptoSaid : Prop := descLastUptoRow.holds Try.pinned (OpenSpec.upto descLastSpec)

/-- 'snubberlaw16.DescBack', WHERE WHAT IT READS IS OF BULK AT MOST 1048576: true; the input reads as it did. -/
def descBackUptoRow : OpenClaim := { program := "ytkegljcndhckeab", sum := "0da5ab3dcb849059139b6150dbe9093ff23636369bb47d8b49585fb60e60e872", func := "snubber/snubberlaw16.DescBack", spec := "descBack", apart := false, narrowed := true }
def DescBackUptoSaid : Prop := descBackUptoRow.holds Try.pinned (OpenSpec.upto descBackSpec)

/-- 'snubberlaw16.DescLays', WHERE WHAT IT READS IS OF BULK AT MOST 1048576: true; the input reads as it did. -/
def descLaysUptoRow : OpenClaim := { program := "ytkegljcndhckeab", sum := "0da5ab3dcb849059139b6150dbe9093ff23636369bb47d8b49585fb60e60e872", func := "snubber/snubberlaw16.DescLays", spec := "descLays", apart := false, narrowed := true }
def DescLaysUptoSaid : Prop := descLaysUptoRow.holds Try.pinned (OpenSpec.upto descLaysSpec)

/-- 'snubberlaw16.DescPlays', WHERE WHAT IT READS IS OF BULK AT MOST 1048576: true; the input reads as it did. -/
def descPlaysUptoRow : OpenClaim := { program := "ytkegljcndhckeab", sum := "0da5ab3dcb849059139b6150dbe9093ff23636369bb47d8b49585fb60e60e872", func := "snubber/snubberlaw16.DescPlays", spec := "descPlays", apart := false, narrowed := true }
def DescPlaysUptoSaid : Prop := descPlaysUptoRow.holds Try.pinned (OpenSpec.upto descPlaysSpec)

end Rows
end Go.Proofs.Ytkegljcndhckeab
