/-
  No cell of these rows narrows 'for every input' (looked for: loops, veiled, ifaces, maps, wideKeys, modest, calm, conditions, laid).
  DERIVED. THE GIVEN ROWS OF THIS SEAT. 7 by the template 'for every input the law returns true; each argument reads behind the call as it read before'; 0 by the template 'total and deterministic' (their statements: YtpcmfceoeflcoaaTotals.lean).
  GIVEN WITH THE SEED: the statements are not yours to turn. If you find one false, say at which input.
  Laid BY PROGRAM, IN A SANDBOX (cutbox-rows.mjs): the forced cells as the released guide's own fill.sh prints them over the translation 1ba00aa507b988af… (all of the seat's roots in one cut). By AI agents, Wed Nov 11 2026. No macro, syntax, notation, axiom, sorry.
-/
import Derived.Test.YtpcmfceoeflcoaaChecked
import GoSem.Claim
import GoSem.ClaimJoined
import GoSem.ClaimMapViews
import Derived.JoinedTies
import Derived.KernelRfl
namespace Go.Proofs.Ytpcmfceoeflcoaa
/- THE CELL 'sum', in the pinned program and in every row, IS THE sha256 OF THE DUMP (.gsa) THAT YtpcmfceoeflcoaaProg.lean LOADS. Nothing in Lean hashes anything: it is a label: what it is worth is what the hold of that sum in a sandbox is worth. -/
noncomputable def Try.pinned : Pinned := { name := "ytpcmfceoeflcoaa", sum := "1ba00aa507b988aff7077d3cccfe9df4867554e8e066dc2bdbd7e7d3c22103fa", checked := Try.checked }
namespace Rows
def none {H : Type} : Left H := { results := [], args := [] }

/-- 'snubberlaw01.WordParts': WHATEVER THE INPUT: true; the input reads as it did. -/
def wordPartsSpec : ChangeSpec := { name := "wordParts", fn := fun _ => fun
  | [d1, d2, d3, d4] => { results := [.lit (.bool true)], args := [d1, d2, d3, d4] }
  | _ => none }
def wordPartsRow : OpenClaim := { program := "ytpcmfceoeflcoaa", sum := "1ba00aa507b988aff7077d3cccfe9df4867554e8e066dc2bdbd7e7d3c22103fa", func := "snubber/snubberlaw01.WordParts", spec := "wordParts", unfollowed := true, recurses := true, apart := false }
def WordPartsSaid : Prop := wordPartsRow.holds Try.pinned (OpenSpec.ofChange wordPartsSpec)

/-- ITS FALSE NEIGHBOUR: 'it returns false'. Refute it at one input. -/
def wordPartsWrong : ChangeSpec := { name := "wordParts", fn := fun _ => fun
  | [d1, d2, d3, d4] => { results := [.lit (.bool false)], args := [d1, d2, d3, d4] }
  | _ => none }
def WordPartsWrongFalsely : Prop := wordPartsRow.holds Try.pinned (OpenSpec.ofChange wordPartsWrong)

/-- 'snubberlaw01.WordPut': WHATEVER THE INPUT: true; the input reads as it did. -/
def wordPutSpec : ChangeSpec := { name := "wordPut", fn := fun _ => fun
  | [d1, d2, d3, d4, d5, d6] => { results := [.lit (.bool true)], args := [d1, d2, d3, d4, d5, d6] }
  | _ => none }
def wordPutRow : OpenClaim := { program := "ytpcmfceoeflcoaa", sum := "1ba00aa507b988aff7077d3cccfe9df4867554e8e066dc2bdbd7e7d3c22103fa", func := "snubber/snubberlaw01.WordPut", spec := "wordPut", unfollowed := true, recurses := true, apart := false }
def WordPutSaid : Prop := wordPutRow.holds Try.pinned (OpenSpec.ofChange wordPutSpec)

/-- ITS FALSE NEIGHBOUR: 'it returns false'. Refute it at one input. -/
def wordPutWrong : ChangeSpec := { name := "wordPut", fn := fun _ => fun
  | [d1, d2, d3, d4, d5, d6] => { results := [.lit (.bool false)], args := [d1, d2, d3, d4, d5, d6] }
  | _ => none }
def WordPutWrongFalsely : Prop := wordPutRow.holds Try.pinned (OpenSpec.ofChange wordPutWrong)

/-- 'snubberlaw01.WordTurns': WHATEVER THE INPUT: true; the input reads as it did. -/
def wordTurnsSpec : ChangeSpec := { name := "wordTurns", fn := fun _ => fun
  | [d1, d2] => { results := [.lit (.bool true)], args := [d1, d2] }
  | _ => none }
def wordTurnsRow : OpenClaim := { program := "ytpcmfceoeflcoaa", sum := "1ba00aa507b988aff7077d3cccfe9df4867554e8e066dc2bdbd7e7d3c22103fa", func := "snubber/snubberlaw01.WordTurns", spec := "wordTurns", unfollowed := true, recurses := true, apart := false }
def WordTurnsSaid : Prop := wordTurnsRow.holds Try.pinned (OpenSpec.ofChange wordTurnsSpec)

/-- ITS FALSE NEIGHBOUR: 'it returns false'. Refute it at one input. -/
def wordTurnsWrong : ChangeSpec := { name := "wordTurns", fn := fun _ => fun
  | [d1, d2] => { results := [.lit (.bool false)], args := [d1, d2] }
  | _ => none }
def WordTurnsWrongFalsely : Prop := wordTurnsRow.holds Try.pinned (OpenSpec.ofChange wordTurnsWrong)

/-- 'snubberlaw01.WordShares': WHATEVER THE INPUT: true; the input reads as it did. -/
def wordSharesSpec : ChangeSpec := { name := "wordShares", fn := fun _ => fun
  | [d1, d2, d3] => { results := [.lit (.bool true)], args := [d1, d2, d3] }
  | _ => none }
def wordSharesRow : OpenClaim := { program := "ytpcmfceoeflcoaa", sum := "1ba00aa507b988aff7077d3cccfe9df4867554e8e066dc2bdbd7e7d3c22103fa", func := "snubber/snubberlaw01.WordShares", spec := "wordShares", unfollowed := true, recurses := true, apart := false }
def WordSharesSaid : Prop := wordSharesRow.holds Try.pinned (OpenSpec.ofChange wordSharesSpec)

/-- ITS FALSE NEIGHBOUR: 'it returns false'. Refute it at one input. -/
def wordSharesWrong : ChangeSpec := { name := "wordShares", fn := fun _ => fun
  | [d1, d2, d3] => { results := [.lit (.bool false)], args := [d1, d2, d3] }
  | _ => none }
def WordSharesWrongFalsely : Prop := wordSharesRow.holds Try.pinned (OpenSpec.ofChange wordSharesWrong)

/-- 'snubberlaw01.WordBits': WHATEVER THE INPUT: true; the input reads as it did. -/
def wordBitsSpec : ChangeSpec := { name := "wordBits", fn := fun _ => fun
  | [d] => { results := [.lit (.bool true)], args := [d] }
  | _ => none }
def wordBitsRow : OpenClaim := { program := "ytpcmfceoeflcoaa", sum := "1ba00aa507b988aff7077d3cccfe9df4867554e8e066dc2bdbd7e7d3c22103fa", func := "snubber/snubberlaw01.WordBits", spec := "wordBits", unfollowed := true, recurses := true, apart := false }
def WordBitsSaid : Prop := wordBitsRow.holds Try.pinned (OpenSpec.ofChange wordBitsSpec)

/-- ITS FALSE NEIGHBOUR: 'it returns false'. Refute it at one input. -/
def wordBitsWrong : ChangeSpec := { name := "wordBits", fn := fun _ => fun
  | [d] => { results := [.lit (.bool false)], args := [d] }
  | _ => none }
def WordBitsWrongFalsely : Prop := wordBitsRow.holds Try.pinned (OpenSpec.ofChange wordBitsWrong)

/-- 'snubberlaw01.WordBytes': WHATEVER THE INPUT: true; the input reads as it did. -/
def wordBytesSpec : ChangeSpec := { name := "wordBytes", fn := fun _ => fun
  | [d1, d2, d3] => { results := [.lit (.bool true)], args := [d1, d2, d3] }
  | _ => none }
def wordBytesRow : OpenClaim := { program := "ytpcmfceoeflcoaa", sum := "1ba00aa507b988aff7077d3cccfe9df4867554e8e066dc2bdbd7e7d3c22103fa", func := "snubber/snubberlaw01.WordBytes", spec := "wordBytes", unfollowed := true, recurses := true, apart := false }
def WordBytesSaid : Prop := wordBytesRow.holds Try.pinned (OpenSpec.ofChange wordBytesSpec)

/-- ITS FALSE NEIGHBOUR: 'it returns false'. Refute it at one input. -/
def wordBytesWrong : ChangeSpec := { name := "wordBytes", fn := fun _ => fun
  | [d1, d2, d3] => { results := [.lit (.bool false)], args := [d1, d2, d3] }
  | _ => none }
def WordBytesWrongFalsely : Prop := wordBytesRow.holds Try.pinned (OpenSpec.ofChange wordBytesWrong)

/-- 'snubberlaw01.WordBack': WHATEVER THE INPUT: true; the input reads as it did. -/
def wordBackSpec : ChangeSpec := { name := "wordBack", fn := fun _ => fun
  | [d1, d2] => { results := [.lit (.bool true)], args := [d1, d2] }
  | _ => none }
def wordBackRow : OpenClaim := { program := "ytpcmfceoeflcoaa", sum := "1ba00aa507b988aff7077d3cccfe9df4867554e8e066dc2bdbd7e7d3c22103fa", func := "snubber/snubberlaw01.WordBack", spec := "wordBack", unfollowed := true, recurses := true, apart := false }
def WordBackSaid : Prop := wordBackRow.holds Try.pinned (OpenSpec.ofChange wordBackSpec)

/-- ITS FALSE NEIGHBOUR: 'it returns false'. Refute it at one input. -/
def wordBackWrong : ChangeSpec := { name := "wordBack", fn := fun _ => fun
  | [d1, d2] => { results := [.lit (.bool false)], args := [d1, d2] }
  | _ => none }
def WordBackWrongFalsely : Prop := wordBackRow.holds Try.pinned (OpenSpec.ofChange wordBackWrong)

/- THE SECOND FORM. 'bulk': how many values and letters a reading holds, each counted each time it is reached (what is shared counts as often as it is met; a slice's spare places count too). A statement '..UptoSaid' is the law's where the arguments, and the package variables that the reading takes, are together of bulk at most 1048576: NARROWER than '..Said'. Prove '..Said' where nothing that the law and all that it calls make is longer than what came in: it says more and counts as full. Else prove '..UptoSaid'. A law counts once. -/
mutual
def uptoBulk {H : Type} : DataW H → Nat
  | .lit (.string bytes) => bytes.length + 1
  | .lit _ => 1
  | .nil => 1
  | .ptr d => uptoBulk d + 1
  | .slice elems spare => uptoBulkAll elems + uptoBulkAll spare + 1
  | .agg parts => uptoBulkAll parts + 1
  | .iface _ d => uptoBulk d + 1
  | .map entries => uptoBulkEntries entries + 1
  | .held _ => 1
def uptoBulkAll {H : Type} : List (DataW H) → Nat
  | [] => 0
  | d :: r => uptoBulk d + uptoBulkAll r
def uptoBulkEntries {H : Type} : List (Lit × DataW H) → Nat
  | [] => 0
  | x :: r => uptoBulkEntry x + uptoBulkEntries r
def uptoBulkEntry {H : Type} : Lit × DataW H → Nat
  | (.string bytes, d) => bytes.length + uptoBulk d + 1
  | (_, d) => uptoBulk d + 1
 end
def uptoSmall : (H : Type) → List (DataW H) → Bool := fun _ ds => decide (uptoBulkAll ds ≤ 1048576)
def OpenSpec.upto (s : _root_.Go.ChangeSpec) : _root_.Go.OpenSpec := { _root_.Go.OpenSpec.ofChange s with cond := some uptoSmall }

/-- 'snubberlaw01.WordParts', WHERE WHAT IT READS IS OF BULK AT MOST 1048576: true; the input reads as it did. -/
def wordPartsUptoRow : OpenClaim := { program := "ytpcmfceoeflcoaa", sum := "1ba00aa507b988aff7077d3cccfe9df4867554e8e066dc2bdbd7e7d3c22103fa", func := "snubber/snubberlaw01.WordParts", spec := "wordParts", unfollowed := true, recurses := true, apart := false, narrowed := true }
def WordPartsUptoSaid : Prop := wordPartsUptoRow.holds Try.pinned (OpenSpec.upto wordPartsSpec)

/-- 'snubberlaw01.WordPut', WHERE WHAT IT READS IS OF BULK AT MOST 1048576: true; the input reads as it did. -/
def wordPutUptoRow : OpenClaim := { program := "ytpcmfceoeflcoaa", sum := "1ba00aa507b988aff7077d3cccfe9df4867554e8e066dc2bdbd7e7d3c22103fa", func := "snubber/snubberlaw01.WordPut", spec := "wordPut", unfollowed := true, recurses := true, apart := false, narrowed := true }
def WordPutUptoSaid : Prop := wordPutUptoRow.holds Try.pinned (OpenSpec.upto wordPutSpec)

/-- 'snubberlaw01.WordTurns', WHERE WHAT IT READS IS OF BULK AT MOST 1048576: true; the input reads as it did. -/
def wordTurnsUptoRow : OpenClaim := { program := "ytpcmfceoeflcoaa", sum := "1ba00aa507b988aff7077d3cccfe9df4867554e8e066dc2bdbd7e7d3c22103fa", func := "snubber/snubberlaw01.WordTurns", spec := "wordTurns", unfollowed := true, recurses := true, apart := false, narrowed := true }
def WordTurnsUptoSaid : Prop := wordTurnsUptoRow.holds Try.pinned (OpenSpec.upto wordTurnsSpec)

/-- 'snubberlaw01.WordShares', WHERE WHAT IT READS IS OF BULK AT MOST 1048576: true; the input reads as it did. -/
def wordSharesUptoRow : OpenClaim := { program := "ytpcmfceoeflcoaa", sum := "1ba00aa507b988aff7077d3cccfe9df4867554e8e066dc2bdbd7e7d3c22103fa", func := "snubber/snubberlaw01.WordShares", spec := "wordShares", unfollowed := true, recurses := true, apart := false, narrowed := true }
def WordSharesUptoSaid : Prop := wordSharesUptoRow.holds Try.pinned (OpenSpec.upto wordSharesSpec)

/-- 'snubberlaw01.WordBits', WHERE WHAT IT READS IS OF BULK AT MOST 1048576: true; the input reads as it did. -/
def wordBitsUptoRow : OpenClaim := { program := "ytpcmfceoeflcoaa", sum := "1ba00aa507b988aff7077d3cccfe9df4867554e8e066dc2bdbd7e7d3c22103fa", func := "snubber/snubberlaw01.WordBits", spec := "wordBits", unfollowed := true, recurses := true, apart := false, narrowed := true }
def WordBitsUptoSaid : Prop := wordBitsUptoRow.holds Try.pinned (OpenSpec.upto wordBitsSpec)

/-- 'snubberlaw01.WordBytes', WHERE WHAT IT READS IS OF BULK AT MOST 1048576: true; the input reads as it did. -/
def wordBytesUptoRow : OpenClaim := { program := "ytpcmfceoeflcoaa", sum := "1ba00aa507b988aff7077d3cccfe9df4867554e8e066dc2bdbd7e7d3c22103fa", func := "snubber/snubberlaw01.WordBytes", spec := "wordBytes", unfollowed := true, recurses := true, apart := false, narrowed := true }
def WordBytesUptoSaid : Prop := wordBytesUptoRow.holds Try.pinned (OpenSpec.upto wordBytesSpec)

/-- 'snubberlaw01.WordBack', WHERE WHAT IT READS IS OF BULK AT MOST 1048576: true; the input reads as it did. -/
def wordBackUptoRow : OpenClaim := { program := "ytpcmfceoeflcoaa", sum := "1ba00aa507b988aff7077d3cccfe9df4867554e8e066dc2bdbd7e7d3c22103fa", func := "snubber/snubberlaw01.WordBack", spec := "wordBack", unfollowed := true, recurses := true, apart := false, narrowed := true }
def WordBackUptoSaid : Prop := wordBackUptoRow.holds Try.pinned (OpenSpec.upto wordBackSpec)

end Rows
end Go.Proofs.Ytpcmfceoeflcoaa
