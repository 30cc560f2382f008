/-
  No cell of these rows narrows 'for every input' (looked for: loops, veiled, ifaces, maps, wideKeys, modest, calm, conditions, laid).
  DERIVED. THE GIVEN ROWS OF THIS SEAT. 10 by the template 'for every input the law returns true; each argument reads behind the call as it read before'; 0 by the template 'total and deterministic' (their statements: YtaomhedjamnloaaTotals.lean).
  GIVEN WITH THE SEED: the statements are not yours to turn. If you find one false, say at which input.
  Laid BY PROGRAM, IN A SANDBOX (cutbox-rows.mjs): the forced cells as the released guide's own fill.sh prints them over the translation 97e490e2d43128d1… (all of the seat's roots in one cut). By AI agents, Wed Nov 11 2026. No macro, syntax, notation, axiom, sorry.
-/
import Derived.Test.YtaomhedjamnloaaChecked
import GoSem.Claim
import GoSem.ClaimJoined
import GoSem.ClaimMapViews
import Derived.JoinedTies
import Derived.KernelRfl
namespace Go.Proofs.Ytaomhedjamnloaa
/- THE CELL 'sum', in the pinned program and in every row, IS THE sha256 OF THE DUMP (.gsa) THAT YtaomhedjamnloaaProg.lean LOADS. Nothing in Lean hashes anything: it is a label: what it is worth is what the hold of that sum in a sandbox is worth. -/
noncomputable def Try.pinned : Pinned := { name := "ytaomhedjamnloaa", sum := "97e490e2d43128d1a4fefeea5b345073c7f96b8b906de77a000ef1a4622a9a76", checked := Try.checked }
namespace Rows
def none {H : Type} : Left H := { results := [], args := [] }

/-- 'towpathlaw03.RecMarks': WHATEVER THE INPUT: true; the input reads as it did. -/
def recMarksSpec : ChangeSpec := { name := "recMarks", fn := fun _ => fun
  | [d1, d2, d3, d4] => { results := [.lit (.bool true)], args := [d1, d2, d3, d4] }
  | _ => none }
def recMarksRow : OpenClaim := { program := "ytaomhedjamnloaa", sum := "97e490e2d43128d1a4fefeea5b345073c7f96b8b906de77a000ef1a4622a9a76", func := "towpath/towpathlaw03.RecMarks", spec := "recMarks", apart := false }
def RecMarksSaid : Prop := recMarksRow.holds Try.pinned (OpenSpec.ofChange recMarksSpec)

/-- ITS FALSE NEIGHBOUR: 'it returns false'. Refute it at one input. -/
def recMarksWrong : ChangeSpec := { name := "recMarks", fn := fun _ => fun
  | [d1, d2, d3, d4] => { results := [.lit (.bool false)], args := [d1, d2, d3, d4] }
  | _ => none }
def RecMarksWrongFalsely : Prop := recMarksRow.holds Try.pinned (OpenSpec.ofChange recMarksWrong)

/-- 'towpathlaw03.RecReads': WHATEVER THE INPUT: true; the input reads as it did. -/
def recReadsSpec : ChangeSpec := { name := "recReads", fn := fun _ => fun
  | [d1, d2, d3, d4] => { results := [.lit (.bool true)], args := [d1, d2, d3, d4] }
  | _ => none }
def recReadsRow : OpenClaim := { program := "ytaomhedjamnloaa", sum := "97e490e2d43128d1a4fefeea5b345073c7f96b8b906de77a000ef1a4622a9a76", func := "towpath/towpathlaw03.RecReads", spec := "recReads", recurses := true, apart := false }
def RecReadsSaid : Prop := recReadsRow.holds Try.pinned (OpenSpec.ofChange recReadsSpec)

/-- ITS FALSE NEIGHBOUR: 'it returns false'. Refute it at one input. -/
def recReadsWrong : ChangeSpec := { name := "recReads", fn := fun _ => fun
  | [d1, d2, d3, d4] => { results := [.lit (.bool false)], args := [d1, d2, d3, d4] }
  | _ => none }
def RecReadsWrongFalsely : Prop := recReadsRow.holds Try.pinned (OpenSpec.ofChange recReadsWrong)

/-- 'towpathlaw03.RecValid': WHATEVER THE INPUT: true; the input reads as it did. -/
def recValidSpec : ChangeSpec := { name := "recValid", fn := fun _ => fun
  | [d] => { results := [.lit (.bool true)], args := [d] }
  | _ => none }
def recValidRow : OpenClaim := { program := "ytaomhedjamnloaa", sum := "97e490e2d43128d1a4fefeea5b345073c7f96b8b906de77a000ef1a4622a9a76", func := "towpath/towpathlaw03.RecValid", spec := "recValid", apart := false }
def RecValidSaid : Prop := recValidRow.holds Try.pinned (OpenSpec.ofChange recValidSpec)

/-- ITS FALSE NEIGHBOUR: 'it returns false'. Refute it at one input. -/
def recValidWrong : ChangeSpec := { name := "recValid", fn := fun _ => fun
  | [d] => { results := [.lit (.bool false)], args := [d] }
  | _ => none }
def RecValidWrongFalsely : Prop := recValidRow.holds Try.pinned (OpenSpec.ofChange recValidWrong)

/-- 'towpathlaw03.RecBytes': WHATEVER THE INPUT: true; the input reads as it did. -/
def recBytesSpec : ChangeSpec := { name := "recBytes", fn := fun _ => fun
  | [d] => { results := [.lit (.bool true)], args := [d] }
  | _ => none }
def recBytesRow : OpenClaim := { program := "ytaomhedjamnloaa", sum := "97e490e2d43128d1a4fefeea5b345073c7f96b8b906de77a000ef1a4622a9a76", func := "towpath/towpathlaw03.RecBytes", spec := "recBytes", recurses := true, apart := false }
def RecBytesSaid : Prop := recBytesRow.holds Try.pinned (OpenSpec.ofChange recBytesSpec)

/-- ITS FALSE NEIGHBOUR: 'it returns false'. Refute it at one input. -/
def recBytesWrong : ChangeSpec := { name := "recBytes", fn := fun _ => fun
  | [d] => { results := [.lit (.bool false)], args := [d] }
  | _ => none }
def RecBytesWrongFalsely : Prop := recBytesRow.holds Try.pinned (OpenSpec.ofChange recBytesWrong)

/-- 'towpathlaw03.RecOne': WHATEVER THE INPUT: true; the input reads as it did. -/
def recOneSpec : ChangeSpec := { name := "recOne", fn := fun _ => fun
  | [d1, d2] => { results := [.lit (.bool true)], args := [d1, d2] }
  | _ => none }
def recOneRow : OpenClaim := { program := "ytaomhedjamnloaa", sum := "97e490e2d43128d1a4fefeea5b345073c7f96b8b906de77a000ef1a4622a9a76", func := "towpath/towpathlaw03.RecOne", spec := "recOne", apart := false }
def RecOneSaid : Prop := recOneRow.holds Try.pinned (OpenSpec.ofChange recOneSpec)

/-- ITS FALSE NEIGHBOUR: 'it returns false'. Refute it at one input. -/
def recOneWrong : ChangeSpec := { name := "recOne", fn := fun _ => fun
  | [d1, d2] => { results := [.lit (.bool false)], args := [d1, d2] }
  | _ => none }
def RecOneWrongFalsely : Prop := recOneRow.holds Try.pinned (OpenSpec.ofChange recOneWrong)

/-- 'towpathlaw03.RecMerges': WHATEVER THE INPUT: true; the input reads as it did. -/
def recMergesSpec : ChangeSpec := { name := "recMerges", fn := fun _ => fun
  | [d1, d2] => { results := [.lit (.bool true)], args := [d1, d2] }
  | _ => none }
def recMergesRow : OpenClaim := { program := "ytaomhedjamnloaa", sum := "97e490e2d43128d1a4fefeea5b345073c7f96b8b906de77a000ef1a4622a9a76", func := "towpath/towpathlaw03.RecMerges", spec := "recMerges", apart := false }
def RecMergesSaid : Prop := recMergesRow.holds Try.pinned (OpenSpec.ofChange recMergesSpec)

/-- ITS FALSE NEIGHBOUR: 'it returns false'. Refute it at one input. -/
def recMergesWrong : ChangeSpec := { name := "recMerges", fn := fun _ => fun
  | [d1, d2] => { results := [.lit (.bool false)], args := [d1, d2] }
  | _ => none }
def RecMergesWrongFalsely : Prop := recMergesRow.holds Try.pinned (OpenSpec.ofChange recMergesWrong)

/-- 'towpathlaw03.RecFroms': WHATEVER THE INPUT: true; the input reads as it did. -/
def recFromsSpec : ChangeSpec := { name := "recFroms", fn := fun _ => fun
  | [d1, d2] => { results := [.lit (.bool true)], args := [d1, d2] }
  | _ => none }
def recFromsRow : OpenClaim := { program := "ytaomhedjamnloaa", sum := "97e490e2d43128d1a4fefeea5b345073c7f96b8b906de77a000ef1a4622a9a76", func := "towpath/towpathlaw03.RecFroms", spec := "recFroms", apart := false }
def RecFromsSaid : Prop := recFromsRow.holds Try.pinned (OpenSpec.ofChange recFromsSpec)

/-- ITS FALSE NEIGHBOUR: 'it returns false'. Refute it at one input. -/
def recFromsWrong : ChangeSpec := { name := "recFroms", fn := fun _ => fun
  | [d1, d2] => { results := [.lit (.bool false)], args := [d1, d2] }
  | _ => none }
def RecFromsWrongFalsely : Prop := recFromsRow.holds Try.pinned (OpenSpec.ofChange recFromsWrong)

/-- 'towpathlaw03.RecSplits': WHATEVER THE INPUT: true; the input reads as it did. -/
def recSplitsSpec : ChangeSpec := { name := "recSplits", fn := fun _ => fun
  | [d1, d2] => { results := [.lit (.bool true)], args := [d1, d2] }
  | _ => none }
def recSplitsRow : OpenClaim := { program := "ytaomhedjamnloaa", sum := "97e490e2d43128d1a4fefeea5b345073c7f96b8b906de77a000ef1a4622a9a76", func := "towpath/towpathlaw03.RecSplits", spec := "recSplits", apart := false }
def RecSplitsSaid : Prop := recSplitsRow.holds Try.pinned (OpenSpec.ofChange recSplitsSpec)

/-- ITS FALSE NEIGHBOUR: 'it returns false'. Refute it at one input. -/
def recSplitsWrong : ChangeSpec := { name := "recSplits", fn := fun _ => fun
  | [d1, d2] => { results := [.lit (.bool false)], args := [d1, d2] }
  | _ => none }
def RecSplitsWrongFalsely : Prop := recSplitsRow.holds Try.pinned (OpenSpec.ofChange recSplitsWrong)

/-- 'towpathlaw05.IndexBytes': WHATEVER THE INPUT: true; the input reads as it did. -/
def indexBytesSpec : ChangeSpec := { name := "indexBytes", fn := fun _ => fun
  | [d1, d2, d3, d4] => { results := [.lit (.bool true)], args := [d1, d2, d3, d4] }
  | _ => none }
def indexBytesRow : OpenClaim := { program := "ytaomhedjamnloaa", sum := "97e490e2d43128d1a4fefeea5b345073c7f96b8b906de77a000ef1a4622a9a76", func := "towpath/towpathlaw05.IndexBytes", spec := "indexBytes", unfollowed := true, recurses := true, apart := false }
def IndexBytesSaid : Prop := indexBytesRow.holds Try.pinned (OpenSpec.ofChange indexBytesSpec)

/-- ITS FALSE NEIGHBOUR: 'it returns false'. Refute it at one input. -/
def indexBytesWrong : ChangeSpec := { name := "indexBytes", fn := fun _ => fun
  | [d1, d2, d3, d4] => { results := [.lit (.bool false)], args := [d1, d2, d3, d4] }
  | _ => none }
def IndexBytesWrongFalsely : Prop := indexBytesRow.holds Try.pinned (OpenSpec.ofChange indexBytesWrong)

/-- 'towpathlaw05.IndexPlays': WHATEVER THE INPUT: true; the input reads as it did. -/
def indexPlaysSpec : ChangeSpec := { name := "indexPlays", fn := fun _ => fun
  | [d1, d2] => { results := [.lit (.bool true)], args := [d1, d2] }
  | _ => none }
def indexPlaysRow : OpenClaim := { program := "ytaomhedjamnloaa", sum := "97e490e2d43128d1a4fefeea5b345073c7f96b8b906de77a000ef1a4622a9a76", func := "towpath/towpathlaw05.IndexPlays", spec := "indexPlays", unfollowed := true, recurses := true, apart := false }
def IndexPlaysSaid : Prop := indexPlaysRow.holds Try.pinned (OpenSpec.ofChange indexPlaysSpec)

/-- ITS FALSE NEIGHBOUR: 'it returns false'. Refute it at one input. -/
def indexPlaysWrong : ChangeSpec := { name := "indexPlays", fn := fun _ => fun
  | [d1, d2] => { results := [.lit (.bool false)], args := [d1, d2] }
  | _ => none }
def IndexPlaysWrongFalsely : Prop := indexPlaysRow.holds Try.pinned (OpenSpec.ofChange indexPlaysWrong)

/- THE SECOND FORM. 'bulk': how many values and letters a reading holds, each counted each time it is reached (what is shared counts as often as it is met; a slice's spare places count too). A statement '..UptoSaid' is the law's where the arguments, and the package variables that the reading takes, are together of bulk at most 1048576: NARROWER than '..Said'. Prove '..Said' where nothing that the law and all that it calls make is longer than what came in: it says more and counts as full. Else prove '..UptoSaid'. A law counts once. -/
mutual
def uptoBulk {H : Type} : DataW H → Nat
  | .lit (.string bytes) => bytes.length + 1
  | .lit _ => 1
  | .nil => 1
  | .ptr d => uptoBulk d + 1
  | .slice elems spare => uptoBulkAll elems + uptoBulkAll spare + 1
  | .agg parts => uptoBulkAll parts + 1
  | .iface _ d => uptoBulk d + 1
  | .map entries => uptoBulkEntries entries + 1
  | .held _ => 1
def uptoBulkAll {H : Type} : List (DataW H) → Nat
  | [] => 0
  | d :: r => uptoBulk d + uptoBulkAll r
def uptoBulkEntries {H : Type} : List (Lit × DataW H) → Nat
  | [] => 0
  | x :: r => uptoBulkEntry x + uptoBulkEntries r
def uptoBulkEntry {H : Type} : Lit × DataW H → Nat
  | (.string bytes, d) => bytes.length + uptoBulk d + 1
  | (_, d) => uptoBulk d + 1
 end
def uptoSmall : (H : Type) → List (DataW H) → Bool := fun _ ds => decide (uptoBulkAll ds ≤ 1048576)
def OpenSpec.upto (s : _root_.Go.ChangeSpec) : _root_.Go.OpenSpec := { _root_.Go.OpenSpec.ofChange s with cond := some uptoSmall }

/-- 'towpathlaw03.RecMarks', WHERE WHAT IT READS IS OF BULK AT MOST 1048576: true; the input reads as it did. -/
def recMarksUptoRow : OpenClaim := { program := "ytaomhedjamnloaa", sum := "97e490e2d43128d1a4fefeea5b345073c7f96b8b906de77a000ef1a4622a9a76", func := "towpath/towpathlaw03.RecMarks", spec := "recMarks", apart := false, narrowed := true }
def RecMarksUptoSaid : Prop := recMarksUptoRow.holds Try.pinned (OpenSpec.upto recMarksSpec)

/-- 'towpathlaw03.RecReads', WHERE WHAT IT READS IS OF BULK AT MOST 1048576: true; the input reads as it did. -/
def recReadsUptoRow : OpenClaim := { program := "ytaomhedjamnloaa", sum := "97e490e2d43128d1a4fefeea5b345073c7f96b8b906de77a000ef1a4622a9a76", func := "towpath/towpathlaw03.RecReads", spec := "recReads", recurses := true, apart := false, narrowed := true }
def RecReadsUptoSaid : Prop := recReadsUptoRow.holds Try.pinned (OpenSpec.upto recReadsSpec)

/-- 'towpathlaw03.RecValid', WHERE WHAT IT READS IS OF BULK AT MOST 1048576: true; the input reads as it did. -/
def recValidUptoRow : OpenClaim := { program := "ytaomhedjamnloaa", sum := "97e490e2d43128d1a4fefeea5b345073c7f96b8b906de77a000ef1a4622a9a76", func := "towpath/towpathlaw03.RecValid", spec := "recValid", apart := false, narrowed := true }
def RecValidUptoSaid : Prop := recValidUptoRow.holds Try.pinned (OpenSpec.upto recValidSpec)

/-- 'towpathlaw03.RecBytes', WHERE WHAT IT READS IS OF BULK AT MOST 1048576: true; the input reads as it did. -/
def recBytesUptoRow : OpenClaim := { program := "ytaomhedjamnloaa", sum := "97e490e2d43128d1a4fefeea5b345073c7f96b8b906de77a000ef1a4622a9a76", func := "towpath/towpathlaw03.RecBytes", spec := "recBytes", recurses := true, apart := false, narrowed := true }
def RecBytesUptoSaid : Prop := recBytesUptoRow.holds Try.pinned (OpenSpec.upto recBytesSpec)

/-- 'towpathlaw03.RecOne', WHERE WHAT IT READS IS OF BULK AT MOST 1048576: true; the input reads as it did. -/
def recOneUptoRow : OpenClaim := { program := "ytaomhedjamnloaa", sum := "97e490e2d43128d1a4fefeea5b345073c7f96b8b906de77a000ef1a4622a9a76", func := "towpath/towpathlaw03.RecOne", spec := "recOne", apart := false, narrowed := true }
def RecOneUptoSaid : Prop := recOneUptoRow.holds Try.pinned (OpenSpec.upto recOneSpec)

/-- 'towpathlaw03.RecMerges', WHERE WHAT IT READS IS OF BULK AT MOST 1048576: true; the input reads as it did. -/
def recMergesUptoRow : OpenClaim := { program := "ytaomhedjamnloaa", sum := "97e490e2d43128d1a4fefeea5b345073c7f96b8b906de77a000ef1a4622a9a76", func := "towpath/towpathlaw03.RecMerges", spec := "recMerges", apart := false, narrowed := true }
def RecMergesUptoSaid : Prop := recMergesUptoRow.holds Try.pinned (OpenSpec.upto recMergesSpec)

/-- 'towpathlaw03.RecFroms', WHERE WHAT IT READS IS OF BULK AT MOST 1048576: true; the input reads as it did. -/
def recFromsUptoRow : OpenClaim := { program := "ytaomhedjamnloaa", sum := "97e490e2d43128d1a4fefeea5b345073c7f96b8b906de77a000ef1a4622a9a76", func := "towpath/towpathlaw03.RecFroms", spec := "recFroms", apart := false, narrowed := true }
def RecFromsUptoSaid : Prop := recFromsUptoRow.holds Try.pinned (OpenSpec.upto recFromsSpec)

/-- 'towpathlaw03.RecSplits', WHERE WHAT IT READS IS OF BULK AT MOST 1048576: true; the input reads as it did. -/
def recSplitsUptoRow : OpenClaim := { program := "ytaomhedjamnloaa", sum := "97e490e2d43128d1a4fefeea5b345073c7f96b8b906de77a000ef1a4622a9a76", func := "towpath/towpathlaw03.RecSplits", spec := "recSplits", apart := false, narrowed := true }
def RecSplitsUptoSaid : Prop := recSplitsUptoRow.holds Try.pinned (OpenSpec.upto recSplitsSpec)

/-- 'towpathlaw05.IndexBytes', WHERE WHAT IT READS IS OF BULK AT MOST 1048576: true; the input reads as it did. -/
def indexBytesUptoRow : OpenClaim := { program := "ytaomhedjamnloaa", sum := "97e490e2d43128d1a4fefeea5b345073c7f96b8b906de77a000ef1a4622a9a76", func := "towpath/towpathlaw05.IndexBytes", spec := "indexBytes", unfollowed := true, recurses := true, apart := false, narrowed := true }
def IndexBytesUptoSaid : Prop := indexBytesUptoRow.holds Try.pinned (OpenSpec.upto indexBytesSpec)

/-- 'towpathlaw05.IndexPlays', WHERE WHAT IT READS IS OF BULK AT MOST 1048576: true; the input reads as it did. -/
def indexPlaysUptoRow : OpenClaim := { program := "ytaomhedjamnloaa", sum := "97e490e2d43128d1a4fefeea5b345073c7f96b8b906de77a000ef1a4622a9a76", func := "towpath/towpathlaw05.IndexPlays", spec := "indexPlays", unfollowed := true, recurses := true, apart := false, narrowed := true }
def IndexPlaysUptoSaid : Prop := indexPlaysUptoRow.holds Try.pinned (OpenSpec.upto indexPlaysSpec)

end Rows
end Go.Proofs.Ytaomhedjamnloaa
