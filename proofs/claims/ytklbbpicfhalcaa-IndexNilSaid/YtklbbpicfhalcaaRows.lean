/-
  No cell of these rows narrows 'for every input' (looked for: loops, veiled, ifaces, maps, wideKeys, modest, calm, conditions, laid).
  DERIVED. THE GIVEN ROWS OF THIS SEAT. 7 by the template 'for every input the law returns true; each argument reads behind the call as it read before'; 0 by the template 'total and deterministic' (their statements: YtklbbpicfhalcaaTotals.lean).
  GIVEN WITH THE SEED: the statements are not yours to turn. If you find one false, say at which input.
  Laid BY PROGRAM, IN A SANDBOX (cutbox-rows.mjs): the forced cells as the released guide's own fill.sh prints them over the translation e12eabaa6715158e… (all of the seat's roots in one cut). By AI agents, Wed Nov 11 2026. No macro, syntax, notation, axiom, sorry.
-/
import Derived.Test.YtklbbpicfhalcaaChecked
import GoSem.Claim
import GoSem.ClaimJoined
import GoSem.ClaimMapViews
import Derived.JoinedTies
import Derived.KernelRfl
namespace Go.Proofs.Ytklbbpicfhalcaa
/- THE CELL 'sum', in the pinned program and in every row, IS THE sha256 OF THE DUMP (.gsa) THAT YtklbbpicfhalcaaProg.lean LOADS. Nothing in Lean hashes anything: it is a label: what it is worth is what the hold of that sum in a sandbox is worth. -/
noncomputable def Try.pinned : Pinned := { name := "ytklbbpicfhalcaa", sum := "e12eabaa6715158edc22855135e5acf67ac59f91969ca9e6de292919f936cfba", checked := Try.checked }
namespace Rows
def none {H : Type} : Left H := { results := [], args := [] }

/-- 'towpathlaw05.IndexNews': WHATEVER THE INPUT: true; the input reads as it did. -/
def indexNewsSpec : ChangeSpec := { name := "indexNews", fn := fun _ => fun
  | [d1, d2] => { results := [.lit (.bool true)], args := [d1, d2] }
  | _ => none }
def indexNewsRow : OpenClaim := { program := "ytklbbpicfhalcaa", sum := "e12eabaa6715158edc22855135e5acf67ac59f91969ca9e6de292919f936cfba", func := "towpath/towpathlaw05.IndexNews", spec := "indexNews", unfollowed := true, recurses := true, apart := false }
def IndexNewsSaid : Prop := indexNewsRow.holds Try.pinned (OpenSpec.ofChange indexNewsSpec)

/-- ITS FALSE NEIGHBOUR: 'it returns false'. Refute it at one input. -/
def indexNewsWrong : ChangeSpec := { name := "indexNews", fn := fun _ => fun
  | [d1, d2] => { results := [.lit (.bool false)], args := [d1, d2] }
  | _ => none }
def IndexNewsWrongFalsely : Prop := indexNewsRow.holds Try.pinned (OpenSpec.ofChange indexNewsWrong)

/-- 'towpathlaw05.IndexNear': WHATEVER THE INPUT: true; the input reads as it did. -/
def indexNearSpec : ChangeSpec := { name := "indexNear", fn := fun _ => fun
  | [d1, d2] => { results := [.lit (.bool true)], args := [d1, d2] }
  | _ => none }
def indexNearRow : OpenClaim := { program := "ytklbbpicfhalcaa", sum := "e12eabaa6715158edc22855135e5acf67ac59f91969ca9e6de292919f936cfba", func := "towpath/towpathlaw05.IndexNear", spec := "indexNear", unfollowed := true, recurses := true, apart := false }
def IndexNearSaid : Prop := indexNearRow.holds Try.pinned (OpenSpec.ofChange indexNearSpec)

/-- ITS FALSE NEIGHBOUR: 'it returns false'. Refute it at one input. -/
def indexNearWrong : ChangeSpec := { name := "indexNear", fn := fun _ => fun
  | [d1, d2] => { results := [.lit (.bool false)], args := [d1, d2] }
  | _ => none }
def IndexNearWrongFalsely : Prop := indexNearRow.holds Try.pinned (OpenSpec.ofChange indexNearWrong)

/-- 'towpathlaw05.IndexTimes': WHATEVER THE INPUT: true; the input reads as it did. -/
def indexTimesSpec : ChangeSpec := { name := "indexTimes", fn := fun _ => fun
  | [d1, d2, d3, d4] => { results := [.lit (.bool true)], args := [d1, d2, d3, d4] }
  | _ => none }
def indexTimesRow : OpenClaim := { program := "ytklbbpicfhalcaa", sum := "e12eabaa6715158edc22855135e5acf67ac59f91969ca9e6de292919f936cfba", func := "towpath/towpathlaw05.IndexTimes", spec := "indexTimes", unfollowed := true, recurses := true, apart := false }
def IndexTimesSaid : Prop := indexTimesRow.holds Try.pinned (OpenSpec.ofChange indexTimesSpec)

/-- ITS FALSE NEIGHBOUR: 'it returns false'. Refute it at one input. -/
def indexTimesWrong : ChangeSpec := { name := "indexTimes", fn := fun _ => fun
  | [d1, d2, d3, d4] => { results := [.lit (.bool false)], args := [d1, d2, d3, d4] }
  | _ => none }
def IndexTimesWrongFalsely : Prop := indexTimesRow.holds Try.pinned (OpenSpec.ofChange indexTimesWrong)

/-- 'towpathlaw05.IndexCuts': WHATEVER THE INPUT: true; the input reads as it did. -/
def indexCutsSpec : ChangeSpec := { name := "indexCuts", fn := fun _ => fun
  | [d1, d2, d3] => { results := [.lit (.bool true)], args := [d1, d2, d3] }
  | _ => none }
def indexCutsRow : OpenClaim := { program := "ytklbbpicfhalcaa", sum := "e12eabaa6715158edc22855135e5acf67ac59f91969ca9e6de292919f936cfba", func := "towpath/towpathlaw05.IndexCuts", spec := "indexCuts", unfollowed := true, recurses := true, apart := false }
def IndexCutsSaid : Prop := indexCutsRow.holds Try.pinned (OpenSpec.ofChange indexCutsSpec)

/-- ITS FALSE NEIGHBOUR: 'it returns false'. Refute it at one input. -/
def indexCutsWrong : ChangeSpec := { name := "indexCuts", fn := fun _ => fun
  | [d1, d2, d3] => { results := [.lit (.bool false)], args := [d1, d2, d3] }
  | _ => none }
def IndexCutsWrongFalsely : Prop := indexCutsRow.holds Try.pinned (OpenSpec.ofChange indexCutsWrong)

/-- 'towpathlaw05.IndexNil': WHATEVER THE INPUT: true; the input reads as it did. -/
def indexNilSpec : ChangeSpec := { name := "indexNil", fn := fun _ => fun
  | [d1, d2, d3] => { results := [.lit (.bool true)], args := [d1, d2, d3] }
  | _ => none }
def indexNilRow : OpenClaim := { program := "ytklbbpicfhalcaa", sum := "e12eabaa6715158edc22855135e5acf67ac59f91969ca9e6de292919f936cfba", func := "towpath/towpathlaw05.IndexNil", spec := "indexNil", unfollowed := true, recurses := true, apart := false }
def IndexNilSaid : Prop := indexNilRow.holds Try.pinned (OpenSpec.ofChange indexNilSpec)

/-- ITS FALSE NEIGHBOUR: 'it returns false'. Refute it at one input. -/
def indexNilWrong : ChangeSpec := { name := "indexNil", fn := fun _ => fun
  | [d1, d2, d3] => { results := [.lit (.bool false)], args := [d1, d2, d3] }
  | _ => none }
def IndexNilWrongFalsely : Prop := indexNilRow.holds Try.pinned (OpenSpec.ofChange indexNilWrong)

/-- 'towpathlaw05.IndexBytes': WHATEVER THE INPUT: true; the input reads as it did. -/
def indexBytesSpec : ChangeSpec := { name := "indexBytes", fn := fun _ => fun
  | [d1, d2, d3, d4] => { results := [.lit (.bool true)], args := [d1, d2, d3, d4] }
  | _ => none }
def indexBytesRow : OpenClaim := { program := "ytklbbpicfhalcaa", sum := "e12eabaa6715158edc22855135e5acf67ac59f91969ca9e6de292919f936cfba", func := "towpath/towpathlaw05.IndexBytes", spec := "indexBytes", unfollowed := true, recurses := true, apart := false }
def IndexBytesSaid : Prop := indexBytesRow.holds Try.pinned (OpenSpec.ofChange indexBytesSpec)

/-- ITS FALSE NEIGHBOUR: 'it returns false'. Refute it at one input. -/
def indexBytesWrong : ChangeSpec := { name := "indexBytes", fn := fun _ => fun
  | [d1, d2, d3, d4] => { results := [.lit (.bool false)], args := [d1, d2, d3, d4] }
  | _ => none }
def IndexBytesWrongFalsely : Prop := indexBytesRow.holds Try.pinned (OpenSpec.ofChange indexBytesWrong)

/-- 'towpathlaw05.IndexPlays': WHATEVER THE INPUT: true; the input reads as it did. -/
def indexPlaysSpec : ChangeSpec := { name := "indexPlays", fn := fun _ => fun
  | [d1, d2] => { results := [.lit (.bool true)], args := [d1, d2] }
  | _ => none }
def indexPlaysRow : OpenClaim := { program := "ytklbbpicfhalcaa", sum := "e12eabaa6715158edc22855135e5acf67ac59f91969ca9e6de292919f936cfba", func := "towpath/towpathlaw05.IndexPlays", spec := "indexPlays", unfollowed := true, recurses := true, apart := false }
def IndexPlaysSaid : Prop := indexPlaysRow.holds Try.pinned (OpenSpec.ofChange indexPlaysSpec)

/-- ITS FALSE NEIGHBOUR: 'it returns false'. Refute it at one input. -/
def indexPlaysWrong : ChangeSpec := { name := "indexPlays", fn := fun _ => fun
  | [d1, d2] => { results := [.lit (.bool false)], args := [d1, d2] }
  | _ => none }
def IndexPlaysWrongFalsely : Prop := indexPlaysRow.holds Try.pinned (OpenSpec.ofChange indexPlaysWrong)

/- THE SECOND FORM. 'bulk': how many values and letters a reading holds, each counted each time it is reached (what is shared counts as often as it is met; a slice's spare places count too). A statement '..UptoSaid' is the law's where the arguments, and the package variables that the reading takes, are together of bulk at most 1048576: NARROWER than '..Said'. Prove '..Said' where nothing that the law and all that it calls make is longer than what came in: it says more and counts as full. Else prove '..UptoSaid'. A law counts once. -/
mutual
def uptoBulk {H : Type} : DataW H → Nat
  | .lit (.string bytes) => bytes.length + 1
  | .lit _ => 1
  | .nil => 1
  | .ptr d => uptoBulk d + 1
  | .slice elems spare => uptoBulkAll elems + uptoBulkAll spare + 1
  | .agg parts => uptoBulkAll parts + 1
  | .iface _ d => uptoBulk d + 1
  | .map entries => uptoBulkEntries entries + 1
  | .held _ => 1
def uptoBulkAll {H : Type} : List (DataW H) → Nat
  | [] => 0
  | d :: r => uptoBulk d + uptoBulkAll r
def uptoBulkEntries {H : Type} : List (Lit × DataW H) → Nat
  | [] => 0
  | x :: r => uptoBulkEntry x + uptoBulkEntries r
def uptoBulkEntry {H : Type} : Lit × DataW H → Nat
  | (.string bytes, d) => bytes.length + uptoBulk d + 1
  | (_, d) => uptoBulk d + 1
 end
def uptoSmall : (H : Type) → List (DataW H) → Bool := fun _ ds => decide (uptoBulkAll ds ≤ 1048576)
def OpenSpec.upto (s : _root_.Go.ChangeSpec) : _root_.Go.OpenSpec := { _root_.Go.OpenSpec.ofChange s with cond := some uptoSmall }

/-- 'towpathlaw05.IndexNews', WHERE WHAT IT READS IS OF BULK AT MOST 1048576: true; the input reads as it did. -/
def indexNewsUptoRow : OpenClaim := { program := "ytklbbpicfhalcaa", sum := "e12eabaa6715158edc22855135e5acf67ac59f91969ca9e6de292919f936cfba", func := "towpath/towpathlaw05.IndexNews", spec := "indexNews", unfollowed := true, recurses := true, apart := false, narrowed := true }
def IndexNewsUptoSaid : Prop := indexNewsUptoRow.holds Try.pinned (OpenSpec.upto indexNewsSpec)

/-- 'towpathlaw05.IndexNear', WHERE WHAT IT READS IS OF BULK AT MOST 1048576: true; the input reads as it did. -/
def indexNearUptoRow : OpenClaim := { program := "ytklbbpicfhalcaa", sum := "e12eabaa6715158edc22855135e5acf67ac59f91969ca9e6de292919f936cfba", func := "towpath/towpathlaw05.IndexNear", spec := "indexNear", unfollowed := true, recurses := true, apart := false, narrowed := true }
def IndexNearUptoSaid : Prop := indexNearUptoRow.holds Try.pinned (OpenSpec.upto indexNearSpec)

/-- 'towpathlaw05.IndexTimes', WHERE WHAT IT READS IS OF BULK AT MOST 1048576: true; the input reads as it did. -/
def indexTimesUptoRow : OpenClaim := { program := "ytklbbpicfhalcaa", sum := "e12eabaa6715158edc22855135e5acf67ac59f91969ca9e6de292919f936cfba", func := "towpath/towpathlaw05.IndexTimes", spec := "indexTimes", unfollowed := true, recurses := true, apart := false, narrowed := true }
def IndexTimesUptoSaid : Prop := indexTimesUptoRow.holds Try.pinned (OpenSpec.upto indexTimesSpec)

/-- 'towpathlaw05.IndexCuts', WHERE WHAT IT READS IS OF BULK AT MOST 1048576: true; the input reads as it did. -/
def indexCutsUptoRow : OpenClaim := { program := "ytklbbpicfhalcaa", sum := "e12eabaa6715158edc22855135e5acf67ac59f91969ca9e6de292919f936cfba", func := "towpath/towpathlaw05.IndexCuts", spec := "indexCuts", unfollowed := true, recurses := true, apart := false, narrowed := true }
def IndexCutsUptoSaid : Prop := indexCutsUptoRow.holds Try.pinned (OpenSpec.upto indexCutsSpec)

/-- 'towpathlaw05.IndexNil', WHERE WHAT IT READS IS OF BULK AT MOST 1048576: true; the input reads as it did. -/
def indexNilUptoRow : OpenClaim := { program := "ytklbbpicfhalcaa", sum := "e12eabaa6715158edc22855135e5acf67ac59f91969ca9e6de292919f936cfba", func := "towpath/towpathlaw05.IndexNil", spec := "indexNil", unfollowed := true, recurses := true, apart := false, narrowed := true }
def IndexNilUptoSaid : Prop := indexNilUptoRow.holds Try.pinned (OpenSpec.upto indexNilSpec)

/-- 'towpathlaw05.IndexBytes', WHERE WHAT IT READS IS OF BULK AT MOST 1048576: true; the input reads as it did. -/
def indexBytesUptoRow : OpenClaim := { program := "ytklbbpicfhalcaa", sum := "e12eabaa6715158edc22855135e5acf67ac59f91969ca9e6de292919f936cfba", func := "towpath/towpathlaw05.IndexBytes", spec := "indexBytes", unfollowed := true, recurses := true, apart := false, narrowed := true }
def IndexBytesUptoSaid : Prop := indexBytesUptoRow.holds Try.pinned (OpenSpec.upto indexBytesSpec)

/-- 'towpathlaw05.IndexPlays', WHERE WHAT IT READS IS OF BULK AT MOST 1048576: true; the input reads as it did. -/
def indexPlaysUptoRow : OpenClaim := { program := "ytklbbpicfhalcaa", sum := "e12eabaa6715158edc22855135e5acf67ac59f91969ca9e6de292919f936cfba", func := "towpath/towpathlaw05.IndexPlays", spec := "indexPlays", unfollowed := true, recurses := true, apart := false, narrowed := true }
def IndexPlaysUptoSaid : Prop := indexPlaysUptoRow.holds Try.pinned (OpenSpec.upto indexPlaysSpec)

end Rows
end Go.Proofs.Ytklbbpicfhalcaa
