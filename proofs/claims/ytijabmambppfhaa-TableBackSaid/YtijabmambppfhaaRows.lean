/-
  No cell of these rows narrows 'for every input' (looked for: loops, veiled, ifaces, maps, wideKeys, modest, calm, conditions, laid).
  DERIVED. THE GIVEN ROWS OF THIS SEAT. 11 by the template 'for every input the law returns true; each argument reads behind the call as it read before'; 0 by the template 'total and deterministic' (their statements: YtijabmambppfhaaTotals.lean).
  GIVEN WITH THE SEED: the statements are not yours to turn. If you find one false, say at which input.
  Laid BY PROGRAM, IN A SANDBOX (cutbox-rows.mjs): the forced cells as the released guide's own fill.sh prints them over the translation 7b1b961a7b60fd28… (all of the seat's roots in one cut). By AI agents, Wed Nov 11 2026. No macro, syntax, notation, axiom, sorry.
-/
import Derived.Test.YtijabmambppfhaaChecked
import GoSem.Claim
import GoSem.ClaimJoined
import GoSem.ClaimMapViews
import Derived.JoinedTies
import Derived.KernelRfl
namespace Go.Proofs.Ytijabmambppfhaa
/- THE CELL 'sum', in the pinned program and in every row, IS THE sha256 OF THE DUMP (.gsa) THAT YtijabmambppfhaaProg.lean LOADS. Nothing in Lean hashes anything: it is a label: what it is worth is what the hold of that sum in a sandbox is worth. -/
noncomputable def Try.pinned : Pinned := { name := "ytijabmambppfhaa", sum := "7b1b961a7b60fd2829fea8cc4ac7e9151cb63102984ae3786beb69149c6f247a", checked := Try.checked }
namespace Rows
def none {H : Type} : Left H := { results := [], args := [] }

/-- 'splicelaw05.TableApplies': WHATEVER THE INPUT: true; the input reads as it did. -/
def tableAppliesSpec : ChangeSpec := { name := "tableApplies", fn := fun _ => fun
  | [d1, d2, d3] => { results := [.lit (.bool true)], args := [d1, d2, d3] }
  | _ => none }
def tableAppliesRow : OpenClaim := { program := "ytijabmambppfhaa", sum := "7b1b961a7b60fd2829fea8cc4ac7e9151cb63102984ae3786beb69149c6f247a", func := "splice/splicelaw05.TableApplies", spec := "tableApplies", inPlace := ["slices.overlaps[splice/api.Pair]"], unfollowed := true, recurses := true, apart := false }
def TableAppliesSaid : Prop := tableAppliesRow.holds Try.pinned (OpenSpec.ofChange tableAppliesSpec)

/-- ITS FALSE NEIGHBOUR: 'it returns false'. Refute it at one input. -/
def tableAppliesWrong : ChangeSpec := { name := "tableApplies", fn := fun _ => fun
  | [d1, d2, d3] => { results := [.lit (.bool false)], args := [d1, d2, d3] }
  | _ => none }
def TableAppliesWrongFalsely : Prop := tableAppliesRow.holds Try.pinned (OpenSpec.ofChange tableAppliesWrong)

/-- 'splicelaw05.TableTwice': WHATEVER THE INPUT: true; the input reads as it did. -/
def tableTwiceSpec : ChangeSpec := { name := "tableTwice", fn := fun _ => fun
  | [d1, d2, d3] => { results := [.lit (.bool true)], args := [d1, d2, d3] }
  | _ => none }
def tableTwiceRow : OpenClaim := { program := "ytijabmambppfhaa", sum := "7b1b961a7b60fd2829fea8cc4ac7e9151cb63102984ae3786beb69149c6f247a", func := "splice/splicelaw05.TableTwice", spec := "tableTwice", inPlace := ["slices.overlaps[splice/api.Pair]"], unfollowed := true, recurses := true, apart := false }
def TableTwiceSaid : Prop := tableTwiceRow.holds Try.pinned (OpenSpec.ofChange tableTwiceSpec)

/-- ITS FALSE NEIGHBOUR: 'it returns false'. Refute it at one input. -/
def tableTwiceWrong : ChangeSpec := { name := "tableTwice", fn := fun _ => fun
  | [d1, d2, d3] => { results := [.lit (.bool false)], args := [d1, d2, d3] }
  | _ => none }
def TableTwiceWrongFalsely : Prop := tableTwiceRow.holds Try.pinned (OpenSpec.ofChange tableTwiceWrong)

/-- 'splicelaw05.TableChecks': WHATEVER THE INPUT: true; the input reads as it did. -/
def tableChecksSpec : ChangeSpec := { name := "tableChecks", fn := fun _ => fun
  | [d1, d2] => { results := [.lit (.bool true)], args := [d1, d2] }
  | _ => none }
def tableChecksRow : OpenClaim := { program := "ytijabmambppfhaa", sum := "7b1b961a7b60fd2829fea8cc4ac7e9151cb63102984ae3786beb69149c6f247a", func := "splice/splicelaw05.TableChecks", spec := "tableChecks", inPlace := ["slices.overlaps[splice/api.Pair]"], unfollowed := true, recurses := true, apart := false }
def TableChecksSaid : Prop := tableChecksRow.holds Try.pinned (OpenSpec.ofChange tableChecksSpec)

/-- ITS FALSE NEIGHBOUR: 'it returns false'. Refute it at one input. -/
def tableChecksWrong : ChangeSpec := { name := "tableChecks", fn := fun _ => fun
  | [d1, d2] => { results := [.lit (.bool false)], args := [d1, d2] }
  | _ => none }
def TableChecksWrongFalsely : Prop := tableChecksRow.holds Try.pinned (OpenSpec.ofChange tableChecksWrong)

/-- 'splicelaw05.TableKeys': WHATEVER THE INPUT: true; the input reads as it did. -/
def tableKeysSpec : ChangeSpec := { name := "tableKeys", fn := fun _ => fun
  | [d1, d2, d3] => { results := [.lit (.bool true)], args := [d1, d2, d3] }
  | _ => none }
def tableKeysRow : OpenClaim := { program := "ytijabmambppfhaa", sum := "7b1b961a7b60fd2829fea8cc4ac7e9151cb63102984ae3786beb69149c6f247a", func := "splice/splicelaw05.TableKeys", spec := "tableKeys", inPlace := ["slices.overlaps[splice/api.Pair]"], unfollowed := true, recurses := true, apart := false }
def TableKeysSaid : Prop := tableKeysRow.holds Try.pinned (OpenSpec.ofChange tableKeysSpec)

/-- ITS FALSE NEIGHBOUR: 'it returns false'. Refute it at one input. -/
def tableKeysWrong : ChangeSpec := { name := "tableKeys", fn := fun _ => fun
  | [d1, d2, d3] => { results := [.lit (.bool false)], args := [d1, d2, d3] }
  | _ => none }
def TableKeysWrongFalsely : Prop := tableKeysRow.holds Try.pinned (OpenSpec.ofChange tableKeysWrong)

/-- 'splicelaw05.TableFails': WHATEVER THE INPUT: true; the input reads as it did. -/
def tableFailsSpec : ChangeSpec := { name := "tableFails", fn := fun _ => fun
  | [d1, d2, d3] => { results := [.lit (.bool true)], args := [d1, d2, d3] }
  | _ => none }
def tableFailsRow : OpenClaim := { program := "ytijabmambppfhaa", sum := "7b1b961a7b60fd2829fea8cc4ac7e9151cb63102984ae3786beb69149c6f247a", func := "splice/splicelaw05.TableFails", spec := "tableFails", inPlace := ["slices.overlaps[splice/api.Pair]"], unfollowed := true, recurses := true, apart := false }
def TableFailsSaid : Prop := tableFailsRow.holds Try.pinned (OpenSpec.ofChange tableFailsSpec)

/-- ITS FALSE NEIGHBOUR: 'it returns false'. Refute it at one input. -/
def tableFailsWrong : ChangeSpec := { name := "tableFails", fn := fun _ => fun
  | [d1, d2, d3] => { results := [.lit (.bool false)], args := [d1, d2, d3] }
  | _ => none }
def TableFailsWrongFalsely : Prop := tableFailsRow.holds Try.pinned (OpenSpec.ofChange tableFailsWrong)

/-- 'splicelaw05.TableReads': WHATEVER THE INPUT: true; the input reads as it did. -/
def tableReadsSpec : ChangeSpec := { name := "tableReads", fn := fun _ => fun
  | [d1, d2] => { results := [.lit (.bool true)], args := [d1, d2] }
  | _ => none }
def tableReadsRow : OpenClaim := { program := "ytijabmambppfhaa", sum := "7b1b961a7b60fd2829fea8cc4ac7e9151cb63102984ae3786beb69149c6f247a", func := "splice/splicelaw05.TableReads", spec := "tableReads", inPlace := ["slices.overlaps[splice/api.Pair]", "internal/abi.NoEscape"], unfollowed := true, recurses := true, apart := false }
def TableReadsSaid : Prop := tableReadsRow.holds Try.pinned (OpenSpec.ofChange tableReadsSpec)

/-- ITS FALSE NEIGHBOUR: 'it returns false'. Refute it at one input. -/
def tableReadsWrong : ChangeSpec := { name := "tableReads", fn := fun _ => fun
  | [d1, d2] => { results := [.lit (.bool false)], args := [d1, d2] }
  | _ => none }
def TableReadsWrongFalsely : Prop := tableReadsRow.holds Try.pinned (OpenSpec.ofChange tableReadsWrong)

/-- 'splicelaw05.TableBack': WHATEVER THE INPUT: true; the input reads as it did. -/
def tableBackSpec : ChangeSpec := { name := "tableBack", fn := fun _ => fun
  | [d1, d2] => { results := [.lit (.bool true)], args := [d1, d2] }
  | _ => none }
def tableBackRow : OpenClaim := { program := "ytijabmambppfhaa", sum := "7b1b961a7b60fd2829fea8cc4ac7e9151cb63102984ae3786beb69149c6f247a", func := "splice/splicelaw05.TableBack", spec := "tableBack", inPlace := ["slices.overlaps[splice/api.Pair]", "internal/abi.NoEscape"], unfollowed := true, recurses := true, apart := false }
def TableBackSaid : Prop := tableBackRow.holds Try.pinned (OpenSpec.ofChange tableBackSpec)

/-- ITS FALSE NEIGHBOUR: 'it returns false'. Refute it at one input. -/
def tableBackWrong : ChangeSpec := { name := "tableBack", fn := fun _ => fun
  | [d1, d2] => { results := [.lit (.bool false)], args := [d1, d2] }
  | _ => none }
def TableBackWrongFalsely : Prop := tableBackRow.holds Try.pinned (OpenSpec.ofChange tableBackWrong)

/-- 'splicelaw05.TableClips': WHATEVER THE INPUT: true; the input reads as it did. -/
def tableClipsSpec : ChangeSpec := { name := "tableClips", fn := fun _ => fun
  | [d1, d2, d3] => { results := [.lit (.bool true)], args := [d1, d2, d3] }
  | _ => none }
def tableClipsRow : OpenClaim := { program := "ytijabmambppfhaa", sum := "7b1b961a7b60fd2829fea8cc4ac7e9151cb63102984ae3786beb69149c6f247a", func := "splice/splicelaw05.TableClips", spec := "tableClips", inPlace := ["slices.overlaps[splice/api.Pair]"], unfollowed := true, recurses := true, apart := false }
def TableClipsSaid : Prop := tableClipsRow.holds Try.pinned (OpenSpec.ofChange tableClipsSpec)

/-- ITS FALSE NEIGHBOUR: 'it returns false'. Refute it at one input. -/
def tableClipsWrong : ChangeSpec := { name := "tableClips", fn := fun _ => fun
  | [d1, d2, d3] => { results := [.lit (.bool false)], args := [d1, d2, d3] }
  | _ => none }
def TableClipsWrongFalsely : Prop := tableClipsRow.holds Try.pinned (OpenSpec.ofChange tableClipsWrong)

/-- 'splicelaw05.TableNone': WHATEVER THE INPUT: true; the input reads as it did. -/
def tableNoneSpec : ChangeSpec := { name := "tableNone", fn := fun _ => fun
  | [d1, d2, d3] => { results := [.lit (.bool true)], args := [d1, d2, d3] }
  | _ => none }
def tableNoneRow : OpenClaim := { program := "ytijabmambppfhaa", sum := "7b1b961a7b60fd2829fea8cc4ac7e9151cb63102984ae3786beb69149c6f247a", func := "splice/splicelaw05.TableNone", spec := "tableNone", inPlace := ["slices.overlaps[splice/api.Pair]"], unfollowed := true, recurses := true, apart := false }
def TableNoneSaid : Prop := tableNoneRow.holds Try.pinned (OpenSpec.ofChange tableNoneSpec)

/-- ITS FALSE NEIGHBOUR: 'it returns false'. Refute it at one input. -/
def tableNoneWrong : ChangeSpec := { name := "tableNone", fn := fun _ => fun
  | [d1, d2, d3] => { results := [.lit (.bool false)], args := [d1, d2, d3] }
  | _ => none }
def TableNoneWrongFalsely : Prop := tableNoneRow.holds Try.pinned (OpenSpec.ofChange tableNoneWrong)

/-- 'splicelaw05.TableFar': WHATEVER THE INPUT: true; the input reads as it did. -/
def tableFarSpec : ChangeSpec := { name := "tableFar", fn := fun _ => fun
  | [d1, d2, d3] => { results := [.lit (.bool true)], args := [d1, d2, d3] }
  | _ => none }
def tableFarRow : OpenClaim := { program := "ytijabmambppfhaa", sum := "7b1b961a7b60fd2829fea8cc4ac7e9151cb63102984ae3786beb69149c6f247a", func := "splice/splicelaw05.TableFar", spec := "tableFar", inPlace := ["slices.overlaps[splice/api.Pair]"], unfollowed := true, recurses := true, apart := false }
def TableFarSaid : Prop := tableFarRow.holds Try.pinned (OpenSpec.ofChange tableFarSpec)

/-- ITS FALSE NEIGHBOUR: 'it returns false'. Refute it at one input. -/
def tableFarWrong : ChangeSpec := { name := "tableFar", fn := fun _ => fun
  | [d1, d2, d3] => { results := [.lit (.bool false)], args := [d1, d2, d3] }
  | _ => none }
def TableFarWrongFalsely : Prop := tableFarRow.holds Try.pinned (OpenSpec.ofChange tableFarWrong)

/-- 'splicelaw05.TableParts': WHATEVER THE INPUT: true; the input reads as it did. -/
def tablePartsSpec : ChangeSpec := { name := "tableParts", fn := fun _ => fun
  | [d1, d2, d3] => { results := [.lit (.bool true)], args := [d1, d2, d3] }
  | _ => none }
def tablePartsRow : OpenClaim := { program := "ytijabmambppfhaa", sum := "7b1b961a7b60fd2829fea8cc4ac7e9151cb63102984ae3786beb69149c6f247a", func := "splice/splicelaw05.TableParts", spec := "tableParts", inPlace := ["slices.overlaps[splice/api.Pair]"], unfollowed := true, recurses := true, apart := false }
def TablePartsSaid : Prop := tablePartsRow.holds Try.pinned (OpenSpec.ofChange tablePartsSpec)

/-- ITS FALSE NEIGHBOUR: 'it returns false'. Refute it at one input. -/
def tablePartsWrong : ChangeSpec := { name := "tableParts", fn := fun _ => fun
  | [d1, d2, d3] => { results := [.lit (.bool false)], args := [d1, d2, d3] }
  | _ => none }
def TablePartsWrongFalsely : Prop := tablePartsRow.holds Try.pinned (OpenSpec.ofChange tablePartsWrong)

/- THE SECOND FORM. 'bulk': how many values and letters a reading holds, each counted each time it is reached (what is shared counts as often as it is met; a slice's spare places count too). A statement '..UptoSaid' is the law's where the arguments, and the package variables that the reading takes, are together of bulk at most 1048576: NARROWER than '..Said'. Prove '..Said' where nothing that the law and all that it calls make is longer than what came in: it says more and counts as full. Else prove '..UptoSaid'. A law counts once. -/
mutual
def uptoBulk {H : Type} : DataW H → Nat
  | .lit (.string bytes) => bytes.length + 1
  | .lit _ => 1
  | .nil => 1
  | .ptr d => uptoBulk d + 1
  | .slice elems spare => uptoBulkAll elems + uptoBulkAll spare + 1
  | .agg parts => uptoBulkAll parts + 1
  | .iface _ d => uptoBulk d + 1
  | .map entries => uptoBulkEntries entries + 1
  | .held _ => 1
def uptoBulkAll {H : Type} : List (DataW H) → Nat
  | [] => 0
  | d :: r => uptoBulk d + uptoBulkAll r
def uptoBulkEntries {H : Type} : List (Lit × DataW H) → Nat
  | [] => 0
  | x :: r => uptoBulkEntry x + uptoBulkEntries r
def uptoBulkEntry {H : Type} : Lit × DataW H → Nat
  | (.string bytes, d) => bytes.length + uptoBulk d + 1
  | (_, d) => uptoBulk d + 1
 end
def uptoSmall : (H : Type) → List (DataW H) → Bool := fun _ ds => decide (uptoBulkAll ds ≤ 1048576)
def OpenSpec.upto (s : _root_.Go.ChangeSpec) : _root_.Go.OpenSpec := { _root_.Go.OpenSpec.ofChange s with cond := some uptoSmall }

/-- 'splicelaw05.TableApplies', WHERE WHAT IT READS IS OF BULK AT MOST 1048576: true; the input reads as it did. -/
def tableAppliesUptoRow : OpenClaim := { program := "ytijabmambppfhaa", sum := "7b1b961a7b60fd2829fea8cc4ac7e9151cb63102984ae3786beb69149c6f247a", func := "splice/splicelaw05.TableApplies", spec := "tableApplies", inPlace := ["slices.overlaps[splice/api.Pair]"], unfollowed := true, recurses := true, apart := false, narrowed := true }
def TableAppliesUptoSaid : Prop := tableAppliesUptoRow.holds Try.pinned (OpenSpec.upto tableAppliesSpec)

/-- 'splicelaw05.TableTwice', WHERE WHAT IT READS IS OF BULK AT MOST 1048576: true; the input reads as it did. -/
def tableTwiceUptoRow : OpenClaim := { program := "ytijabmambppfhaa", sum := "7b1b961a7b60fd2829fea8cc4ac7e9151cb63102984ae3786beb69149c6f247a", func := "splice/splicelaw05.TableTwice", spec := "tableTwice", inPlace := ["slices.overlaps[splice/api.Pair]"], unfollowed := true, recurses := true, apart := false, narrowed := true }
def TableTwiceUptoSaid : Prop := tableTwiceUptoRow.holds Try.pinned (OpenSpec.upto tableTwiceSpec)

/-- 'splicelaw05.TableChecks', WHERE WHAT IT READS IS OF BULK AT MOST 1048576: true; the input reads as it did. -/
def tableChecksUptoRow : OpenClaim := { program := "ytijabmambppfhaa", sum := "7b1b961a7b60fd2829fea8cc4ac7e9151cb63102984ae3786beb69149c6f247a", func := "splice/splicelaw05.TableChecks", spec := "tableChecks", inPlace := ["slices.overlaps[splice/api.Pair]"], unfollowed := true, recurses := true, apart := false, narrowed := true }
def TableChecksUptoSaid : Prop := tableChecksUptoRow.holds Try.pinned (OpenSpec.upto tableChecksSpec)

/-- 'splicelaw05.TableKeys', WHERE WHAT IT READS IS OF BULK AT MOST 1048576: true; the input reads as it did. -/
def tableKeysUptoRow : OpenClaim := { program := "ytijabmambppfhaa", sum := "7b1b961a7b60fd2829fea8cc4ac7e9151cb63102984ae3786beb69149c6f247a", func := "splice/splicelaw05.TableKeys", spec := "tableKeys", inPlace := ["slices.overlaps[splice/api.Pair]"], unfollowed := true, recurses := true, apart := false, narrowed := true }
def TableKeysUptoSaid : Prop := tableKeysUptoRow.holds Try.pinned (OpenSpec.upto tableKeysSpec)

/-- 'splicelaw05.TableFails', WHERE WHAT IT READS IS OF BULK AT MOST 1048576: true; the input reads as it did. -/
def tableFailsUptoRow : OpenClaim := { program := "ytijabmambppfhaa", sum := "7b1b961a7b60fd2829fea8cc4ac7e9151cb63102984ae3786beb69149c6f247a", func := "splice/splicelaw05.TableFails", spec := "tableFails", inPlace := ["slices.overlaps[splice/api.Pair]"], unfollowed := true, recurses := true, apart := false, narrowed := true }
def TableFailsUptoSaid : Prop := tableFailsUptoRow.holds Try.pinned (OpenSpec.upto tableFailsSpec)

/-- 'splicelaw05.TableReads', WHERE WHAT IT READS IS OF BULK AT MOST 1048576: true; the input reads as it did. -/
def tableReadsUptoRow : OpenClaim := { program := "ytijabmambppfhaa", sum := "7b1b961a7b60fd2829fea8cc4ac7e9151cb63102984ae3786beb69149c6f247a", func := "splice/splicelaw05.TableReads", spec := "tableReads", inPlace := ["slices.overlaps[splice/api.Pair]", "internal/abi.NoEscape"], unfollowed := true, recurses := true, apart := false, narrowed := true }
def TableReadsUptoSaid : Prop := tableReadsUptoRow.holds Try.pinned (OpenSpec.upto tableReadsSpec)

/-- 'splicelaw05.TableBack', WHERE WHAT IT READS IS OF BULK AT MOST 1048576: true; the input reads as it did. -/
def tableBackUptoRow : OpenClaim := { program := "ytijabmambppfhaa", sum := "7b1b961a7b60fd2829fea8cc4ac7e9151cb63102984ae3786beb69149c6f247a", func := "splice/splicelaw05.TableBack", spec := "tableBack", inPlace := ["slices.overlaps[splice/api.Pair]", "internal/abi.NoEscape"], unfollowed := true, recurses := true, apart := false, narrowed := true }
def TableBackUptoSaid : Prop := tableBackUptoRow.holds Try.pinned (OpenSpec.upto tableBackSpec)

/-- 'splicelaw05.TableClips', WHERE WHAT IT READS IS OF BULK AT MOST 1048576: true; the input reads as it did. -/
def tableClipsUptoRow : OpenClaim := { program := "ytijabmambppfhaa", sum := "7b1b961a7b60fd2829fea8cc4ac7e9151cb63102984ae3786beb69149c6f247a", func := "splice/splicelaw05.TableClips", spec := "tableClips", inPlace := ["slices.overlaps[splice/api.Pair]"], unfollowed := true, recurses := true, apart := false, narrowed := true }
def TableClipsUptoSaid : Prop := tableClipsUptoRow.holds Try.pinned (OpenSpec.upto tableClipsSpec)

/-- 'splicelaw05.TableNone', WHERE WHAT IT READS IS OF BULK AT MOST 1048576: true; the input reads as it did. -/
def tableNoneUptoRow : OpenClaim := { program := "ytijabmambppfhaa", sum := "7b1b961a7b60fd2829fea8cc4ac7e9151cb63102984ae3786beb69149c6f247a", func := "splice/splicelaw05.TableNone", spec := "tableNone", inPlace := ["slices.overlaps[splice/api.Pair]"], unfollowed := true, recurses := true, apart := false, narrowed := true }
def TableNoneUptoSaid : Prop := tableNoneUptoRow.holds Try.pinned (OpenSpec.upto tableNoneSpec)

/-- 'splicelaw05.TableFar', WHERE WHAT IT READS IS OF BULK AT MOST 1048576: true; the input reads as it did. -/
def tableFarUptoRow : OpenClaim := { program := "ytijabmambppfhaa", sum := "7b1b961a7b60fd2829fea8cc4ac7e9151cb63102984ae3786beb69149c6f247a", func := "splice/splicelaw05.TableFar", spec := "tableFar", inPlace := ["slices.overlaps[splice/api.Pair]"], unfollowed := true, recurses := true, apart := false, narrowed := true }
def TableFarUptoSaid : Prop := tableFarUptoRow.holds Try.pinned (OpenSpec.upto tableFarSpec)

/-- 'splicelaw05.TableParts', WHERE WHAT IT READS IS OF BULK AT MOST 1048576: true; the input reads as it did. -/
def tablePartsUptoRow : OpenClaim := { program := "ytijabmambppfhaa", sum := "7b1b961a7b60fd2829fea8cc4ac7e9151cb63102984ae3786beb69149c6f247a", func := "splice/splicelaw05.TableParts", spec := "tableParts", inPlace := ["slices.overlaps[splice/api.Pair]"], unfollowed := true, recurses := true, apart := false, narrowed := true }
def TablePartsUptoSaid : Prop := tablePartsUptoRow.holds Try.pinned (OpenSpec.upto tablePartsSpec)

end Rows
end Go.Proofs.Ytijabmambppfhaa
