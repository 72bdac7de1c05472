/-
  No cell of these rows narrows 'for every input' (looked for: loops, veiled, ifaces, maps, wideKeys, modest, calm, conditions, laid).
  DERIVED. THE GIVEN ROWS OF THIS SEAT. 9 by the template 'for every input the law returns true; each argument reads behind the call as it read before'; 0 by the template 'total and deterministic' (their statements: YtbhipajnkkjceaaTotals.lean).
  GIVEN WITH THE SEED: the statements are not yours to turn. If you find one false, say at which input.
  Laid BY PROGRAM, IN A SANDBOX (cutbox-rows.mjs): the forced cells as the released guide's own fill.sh prints them over the translation 462d992d63739cdb… (all of the seat's roots in one cut). By AI agents, Wed Nov 11 2026. No macro, syntax, notation, axiom, sorry.
-/
import Derived.Test.YtbhipajnkkjceaaChecked
import GoSem.Claim
import GoSem.ClaimJoined
import GoSem.ClaimMapViews
import Derived.JoinedTies
import Derived.KernelRfl
namespace Go.Proofs.Ytbhipajnkkjceaa
/- THE CELL 'sum', in the pinned program and in every row, IS THE sha256 OF THE DUMP (.gsa) THAT YtbhipajnkkjceaaProg.lean LOADS. Nothing in Lean hashes anything: it is a label: what it is worth is what the hold of that sum in a sandbox is worth. -/
noncomputable def Try.pinned : Pinned := { name := "ytbhipajnkkjceaa", sum := "462d992d63739cdb9404245afa31fc0638e64ba6e0448969450a49da6dec95e2", checked := Try.checked }
namespace Rows
def none {H : Type} : Left H := { results := [], args := [] }

/-- 'splicelaw04.MutTexts': WHATEVER THE INPUT: true; the input reads as it did. -/
def mutTextsSpec : ChangeSpec := { name := "mutTexts", fn := fun _ => fun
  | [d] => { results := [.lit (.bool true)], args := [d] }
  | _ => none }
def mutTextsRow : OpenClaim := { program := "ytbhipajnkkjceaa", sum := "462d992d63739cdb9404245afa31fc0638e64ba6e0448969450a49da6dec95e2", func := "splice/splicelaw04.MutTexts", spec := "mutTexts", inPlace := ["internal/abi.NoEscape"], unfollowed := true, recurses := true, apart := false }
def MutTextsSaid : Prop := mutTextsRow.holds Try.pinned (OpenSpec.ofChange mutTextsSpec)

/-- ITS FALSE NEIGHBOUR: 'it returns false'. Refute it at one input. -/
def mutTextsWrong : ChangeSpec := { name := "mutTexts", fn := fun _ => fun
  | [d] => { results := [.lit (.bool false)], args := [d] }
  | _ => none }
def MutTextsWrongFalsely : Prop := mutTextsRow.holds Try.pinned (OpenSpec.ofChange mutTextsWrong)

/-- 'splicelaw04.MutChecks': WHATEVER THE INPUT: true; the input reads as it did. -/
def mutChecksSpec : ChangeSpec := { name := "mutChecks", fn := fun _ => fun
  | [d] => { results := [.lit (.bool true)], args := [d] }
  | _ => none }
def mutChecksRow : OpenClaim := { program := "ytbhipajnkkjceaa", sum := "462d992d63739cdb9404245afa31fc0638e64ba6e0448969450a49da6dec95e2", func := "splice/splicelaw04.MutChecks", spec := "mutChecks", inPlace := ["internal/abi.NoEscape"], unfollowed := true, recurses := true, apart := false }
def MutChecksSaid : Prop := mutChecksRow.holds Try.pinned (OpenSpec.ofChange mutChecksSpec)

/-- ITS FALSE NEIGHBOUR: 'it returns false'. Refute it at one input. -/
def mutChecksWrong : ChangeSpec := { name := "mutChecks", fn := fun _ => fun
  | [d] => { results := [.lit (.bool false)], args := [d] }
  | _ => none }
def MutChecksWrongFalsely : Prop := mutChecksRow.holds Try.pinned (OpenSpec.ofChange mutChecksWrong)

/-- 'splicelaw04.MutOrder': WHATEVER THE INPUT: true; the input reads as it did. -/
def mutOrderSpec : ChangeSpec := { name := "mutOrder", fn := fun _ => fun
  | [d1, d2, d3] => { results := [.lit (.bool true)], args := [d1, d2, d3] }
  | _ => none }
def mutOrderRow : OpenClaim := { program := "ytbhipajnkkjceaa", sum := "462d992d63739cdb9404245afa31fc0638e64ba6e0448969450a49da6dec95e2", func := "splice/splicelaw04.MutOrder", spec := "mutOrder", inPlace := ["internal/abi.NoEscape"], unfollowed := true, recurses := true, apart := false }
def MutOrderSaid : Prop := mutOrderRow.holds Try.pinned (OpenSpec.ofChange mutOrderSpec)

/-- ITS FALSE NEIGHBOUR: 'it returns false'. Refute it at one input. -/
def mutOrderWrong : ChangeSpec := { name := "mutOrder", fn := fun _ => fun
  | [d1, d2, d3] => { results := [.lit (.bool false)], args := [d1, d2, d3] }
  | _ => none }
def MutOrderWrongFalsely : Prop := mutOrderRow.holds Try.pinned (OpenSpec.ofChange mutOrderWrong)

/-- 'splicelaw04.MutApart': WHATEVER THE INPUT: true; the input reads as it did. -/
def mutApartSpec : ChangeSpec := { name := "mutApart", fn := fun _ => fun
  | [d1, d2] => { results := [.lit (.bool true)], args := [d1, d2] }
  | _ => none }
def mutApartRow : OpenClaim := { program := "ytbhipajnkkjceaa", sum := "462d992d63739cdb9404245afa31fc0638e64ba6e0448969450a49da6dec95e2", func := "splice/splicelaw04.MutApart", spec := "mutApart", inPlace := ["internal/abi.NoEscape"], unfollowed := true, recurses := true, apart := false }
def MutApartSaid : Prop := mutApartRow.holds Try.pinned (OpenSpec.ofChange mutApartSpec)

/-- ITS FALSE NEIGHBOUR: 'it returns false'. Refute it at one input. -/
def mutApartWrong : ChangeSpec := { name := "mutApart", fn := fun _ => fun
  | [d1, d2] => { results := [.lit (.bool false)], args := [d1, d2] }
  | _ => none }
def MutApartWrongFalsely : Prop := mutApartRow.holds Try.pinned (OpenSpec.ofChange mutApartWrong)

/-- 'splicelaw04.MutStamps': WHATEVER THE INPUT: true; the input reads as it did. -/
def mutStampsSpec : ChangeSpec := { name := "mutStamps", fn := fun _ => fun
  | [d1, d2, d3] => { results := [.lit (.bool true)], args := [d1, d2, d3] }
  | _ => none }
def mutStampsRow : OpenClaim := { program := "ytbhipajnkkjceaa", sum := "462d992d63739cdb9404245afa31fc0638e64ba6e0448969450a49da6dec95e2", func := "splice/splicelaw04.MutStamps", spec := "mutStamps", inPlace := ["internal/abi.NoEscape"], unfollowed := true, recurses := true, apart := false }
def MutStampsSaid : Prop := mutStampsRow.holds Try.pinned (OpenSpec.ofChange mutStampsSpec)

/-- ITS FALSE NEIGHBOUR: 'it returns false'. Refute it at one input. -/
def mutStampsWrong : ChangeSpec := { name := "mutStamps", fn := fun _ => fun
  | [d1, d2, d3] => { results := [.lit (.bool false)], args := [d1, d2, d3] }
  | _ => none }
def MutStampsWrongFalsely : Prop := mutStampsRow.holds Try.pinned (OpenSpec.ofChange mutStampsWrong)

/-- 'splicelaw04.MutNear': WHATEVER THE INPUT: true; the input reads as it did. -/
def mutNearSpec : ChangeSpec := { name := "mutNear", fn := fun _ => fun
  | [d1, d2, d3] => { results := [.lit (.bool true)], args := [d1, d2, d3] }
  | _ => none }
def mutNearRow : OpenClaim := { program := "ytbhipajnkkjceaa", sum := "462d992d63739cdb9404245afa31fc0638e64ba6e0448969450a49da6dec95e2", func := "splice/splicelaw04.MutNear", spec := "mutNear", inPlace := ["internal/abi.NoEscape"], unfollowed := true, recurses := true, apart := false }
def MutNearSaid : Prop := mutNearRow.holds Try.pinned (OpenSpec.ofChange mutNearSpec)

/-- ITS FALSE NEIGHBOUR: 'it returns false'. Refute it at one input. -/
def mutNearWrong : ChangeSpec := { name := "mutNear", fn := fun _ => fun
  | [d1, d2, d3] => { results := [.lit (.bool false)], args := [d1, d2, d3] }
  | _ => none }
def MutNearWrongFalsely : Prop := mutNearRow.holds Try.pinned (OpenSpec.ofChange mutNearWrong)

/-- 'splicelaw04.MutTouches': WHATEVER THE INPUT: true; the input reads as it did. -/
def mutTouchesSpec : ChangeSpec := { name := "mutTouches", fn := fun _ => fun
  | [d1, d2] => { results := [.lit (.bool true)], args := [d1, d2] }
  | _ => none }
def mutTouchesRow : OpenClaim := { program := "ytbhipajnkkjceaa", sum := "462d992d63739cdb9404245afa31fc0638e64ba6e0448969450a49da6dec95e2", func := "splice/splicelaw04.MutTouches", spec := "mutTouches", inPlace := ["internal/abi.NoEscape"], unfollowed := true, recurses := true, apart := false }
def MutTouchesSaid : Prop := mutTouchesRow.holds Try.pinned (OpenSpec.ofChange mutTouchesSpec)

/-- ITS FALSE NEIGHBOUR: 'it returns false'. Refute it at one input. -/
def mutTouchesWrong : ChangeSpec := { name := "mutTouches", fn := fun _ => fun
  | [d1, d2] => { results := [.lit (.bool false)], args := [d1, d2] }
  | _ => none }
def MutTouchesWrongFalsely : Prop := mutTouchesRow.holds Try.pinned (OpenSpec.ofChange mutTouchesWrong)

/-- 'splicelaw04.MutReads': WHATEVER THE INPUT: true; the input reads as it did. -/
def mutReadsSpec : ChangeSpec := { name := "mutReads", fn := fun _ => fun
  | [d] => { results := [.lit (.bool true)], args := [d] }
  | _ => none }
def mutReadsRow : OpenClaim := { program := "ytbhipajnkkjceaa", sum := "462d992d63739cdb9404245afa31fc0638e64ba6e0448969450a49da6dec95e2", func := "splice/splicelaw04.MutReads", spec := "mutReads", inPlace := ["internal/abi.NoEscape"], unfollowed := true, recurses := true, apart := false }
def MutReadsSaid : Prop := mutReadsRow.holds Try.pinned (OpenSpec.ofChange mutReadsSpec)

/-- ITS FALSE NEIGHBOUR: 'it returns false'. Refute it at one input. -/
def mutReadsWrong : ChangeSpec := { name := "mutReads", fn := fun _ => fun
  | [d] => { results := [.lit (.bool false)], args := [d] }
  | _ => none }
def MutReadsWrongFalsely : Prop := mutReadsRow.holds Try.pinned (OpenSpec.ofChange mutReadsWrong)

/-- 'splicelaw04.MutBack': WHATEVER THE INPUT: true; the input reads as it did. -/
def mutBackSpec : ChangeSpec := { name := "mutBack", fn := fun _ => fun
  | [d1, d2] => { results := [.lit (.bool true)], args := [d1, d2] }
  | _ => none }
def mutBackRow : OpenClaim := { program := "ytbhipajnkkjceaa", sum := "462d992d63739cdb9404245afa31fc0638e64ba6e0448969450a49da6dec95e2", func := "splice/splicelaw04.MutBack", spec := "mutBack", inPlace := ["internal/abi.NoEscape"], unfollowed := true, recurses := true, apart := false }
def MutBackSaid : Prop := mutBackRow.holds Try.pinned (OpenSpec.ofChange mutBackSpec)

/-- ITS FALSE NEIGHBOUR: 'it returns false'. Refute it at one input. -/
def mutBackWrong : ChangeSpec := { name := "mutBack", fn := fun _ => fun
  | [d1, d2] => { results := [.lit (.bool false)], args := [d1, d2] }
  | _ => none }
def MutBackWrongFalsely : Prop := mutBackRow.holds Try.pinned (OpenSpec.ofChange mutBackWrong)

/- THE SECOND FORM. 'bulk': how many values and letters a reading holds, each counted each time it is reached (what is shared counts as often as it is met; a slice's spare places count too). A statement '..UptoSaid' is the law's where the arguments, and the package variables that the reading takes, are together of bulk at most 1048576: NARROWER than '..Said'. Prove '..Said' where nothing that the law and all that it calls make is longer than what came in: it says more and counts as full. Else prove '..UptoSaid'. A law counts once. -/
mutual
def uptoBulk {H : Type} : DataW H → Nat
  | .lit (.string bytes) => bytes.length + 1
  | .lit _ => 1
  | .nil => 1
  | .ptr d => uptoBulk d + 1
  | .slice elems spare => uptoBulkAll elems + uptoBulkAll spare + 1
  | .agg parts => uptoBulkAll parts + 1
  | .iface _ d => uptoBulk d + 1
  | .map entries => uptoBulkEntries entries + 1
  | .held _ => 1
def uptoBulkAll {H : Type} : List (DataW H) → Nat
  | [] => 0
  | d :: r => uptoBulk d + uptoBulkAll r
def uptoBulkEntries {H : Type} : List (Lit × DataW H) → Nat
  | [] => 0
  | x :: r => uptoBulkEntry x + uptoBulkEntries r
def uptoBulkEntry {H : Type} : Lit × DataW H → Nat
  | (.string bytes, d) => bytes.length + uptoBulk d + 1
  | (_, d) => uptoBulk d + 1
 end
def uptoSmall : (H : Type) → List (DataW H) → Bool := fun _ ds => decide (uptoBulkAll ds ≤ 1048576)
def OpenSpec.upto (s : _root_.Go.ChangeSpec) : _root_.Go.OpenSpec := { _root_.Go.OpenSpec.ofChange s with cond := some uptoSmall }

/-- 'splicelaw04.MutTexts', WHERE WHAT IT READS IS OF BULK AT MOST 1048576: true; the input reads as it did. -/
def mutTextsUptoRow : OpenClaim := { program := "ytbhipajnkkjceaa", sum := "462d992d63739cdb9404245afa31fc0638e64ba6e0448969450a49da6dec95e2", func := "splice/splicelaw04.MutTexts", spec := "mutTexts", inPlace := ["internal/abi.NoEscape"], unfollowed := true, recurses := true, apart := false, narrowed := true }
def MutTextsUptoSaid : Prop := mutTextsUptoRow.holds Try.pinned (OpenSpec.upto mutTextsSpec)

/-- 'splicelaw04.MutChecks', WHERE WHAT IT READS IS OF BULK AT MOST 1048576: true; the input reads as it did. -/
def mutChecksUptoRow : OpenClaim := { program := "ytbhipajnkkjceaa", sum := "462d992d63739cdb9404245afa31fc0638e64ba6e0448969450a49da6dec95e2", func := "splice/splicelaw04.MutChecks", spec := "mutChecks", inPlace := ["internal/abi.NoEscape"], unfollowed := true, recurses := true, apart := false, narrowed := true }
def MutChecksUptoSaid : Prop := mutChecksUptoRow.holds Try.pinned (OpenSpec.upto mutChecksSpec)

/-- 'splicelaw04.MutOrder', WHERE WHAT IT READS IS OF BULK AT MOST 1048576: true; the input reads as it did. -/
def mutOrderUptoRow : OpenClaim := { program := "ytbhipajnkkjceaa", sum := "462d992d63739cdb9404245afa31fc0638e64ba6e0448969450a49da6dec95e2", func := "splice/splicelaw04.MutOrder", spec := "mutOrder", inPlace := ["internal/abi.NoEscape"], unfollowed := true, recurses := true, apart := false, narrowed := true }
def MutOrderUptoSaid : Prop := mutOrderUptoRow.holds Try.pinned (OpenSpec.upto mutOrderSpec)

/-- 'splicelaw04.MutApart', WHERE WHAT IT READS IS OF BULK AT MOST 1048576: true; the input reads as it did. -/
def mutApartUptoRow : OpenClaim := { program := "ytbhipajnkkjceaa", sum := "462d992d63739cdb9404245afa31fc0638e64ba6e0448969450a49da6dec95e2", func := "splice/splicelaw04.MutApart", spec := "mutApart", inPlace := ["internal/abi.NoEscape"], unfollowed := true, recurses := true, apart := false, narrowed := true }
def MutApartUptoSaid : Prop := mutApartUptoRow.holds Try.pinned (OpenSpec.upto mutApartSpec)

/-- 'splicelaw04.MutStamps', WHERE WHAT IT READS IS OF BULK AT MOST 1048576: true; the input reads as it did. -/
def mutStampsUptoRow : OpenClaim := { program := "ytbhipajnkkjceaa", sum := "462d992d63739cdb9404245afa31fc0638e64ba6e0448969450a49da6dec95e2", func := "splice/splicelaw04.MutStamps", spec := "mutStamps", inPlace := ["internal/abi.NoEscape"], unfollowed := true, recurses := true, apart := false, narrowed := true }
def MutStampsUptoSaid : Prop := mutStampsUptoRow.holds Try.pinned (OpenSpec.upto mutStampsSpec)

/-- 'splicelaw04.MutNear', WHERE WHAT IT READS IS OF BULK AT MOST 1048576: true; the input reads as it did. -/
def mutNearUptoRow : OpenClaim := { program := "ytbhipajnkkjceaa", sum := "462d992d63739cdb9404245afa31fc0638e64ba6e0448969450a49da6dec95e2", func := "splice/splicelaw04.MutNear", spec := "mutNear", inPlace := ["internal/abi.NoEscape"], unfollowed := true, recurses := true, apart := false, narrowed := true }
def MutNearUptoSaid : Prop := mutNearUptoRow.holds Try.pinned (OpenSpec.upto mutNearSpec)

/-- 'splicelaw04.MutTouches', WHERE WHAT IT READS IS OF BULK AT MOST 1048576: true; the input reads as it did. -/
def mutTouchesUptoRow : OpenClaim := { program := "ytbhipajnkkjceaa", sum := "462d992d63739cdb9404245afa31fc0638e64ba6e0448969450a49da6dec95e2", func := "splice/splicelaw04.MutTouches", spec := "mutTouches", inPlace := ["internal/abi.NoEscape"], unfollowed := true, recurses := true, apart := false, narrowed := true }
def MutTouchesUptoSaid : Prop := mutTouchesUptoRow.holds Try.pinned (OpenSpec.upto mutTouchesSpec)

/-- 'splicelaw04.MutReads', WHERE WHAT IT READS IS OF BULK AT MOST 1048576: true; the input reads as it did. -/
def mutReadsUptoRow : OpenClaim := { program := "ytbhipajnkkjceaa", sum := "462d992d63739cdb9404245afa31fc0638e64ba6e0448969450a49da6dec95e2", func := "splice/splicelaw04.MutReads", spec := "mutReads", inPlace := ["internal/abi.NoEscape"], unfollowed := true, recurses := true, apart := false, narrowed := true }
def MutReadsUptoSaid : Prop := mutReadsUptoRow.holds Try.pinned (OpenSpec.upto mutReadsSpec)

/-- 'splicelaw04.MutBack', WHERE WHAT IT READS IS OF BULK AT MOST 1048576: true; the input reads as it did. -/
def mutBackUptoRow : OpenClaim := { program := "ytbhipajnkkjceaa", sum := "462d992d63739cdb9404245afa31fc0638e64ba6e0448969450a49da6dec95e2", func := "splice/splicelaw04.MutBack", spec := "mutBack", inPlace := ["internal/abi.NoEscape"], unfollowed := true, recurses := true, apart := false, narrowed := true }
def MutBackUptoSaid : Prop := mutBackUptoRow.holds Try.pinned (OpenSpec.upto mutBackSpec)

end Rows
end Go.Proofs.Ytbhipajnkkjceaa
