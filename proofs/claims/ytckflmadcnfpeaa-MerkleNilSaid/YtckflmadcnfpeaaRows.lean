/-
  No cell of these rows narrows 'for every input' (looked for: loops, veiled, ifaces, maps, wideKeys, modest, calm, conditions, laid).
  DERIVED. THE GIVEN ROWS OF THIS SEAT. 7 by the template 'for every input the law returns true; each argument reads behind the call as it read before'; 0 by the template 'total and deterministic' (their statements: YtckflmadcnfpeaaTotals.lean).
  GIVEN WITH THE SEED: the statements are not yours to turn. If you find one false, say at which input.
  Laid BY PROGRAM, IN A SANDBOX (cutbox-rows.mjs): the forced cells as the released guide's own fill.sh prints them over the translation 68480fd72adf55dc… (all of the seat's roots in one cut). By AI agents, Wed Nov 11 2026. No macro, syntax, notation, axiom, sorry.
-/
import Derived.Test.YtckflmadcnfpeaaChecked
import GoSem.Claim
import GoSem.ClaimJoined
import GoSem.ClaimMapViews
import Derived.JoinedTies
import Derived.KernelRfl
namespace Go.Proofs.Ytckflmadcnfpeaa
/- THE CELL 'sum', in the pinned program and in every row, IS THE sha256 OF THE DUMP (.gsa) THAT YtckflmadcnfpeaaProg.lean LOADS. Nothing in Lean hashes anything: it is a label: what it is worth is what the hold of that sum in a sandbox is worth. -/
noncomputable def Try.pinned : Pinned := { name := "ytckflmadcnfpeaa", sum := "68480fd72adf55dc918e64b1ee04944a273d60e22eb1516cfff3ee405c2ec745", checked := Try.checked }
namespace Rows
def none {H : Type} : Left H := { results := [], args := [] }

/-- 'splicelaw20.MerkleDiffs': WHATEVER THE INPUT: true; the input reads as it did. -/
def merkleDiffsSpec : ChangeSpec := { name := "merkleDiffs", fn := fun _ => fun
  | [d1, d2] => { results := [.lit (.bool true)], args := [d1, d2] }
  | _ => none }
def merkleDiffsRow : OpenClaim := { program := "ytckflmadcnfpeaa", sum := "68480fd72adf55dc918e64b1ee04944a273d60e22eb1516cfff3ee405c2ec745", func := "splice/splicelaw20.MerkleDiffs", spec := "merkleDiffs", apart := false }
def MerkleDiffsSaid : Prop := merkleDiffsRow.holds Try.pinned (OpenSpec.ofChange merkleDiffsSpec)

/-- ITS FALSE NEIGHBOUR: 'it returns false'. Refute it at one input. -/
def merkleDiffsWrong : ChangeSpec := { name := "merkleDiffs", fn := fun _ => fun
  | [d1, d2] => { results := [.lit (.bool false)], args := [d1, d2] }
  | _ => none }
def MerkleDiffsWrongFalsely : Prop := merkleDiffsRow.holds Try.pinned (OpenSpec.ofChange merkleDiffsWrong)

/-- 'splicelaw20.MerkleFinds': WHATEVER THE INPUT: true; the input reads as it did. -/
def merkleFindsSpec : ChangeSpec := { name := "merkleFinds", fn := fun _ => fun
  | [d1, d2, d3] => { results := [.lit (.bool true)], args := [d1, d2, d3] }
  | _ => none }
def merkleFindsRow : OpenClaim := { program := "ytckflmadcnfpeaa", sum := "68480fd72adf55dc918e64b1ee04944a273d60e22eb1516cfff3ee405c2ec745", func := "splice/splicelaw20.MerkleFinds", spec := "merkleFinds", apart := false }
def MerkleFindsSaid : Prop := merkleFindsRow.holds Try.pinned (OpenSpec.ofChange merkleFindsSpec)

/-- ITS FALSE NEIGHBOUR: 'it returns false'. Refute it at one input. -/
def merkleFindsWrong : ChangeSpec := { name := "merkleFinds", fn := fun _ => fun
  | [d1, d2, d3] => { results := [.lit (.bool false)], args := [d1, d2, d3] }
  | _ => none }
def MerkleFindsWrongFalsely : Prop := merkleFindsRow.holds Try.pinned (OpenSpec.ofChange merkleFindsWrong)

/-- 'splicelaw20.MerkleNumbers': WHATEVER THE INPUT: true; the input reads as it did. -/
def merkleNumbersSpec : ChangeSpec := { name := "merkleNumbers", fn := fun _ => fun
  | [d1, d2, d3] => { results := [.lit (.bool true)], args := [d1, d2, d3] }
  | _ => none }
def merkleNumbersRow : OpenClaim := { program := "ytckflmadcnfpeaa", sum := "68480fd72adf55dc918e64b1ee04944a273d60e22eb1516cfff3ee405c2ec745", func := "splice/splicelaw20.MerkleNumbers", spec := "merkleNumbers", apart := false }
def MerkleNumbersSaid : Prop := merkleNumbersRow.holds Try.pinned (OpenSpec.ofChange merkleNumbersSpec)

/-- ITS FALSE NEIGHBOUR: 'it returns false'. Refute it at one input. -/
def merkleNumbersWrong : ChangeSpec := { name := "merkleNumbers", fn := fun _ => fun
  | [d1, d2, d3] => { results := [.lit (.bool false)], args := [d1, d2, d3] }
  | _ => none }
def MerkleNumbersWrongFalsely : Prop := merkleNumbersRow.holds Try.pinned (OpenSpec.ofChange merkleNumbersWrong)

/-- 'splicelaw20.MerkleSets': WHATEVER THE INPUT: true; the input reads as it did. -/
def merkleSetsSpec : ChangeSpec := { name := "merkleSets", fn := fun _ => fun
  | [d1, d2, d3] => { results := [.lit (.bool true)], args := [d1, d2, d3] }
  | _ => none }
def merkleSetsRow : OpenClaim := { program := "ytckflmadcnfpeaa", sum := "68480fd72adf55dc918e64b1ee04944a273d60e22eb1516cfff3ee405c2ec745", func := "splice/splicelaw20.MerkleSets", spec := "merkleSets", apart := false }
def MerkleSetsSaid : Prop := merkleSetsRow.holds Try.pinned (OpenSpec.ofChange merkleSetsSpec)

/-- ITS FALSE NEIGHBOUR: 'it returns false'. Refute it at one input. -/
def merkleSetsWrong : ChangeSpec := { name := "merkleSets", fn := fun _ => fun
  | [d1, d2, d3] => { results := [.lit (.bool false)], args := [d1, d2, d3] }
  | _ => none }
def MerkleSetsWrongFalsely : Prop := merkleSetsRow.holds Try.pinned (OpenSpec.ofChange merkleSetsWrong)

/-- 'splicelaw20.MerkleNil': WHATEVER THE INPUT: true; the input reads as it did. -/
def merkleNilSpec : ChangeSpec := { name := "merkleNil", fn := fun _ => fun
  | [d1, d2, d3] => { results := [.lit (.bool true)], args := [d1, d2, d3] }
  | _ => none }
def merkleNilRow : OpenClaim := { program := "ytckflmadcnfpeaa", sum := "68480fd72adf55dc918e64b1ee04944a273d60e22eb1516cfff3ee405c2ec745", func := "splice/splicelaw20.MerkleNil", spec := "merkleNil", apart := false }
def MerkleNilSaid : Prop := merkleNilRow.holds Try.pinned (OpenSpec.ofChange merkleNilSpec)

/-- ITS FALSE NEIGHBOUR: 'it returns false'. Refute it at one input. -/
def merkleNilWrong : ChangeSpec := { name := "merkleNil", fn := fun _ => fun
  | [d1, d2, d3] => { results := [.lit (.bool false)], args := [d1, d2, d3] }
  | _ => none }
def MerkleNilWrongFalsely : Prop := merkleNilRow.holds Try.pinned (OpenSpec.ofChange merkleNilWrong)

/-- 'splicelaw20.MerkleForged': WHATEVER THE INPUT: true; the input reads as it did. -/
def merkleForgedSpec : ChangeSpec := { name := "merkleForged", fn := fun _ => fun
  | [d1, d2, d3] => { results := [.lit (.bool true)], args := [d1, d2, d3] }
  | _ => none }
def merkleForgedRow : OpenClaim := { program := "ytckflmadcnfpeaa", sum := "68480fd72adf55dc918e64b1ee04944a273d60e22eb1516cfff3ee405c2ec745", func := "splice/splicelaw20.MerkleForged", spec := "merkleForged", inPlace := ["slices.overlaps[uint32]"], apart := false }
def MerkleForgedSaid : Prop := merkleForgedRow.holds Try.pinned (OpenSpec.ofChange merkleForgedSpec)

/-- ITS FALSE NEIGHBOUR: 'it returns false'. Refute it at one input. -/
def merkleForgedWrong : ChangeSpec := { name := "merkleForged", fn := fun _ => fun
  | [d1, d2, d3] => { results := [.lit (.bool false)], args := [d1, d2, d3] }
  | _ => none }
def MerkleForgedWrongFalsely : Prop := merkleForgedRow.holds Try.pinned (OpenSpec.ofChange merkleForgedWrong)

/-- 'splicelaw20.MerkleProves': WHATEVER THE INPUT: true; the input reads as it did. -/
def merkleProvesSpec : ChangeSpec := { name := "merkleProves", fn := fun _ => fun
  | [d1, d2, d3] => { results := [.lit (.bool true)], args := [d1, d2, d3] }
  | _ => none }
def merkleProvesRow : OpenClaim := { program := "ytckflmadcnfpeaa", sum := "68480fd72adf55dc918e64b1ee04944a273d60e22eb1516cfff3ee405c2ec745", func := "splice/splicelaw20.MerkleProves", spec := "merkleProves", inPlace := ["slices.overlaps[uint32]"], apart := false }
def MerkleProvesSaid : Prop := merkleProvesRow.holds Try.pinned (OpenSpec.ofChange merkleProvesSpec)

/-- ITS FALSE NEIGHBOUR: 'it returns false'. Refute it at one input. -/
def merkleProvesWrong : ChangeSpec := { name := "merkleProves", fn := fun _ => fun
  | [d1, d2, d3] => { results := [.lit (.bool false)], args := [d1, d2, d3] }
  | _ => none }
def MerkleProvesWrongFalsely : Prop := merkleProvesRow.holds Try.pinned (OpenSpec.ofChange merkleProvesWrong)

/- THE SECOND FORM. 'bulk': how many values and letters a reading holds, each counted each time it is reached (what is shared counts as often as it is met; a slice's spare places count too). A statement '..UptoSaid' is the law's where the arguments, and the package variables that the reading takes, are together of bulk at most 1048576: NARROWER than '..Said'. Prove '..Said' where nothing that the law and all that it calls make is longer than what came in: it says more and counts as full. Else prove '..UptoSaid'. A law counts once. -/
mutual
def uptoBulk {H : Type} : DataW H → Nat
  | .lit (.string bytes) => bytes.length + 1
  | .lit _ => 1
  | .nil => 1
  | .ptr d => uptoBulk d + 1
  | .slice elems spare => uptoBulkAll elems + uptoBulkAll spare + 1
  | .agg parts => uptoBulkAll parts + 1
  | .iface _ d => uptoBulk d + 1
  | .map entries => uptoBulkEntries entries + 1
  | .held _ => 1
def uptoBulkAll {H : Type} : List (DataW H) → Nat
  | [] => 0
  | d :: r => uptoBulk d + uptoBulkAll r
def uptoBulkEntries {H : Type} : List (Lit × DataW H) → Nat
  | [] => 0
  | x :: r => uptoBulkEntry x + uptoBulkEntries r
def uptoBulkEntry {H : Type} : Lit × DataW H → Nat
  | (.string bytes, d) => bytes.length + uptoBulk d + 1
  | (_, d) => uptoBulk d + 1
 end
def uptoSmall : (H : Type) → List (DataW H) → Bool := fun _ ds => decide (uptoBulkAll ds ≤ 1048576)
def OpenSpec.upto (s : _root_.Go.ChangeSpec) : _root_.Go.OpenSpec := { _root_.Go.OpenSpec.ofChange s with cond := some uptoSmall }

/-- 'splicelaw20.MerkleDiffs', WHERE WHAT IT READS IS OF BULK AT MOST 1048576: true; the input reads as it did. -/
def merkleDiffsUptoRow : OpenClaim := { program := "ytckflmadcnfpeaa", sum := "68480fd72adf55dc918e64b1ee04944a273d60e22eb1516cfff3ee405c2ec745", func := "splice/splicelaw20.MerkleDiffs", spec := "merkleDiffs", apart := false, narrowed := true }
def MerkleDiffsUptoSaid : Prop := merkleDiffsUptoRow.holds Try.pinned (OpenSpec.upto merkleDiffsSpec)

/-- 'splicelaw20.MerkleFinds', WHERE WHAT IT READS IS OF BULK AT MOST 1048576: true; the input reads as it did. -/
def merkleFindsUptoRow : OpenClaim := { program := "ytckflmadcnfpeaa", sum := "68480fd72adf55dc918e64b1ee04944a273d60e22eb1516cfff3ee405c2ec745", func := "splice/splicelaw20.MerkleFinds", spec := "merkleFinds", apart := false, narrowed := true }
def MerkleFindsUptoSaid : Prop := merkleFindsUptoRow.holds Try.pinned (OpenSpec.upto merkleFindsSpec)

/-- 'splicelaw20.MerkleNumbers', WHERE WHAT IT READS IS OF BULK AT MOST 1048576: true; the input reads as it did. -/
def merkleNumbersUptoRow : OpenClaim := { program := "ytckflmadcnfpeaa", sum := "68480fd72adf55dc918e64b1ee04944a273d60e22eb1516cfff3ee405c2ec745", func := "splice/splicelaw20.MerkleNumbers", spec := "merkleNumbers", apart := false, narrowed := true }
def MerkleNumbersUptoSaid : Prop := merkleNumbersUptoRow.holds Try.pinned (OpenSpec.upto merkleNumbersSpec)

/-- 'splicelaw20.MerkleSets', WHERE WHAT IT READS IS OF BULK AT MOST 1048576: true; the input reads as it did. -/
def merkleSetsUptoRow : OpenClaim := { program := "ytckflmadcnfpeaa", sum := "68480fd72adf55dc918e64b1ee04944a273d60e22eb1516cfff3ee405c2ec745", func := "splice/splicelaw20.MerkleSets", spec := "merkleSets", apart := false, narrowed := true }
def MerkleSetsUptoSaid : Prop := merkleSetsUptoRow.holds Try.pinned (OpenSpec.upto merkleSetsSpec)

/-- 'splicelaw20.MerkleNil', WHERE WHAT IT READS IS OF BULK AT MOST 1048576: true; the input reads as it did. -/
def merkleNilUptoRow : OpenClaim := { program := "ytckflmadcnfpeaa", sum := "68480fd72adf55dc918e64b1ee04944a273d60e22eb1516cfff3ee405c2ec745", func := "splice/splicelaw20.MerkleNil", spec := "merkleNil", apart := false, narrowed := true }
def MerkleNilUptoSaid : Prop := merkleNilUptoRow.holds Try.pinned (OpenSpec.upto merkleNilSpec)

/-- 'splicelaw20.MerkleForged', WHERE WHAT IT READS IS OF BULK AT MOST 1048576: true; the input reads as it did. -/
def merkleForgedUptoRow : OpenClaim := { program := "ytckflmadcnfpeaa", sum := "68480fd72adf55dc918e64b1ee04944a273d60e22eb1516cfff3ee405c2ec745", func := "splice/splicelaw20.MerkleForged", spec := "merkleForged", inPlace := ["slices.overlaps[uint32]"], apart := false, narrowed := true }
def MerkleForgedUptoSaid : Prop := merkleForgedUptoRow.holds Try.pinned (OpenSpec.upto merkleForgedSpec)

/-- 'splicelaw20.MerkleProves', WHERE WHAT IT READS IS OF BULK AT MOST 1048576: true; the input reads as it did. -/
def merkleProvesUptoRow : OpenClaim := { program := "ytckflmadcnfpeaa", sum := "68480fd72adf55dc918e64b1ee04944a273d60e22eb1516cfff3ee405c2ec745", func := "splice/splicelaw20.MerkleProves", spec := "merkleProves", inPlace := ["slices.overlaps[uint32]"], apart := false, narrowed := true }
def MerkleProvesUptoSaid : Prop := merkleProvesUptoRow.holds Try.pinned (OpenSpec.upto merkleProvesSpec)

end Rows
end Go.Proofs.Ytckflmadcnfpeaa
