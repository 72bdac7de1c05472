/-
  No cell of these rows narrows 'for every input' (looked for: loops, veiled, ifaces, maps, wideKeys, modest, calm, conditions, laid).
  DERIVED. THE GIVEN ROWS OF THIS SEAT. 7 by the template 'for every input the law returns true; each argument reads behind the call as it read before'; 0 by the template 'total and deterministic' (their statements: YtboaahlhgekbbaaTotals.lean).
  GIVEN WITH THE SEED: the statements are not yours to turn. If you find one false, say at which input.
  Laid BY PROGRAM, IN A SANDBOX (cutbox-rows.mjs): the forced cells as the released guide's own fill.sh prints them over the translation c59ede03d86e880e… (all of the seat's roots in one cut). By AI agents, Wed Nov 11 2026. No macro, syntax, notation, axiom, sorry.
-/
import Derived.Test.YtboaahlhgekbbaaChecked
import GoSem.Claim
import GoSem.ClaimJoined
import GoSem.ClaimMapViews
import Derived.JoinedTies
import Derived.KernelRfl
namespace Go.Proofs.Ytboaahlhgekbbaa
/- THE CELL 'sum', in the pinned program and in every row, IS THE sha256 OF THE DUMP (.gsa) THAT YtboaahlhgekbbaaProg.lean LOADS. Nothing in Lean hashes anything: it is a label: what it is worth is what the hold of that sum in a sandbox is worth. -/
noncomputable def Try.pinned : Pinned := { name := "ytboaahlhgekbbaa", sum := "c59ede03d86e880e24be0c52a6bded3d27cb4cec8984745cb5aaa8d2e7a37ccf", checked := Try.checked }
namespace Rows
def none {H : Type} : Left H := { results := [], args := [] }

/-- 'splicelaw06.HoldAll': WHATEVER THE INPUT: true; the input reads as it did. -/
def holdAllSpec : ChangeSpec := { name := "holdAll", fn := fun _ => fun
  | [d] => { results := [.lit (.bool true)], args := [d] }
  | _ => none }
def holdAllRow : OpenClaim := { program := "ytboaahlhgekbbaa", sum := "c59ede03d86e880e24be0c52a6bded3d27cb4cec8984745cb5aaa8d2e7a37ccf", func := "splice/splicelaw06.HoldAll", spec := "holdAll", unfollowed := true, recurses := true, apart := false }
def HoldAllSaid : Prop := holdAllRow.holds Try.pinned (OpenSpec.ofChange holdAllSpec)

/-- ITS FALSE NEIGHBOUR: 'it returns false'. Refute it at one input. -/
def holdAllWrong : ChangeSpec := { name := "holdAll", fn := fun _ => fun
  | [d] => { results := [.lit (.bool false)], args := [d] }
  | _ => none }
def HoldAllWrongFalsely : Prop := holdAllRow.holds Try.pinned (OpenSpec.ofChange holdAllWrong)

/-- 'splicelaw06.HoldRises': WHATEVER THE INPUT: true; the input reads as it did. -/
def holdRisesSpec : ChangeSpec := { name := "holdRises", fn := fun _ => fun
  | [d] => { results := [.lit (.bool true)], args := [d] }
  | _ => none }
def holdRisesRow : OpenClaim := { program := "ytboaahlhgekbbaa", sum := "c59ede03d86e880e24be0c52a6bded3d27cb4cec8984745cb5aaa8d2e7a37ccf", func := "splice/splicelaw06.HoldRises", spec := "holdRises", unfollowed := true, recurses := true, apart := false }
def HoldRisesSaid : Prop := holdRisesRow.holds Try.pinned (OpenSpec.ofChange holdRisesSpec)

/-- ITS FALSE NEIGHBOUR: 'it returns false'. Refute it at one input. -/
def holdRisesWrong : ChangeSpec := { name := "holdRises", fn := fun _ => fun
  | [d] => { results := [.lit (.bool false)], args := [d] }
  | _ => none }
def HoldRisesWrongFalsely : Prop := holdRisesRow.holds Try.pinned (OpenSpec.ofChange holdRisesWrong)

/-- 'splicelaw06.HoldBlocks': WHATEVER THE INPUT: true; the input reads as it did. -/
def holdBlocksSpec : ChangeSpec := { name := "holdBlocks", fn := fun _ => fun
  | [d1, d2] => { results := [.lit (.bool true)], args := [d1, d2] }
  | _ => none }
def holdBlocksRow : OpenClaim := { program := "ytboaahlhgekbbaa", sum := "c59ede03d86e880e24be0c52a6bded3d27cb4cec8984745cb5aaa8d2e7a37ccf", func := "splice/splicelaw06.HoldBlocks", spec := "holdBlocks", unfollowed := true, recurses := true, apart := false }
def HoldBlocksSaid : Prop := holdBlocksRow.holds Try.pinned (OpenSpec.ofChange holdBlocksSpec)

/-- ITS FALSE NEIGHBOUR: 'it returns false'. Refute it at one input. -/
def holdBlocksWrong : ChangeSpec := { name := "holdBlocks", fn := fun _ => fun
  | [d1, d2] => { results := [.lit (.bool false)], args := [d1, d2] }
  | _ => none }
def HoldBlocksWrongFalsely : Prop := holdBlocksRow.holds Try.pinned (OpenSpec.ofChange holdBlocksWrong)

/-- 'splicelaw06.HoldOrder': WHATEVER THE INPUT: true; the input reads as it did. -/
def holdOrderSpec : ChangeSpec := { name := "holdOrder", fn := fun _ => fun
  | [d] => { results := [.lit (.bool true)], args := [d] }
  | _ => none }
def holdOrderRow : OpenClaim := { program := "ytboaahlhgekbbaa", sum := "c59ede03d86e880e24be0c52a6bded3d27cb4cec8984745cb5aaa8d2e7a37ccf", func := "splice/splicelaw06.HoldOrder", spec := "holdOrder", unfollowed := true, recurses := true, apart := false }
def HoldOrderSaid : Prop := holdOrderRow.holds Try.pinned (OpenSpec.ofChange holdOrderSpec)

/-- ITS FALSE NEIGHBOUR: 'it returns false'. Refute it at one input. -/
def holdOrderWrong : ChangeSpec := { name := "holdOrder", fn := fun _ => fun
  | [d] => { results := [.lit (.bool false)], args := [d] }
  | _ => none }
def HoldOrderWrongFalsely : Prop := holdOrderRow.holds Try.pinned (OpenSpec.ofChange holdOrderWrong)

/-- 'splicelaw06.HoldOwn': WHATEVER THE INPUT: true; the input reads as it did. -/
def holdOwnSpec : ChangeSpec := { name := "holdOwn", fn := fun _ => fun
  | [d] => { results := [.lit (.bool true)], args := [d] }
  | _ => none }
def holdOwnRow : OpenClaim := { program := "ytboaahlhgekbbaa", sum := "c59ede03d86e880e24be0c52a6bded3d27cb4cec8984745cb5aaa8d2e7a37ccf", func := "splice/splicelaw06.HoldOwn", spec := "holdOwn", unfollowed := true, recurses := true, apart := false }
def HoldOwnSaid : Prop := holdOwnRow.holds Try.pinned (OpenSpec.ofChange holdOwnSpec)

/-- ITS FALSE NEIGHBOUR: 'it returns false'. Refute it at one input. -/
def holdOwnWrong : ChangeSpec := { name := "holdOwn", fn := fun _ => fun
  | [d] => { results := [.lit (.bool false)], args := [d] }
  | _ => none }
def HoldOwnWrongFalsely : Prop := holdOwnRow.holds Try.pinned (OpenSpec.ofChange holdOwnWrong)

/-- 'splicelaw06.HoldPlays': WHATEVER THE INPUT: true; the input reads as it did. -/
def holdPlaysSpec : ChangeSpec := { name := "holdPlays", fn := fun _ => fun
  | [d1, d2] => { results := [.lit (.bool true)], args := [d1, d2] }
  | _ => none }
def holdPlaysRow : OpenClaim := { program := "ytboaahlhgekbbaa", sum := "c59ede03d86e880e24be0c52a6bded3d27cb4cec8984745cb5aaa8d2e7a37ccf", func := "splice/splicelaw06.HoldPlays", spec := "holdPlays", unfollowed := true, recurses := true, apart := false }
def HoldPlaysSaid : Prop := holdPlaysRow.holds Try.pinned (OpenSpec.ofChange holdPlaysSpec)

/-- ITS FALSE NEIGHBOUR: 'it returns false'. Refute it at one input. -/
def holdPlaysWrong : ChangeSpec := { name := "holdPlays", fn := fun _ => fun
  | [d1, d2] => { results := [.lit (.bool false)], args := [d1, d2] }
  | _ => none }
def HoldPlaysWrongFalsely : Prop := holdPlaysRow.holds Try.pinned (OpenSpec.ofChange holdPlaysWrong)

/-- 'splicelaw06.HoldNil': WHATEVER THE INPUT: true; the input reads as it did. -/
def holdNilSpec : ChangeSpec := { name := "holdNil", fn := fun _ => fun
  | [d1, d2, d3] => { results := [.lit (.bool true)], args := [d1, d2, d3] }
  | _ => none }
def holdNilRow : OpenClaim := { program := "ytboaahlhgekbbaa", sum := "c59ede03d86e880e24be0c52a6bded3d27cb4cec8984745cb5aaa8d2e7a37ccf", func := "splice/splicelaw06.HoldNil", spec := "holdNil", unfollowed := true, recurses := true, apart := false }
def HoldNilSaid : Prop := holdNilRow.holds Try.pinned (OpenSpec.ofChange holdNilSpec)

/-- ITS FALSE NEIGHBOUR: 'it returns false'. Refute it at one input. -/
def holdNilWrong : ChangeSpec := { name := "holdNil", fn := fun _ => fun
  | [d1, d2, d3] => { results := [.lit (.bool false)], args := [d1, d2, d3] }
  | _ => none }
def HoldNilWrongFalsely : Prop := holdNilRow.holds Try.pinned (OpenSpec.ofChange holdNilWrong)

/- THE SECOND FORM. 'bulk': how many values and letters a reading holds, each counted each time it is reached (what is shared counts as often as it is met; a slice's spare places count too). A statement '..UptoSaid' is the law's where the arguments, and the package variables that the reading takes, are together of bulk at most 1048576: NARROWER than '..Said'. Prove '..Said' where nothing that the law and all that it calls make is longer than what came in: it says more and counts as full. Else prove '..UptoSaid'. A law counts once. -/
mutual
def uptoBulk {H : Type} : DataW H → Nat
  | .lit (.string bytes) => bytes.length + 1
  | .lit _ => 1
  | .nil => 1
  | .ptr d => uptoBulk d + 1
  | .slice elems spare => uptoBulkAll elems + uptoBulkAll spare + 1
  | .agg parts => uptoBulkAll parts + 1
  | .iface _ d => uptoBulk d + 1
  | .map entries => uptoBulkEntries entries + 1
  | .held _ => 1
def uptoBulkAll {H : Type} : List (DataW H) → Nat
  | [] => 0
  | d :: r => uptoBulk d + uptoBulkAll r
def uptoBulkEntries {H : Type} : List (Lit × DataW H) → Nat
  | [] => 0
  | x :: r => uptoBulkEntry x + uptoBulkEntries r
def uptoBulkEntry {H : Type} : Lit × DataW H → Nat
  | (.string bytes, d) => bytes.length + uptoBulk d + 1
  | (_, d) => uptoBulk d + 1
 end
def uptoSmall : (H : Type) → List (DataW H) → Bool := fun _ ds => decide (uptoBulkAll ds ≤ 1048576)
def OpenSpec.upto (s : _root_.Go.ChangeSpec) : _root_.Go.OpenSpec := { _root_.Go.OpenSpec.ofChange s with cond := some uptoSmall }

/-- 'splicelaw06.HoldAll', WHERE WHAT IT READS IS OF BULK AT MOST 1048576: true; the input reads as it did. -/
def holdAllUptoRow : OpenClaim := { program := "ytboaahlhgekbbaa", sum := "c59ede03d86e880e24be0c52a6bded3d27cb4cec8984745cb5aaa8d2e7a37ccf", func := "splice/splicelaw06.HoldAll", spec := "holdAll", unfollowed := true, recurses := true, apart := false, narrowed := true }
def HoldAllUptoSaid : Prop := holdAllUptoRow.holds Try.pinned (OpenSpec.upto holdAllSpec)

/-- 'splicelaw06.HoldRises', WHERE WHAT IT READS IS OF BULK AT MOST 1048576: true; the input reads as it did. -/
def holdRisesUptoRow : OpenClaim := { program := "ytboaahlhgekbbaa", sum := "c59ede03d86e880e24be0c52a6bded3d27cb4cec8984745cb5aaa8d2e7a37ccf", func := "splice/splicelaw06.HoldRises", spec := "holdRises", unfollowed := true, recurses := true, apart := false, narrowed := true }
def HoldRisesUptoSaid : Prop := holdRisesUptoRow.holds Try.pinned (OpenSpec.upto holdRisesSpec)

/-- 'splicelaw06.HoldBlocks', WHERE WHAT IT READS IS OF BULK AT MOST 1048576: true; the input reads as it did. -/
def holdBlocksUptoRow : OpenClaim := { program := "ytboaahlhgekbbaa", sum := "c59ede03d86e880e24be0c52a6bded3d27cb4cec8984745cb5aaa8d2e7a37ccf", func := "splice/splicelaw06.HoldBlocks", spec := "holdBlocks", unfollowed := true, recurses := true, apart := false, narrowed := true }
def HoldBlocksUptoSaid : Prop := holdBlocksUptoRow.holds Try.pinned (OpenSpec.upto holdBlocksSpec)

/-- 'splicelaw06.HoldOrder', WHERE WHAT IT READS IS OF BULK AT MOST 1048576: true; the input reads as it did. -/
def holdOrderUptoRow : OpenClaim := { program := "ytboaahlhgekbbaa", sum := "c59ede03d86e880e24be0c52a6bded3d27cb4cec8984745cb5aaa8d2e7a37ccf", func := "splice/splicelaw06.HoldOrder", spec := "holdOrder", unfollowed := true, recurses := true, apart := false, narrowed := true }
def HoldOrderUptoSaid : Prop := holdOrderUptoRow.holds Try.pinned (OpenSpec.upto holdOrderSpec)

/-- 'splicelaw06.HoldOwn', WHERE WHAT IT READS IS OF BULK AT MOST 1048576: true; the input reads as it did. -/
def holdOwnUptoRow : OpenClaim := { program := "ytboaahlhgekbbaa", sum := "c59ede03d86e880e24be0c52a6bded3d27cb4cec8984745cb5aaa8d2e7a37ccf", func := "splice/splicelaw06.HoldOwn", spec := "holdOwn", unfollowed := true, recurses := true, apart := false, narrowed := true }
def HoldOwnUptoSaid : Prop := holdOwnUptoRow.holds Try.pinned (OpenSpec.upto holdOwnSpec)

/-- 'splicelaw06.HoldPlays', WHERE WHAT IT READS IS OF BULK AT MOST 1048576: true; the input reads as it did. -/
def holdPlaysUptoRow : OpenClaim := { program := "ytboaahlhgekbbaa", sum := "c59ede03d86e880e24be0c52a6bded3d27cb4cec8984745cb5aaa8d2e7a37ccf", func := "splice/splicelaw06.HoldPlays", spec := "holdPlays", unfollowed := true, recurses := true, apart := false, narrowed := true }
def HoldPlaysUptoSaid : Prop := holdPlaysUptoRow.holds Try.pinned (OpenSpec.upto holdPlaysSpec)

/-- 'splicelaw06.HoldNil', WHERE WHAT IT READS IS OF BULK AT MOST 1048576: true; the input reads as it did. -/
def holdNilUptoRow : OpenClaim := { program := "ytboaahlhgekbbaa", sum := "c59ede03d86e880e24be0c52a6bded3d27cb4cec8984745cb5aaa8d2e7a37ccf", func := "splice/splicelaw06.HoldNil", spec := "holdNil", unfollowed := true, recurses := true, apart := false, narrowed := true }
def HoldNilUptoSaid : Prop := holdNilUptoRow.holds Try.pinned (OpenSpec.upto holdNilSpec)

end Rows
end Go.Proofs.Ytboaahlhgekbbaa
