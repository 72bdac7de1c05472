/-
  No cell of these rows narrows 'for every input' (looked for: loops, veiled, ifaces, maps, wideKeys, modest, calm, conditions, laid).
  DERIVED. THE GIVEN ROWS OF THIS SEAT. 5 by the template 'for every input the law returns true; each argument reads behind the call as it read before'; 0 by the template 'total and deterministic' (their statements: YticmlllaimjdcaaTotals.lean).
  GIVEN WITH THE SEED: the statements are not yours to turn. If you find one false, say at which input.
  Laid BY PROGRAM, IN A SANDBOX (cutbox-rows.mjs): the forced cells as the released guide's own fill.sh prints them over the translation 126a311f26e00c2b… (all of the seat's roots in one cut). By AI agents, Wed Nov 11 2026. No macro, syntax, notation, axiom, sorry.
-/
import Derived.Test.YticmlllaimjdcaaChecked
import GoSem.Claim
import GoSem.ClaimJoined
import GoSem.ClaimMapViews
import Derived.JoinedTies
import Derived.KernelRfl
namespace Go.Proofs.Yticmlllaimjdcaa
/- THE CELL 'sum', in the pinned program and in every row, IS THE sha256 OF THE DUMP (.gsa) THAT YticmlllaimjdcaaProg.lean LOADS. Nothing in Lean hashes anything: it is a label: what it is worth is what the hold of that sum in a sandbox is worth. -/
noncomputable def Try.pinned : Pinned := { name := "yticmlllaimjdcaa", sum := "126a311f26e00c2bd6d5287591b947400b424c48529bbadf56f98bc041cb0881", checked := Try.checked }
namespace Rows
def none {H : Type} : Left H := { results := [], args := [] }

/-- 'splicelaw15.JudgeFolds': WHATEVER THE INPUT: true; the input reads as it did. -/
def judgeFoldsSpec : ChangeSpec := { name := "judgeFolds", fn := fun _ => fun
  | [d1, d2, d3] => { results := [.lit (.bool true)], args := [d1, d2, d3] }
  | _ => none }
def judgeFoldsRow : OpenClaim := { program := "yticmlllaimjdcaa", sum := "126a311f26e00c2bd6d5287591b947400b424c48529bbadf56f98bc041cb0881", func := "splice/splicelaw15.JudgeFolds", spec := "judgeFolds", inPlace := ["slices.overlaps[splice/api.Pair]"], unfollowed := true, recurses := true, apart := false }
def JudgeFoldsSaid : Prop := judgeFoldsRow.holds Try.pinned (OpenSpec.ofChange judgeFoldsSpec)

/-- ITS FALSE NEIGHBOUR: 'it returns false'. Refute it at one input. -/
def judgeFoldsWrong : ChangeSpec := { name := "judgeFolds", fn := fun _ => fun
  | [d1, d2, d3] => { results := [.lit (.bool false)], args := [d1, d2, d3] }
  | _ => none }
def JudgeFoldsWrongFalsely : Prop := judgeFoldsRow.holds Try.pinned (OpenSpec.ofChange judgeFoldsWrong)

/-- 'splicelaw15.JudgeOntos': WHATEVER THE INPUT: true; the input reads as it did. -/
def judgeOntosSpec : ChangeSpec := { name := "judgeOntos", fn := fun _ => fun
  | [d1, d2, d3] => { results := [.lit (.bool true)], args := [d1, d2, d3] }
  | _ => none }
def judgeOntosRow : OpenClaim := { program := "yticmlllaimjdcaa", sum := "126a311f26e00c2bd6d5287591b947400b424c48529bbadf56f98bc041cb0881", func := "splice/splicelaw15.JudgeOntos", spec := "judgeOntos", inPlace := ["slices.overlaps[splice/api.Pair]"], unfollowed := true, recurses := true, apart := false }
def JudgeOntosSaid : Prop := judgeOntosRow.holds Try.pinned (OpenSpec.ofChange judgeOntosSpec)

/-- ITS FALSE NEIGHBOUR: 'it returns false'. Refute it at one input. -/
def judgeOntosWrong : ChangeSpec := { name := "judgeOntos", fn := fun _ => fun
  | [d1, d2, d3] => { results := [.lit (.bool false)], args := [d1, d2, d3] }
  | _ => none }
def JudgeOntosWrongFalsely : Prop := judgeOntosRow.holds Try.pinned (OpenSpec.ofChange judgeOntosWrong)

/-- 'splicelaw15.JudgeClients': WHATEVER THE INPUT: true; the input reads as it did. -/
def judgeClientsSpec : ChangeSpec := { name := "judgeClients", fn := fun _ => fun
  | [d] => { results := [.lit (.bool true)], args := [d] }
  | _ => none }
def judgeClientsRow : OpenClaim := { program := "yticmlllaimjdcaa", sum := "126a311f26e00c2bd6d5287591b947400b424c48529bbadf56f98bc041cb0881", func := "splice/splicelaw15.JudgeClients", spec := "judgeClients", inPlace := ["slices.overlaps[splice/api.Pair]"], unfollowed := true, recurses := true, apart := false }
def JudgeClientsSaid : Prop := judgeClientsRow.holds Try.pinned (OpenSpec.ofChange judgeClientsSpec)

/-- ITS FALSE NEIGHBOUR: 'it returns false'. Refute it at one input. -/
def judgeClientsWrong : ChangeSpec := { name := "judgeClients", fn := fun _ => fun
  | [d] => { results := [.lit (.bool false)], args := [d] }
  | _ => none }
def JudgeClientsWrongFalsely : Prop := judgeClientsRow.holds Try.pinned (OpenSpec.ofChange judgeClientsWrong)

/-- 'splicelaw15.JudgeGoesOn': WHATEVER THE INPUT: true; the input reads as it did. -/
def judgeGoesOnSpec : ChangeSpec := { name := "judgeGoesOn", fn := fun _ => fun
  | [d1, d2, d3] => { results := [.lit (.bool true)], args := [d1, d2, d3] }
  | _ => none }
def judgeGoesOnRow : OpenClaim := { program := "yticmlllaimjdcaa", sum := "126a311f26e00c2bd6d5287591b947400b424c48529bbadf56f98bc041cb0881", func := "splice/splicelaw15.JudgeGoesOn", spec := "judgeGoesOn", inPlace := ["slices.overlaps[splice/api.Pair]"], unfollowed := true, recurses := true, apart := false }
def JudgeGoesOnSaid : Prop := judgeGoesOnRow.holds Try.pinned (OpenSpec.ofChange judgeGoesOnSpec)

/-- ITS FALSE NEIGHBOUR: 'it returns false'. Refute it at one input. -/
def judgeGoesOnWrong : ChangeSpec := { name := "judgeGoesOn", fn := fun _ => fun
  | [d1, d2, d3] => { results := [.lit (.bool false)], args := [d1, d2, d3] }
  | _ => none }
def JudgeGoesOnWrongFalsely : Prop := judgeGoesOnRow.holds Try.pinned (OpenSpec.ofChange judgeGoesOnWrong)

/-- 'splicelaw15.JudgeParts': WHATEVER THE INPUT: true; the input reads as it did. -/
def judgePartsSpec : ChangeSpec := { name := "judgeParts", fn := fun _ => fun
  | [d1, d2, d3] => { results := [.lit (.bool true)], args := [d1, d2, d3] }
  | _ => none }
def judgePartsRow : OpenClaim := { program := "yticmlllaimjdcaa", sum := "126a311f26e00c2bd6d5287591b947400b424c48529bbadf56f98bc041cb0881", func := "splice/splicelaw15.JudgeParts", spec := "judgeParts", inPlace := ["slices.overlaps[splice/api.Pair]"], unfollowed := true, recurses := true, apart := false }
def JudgePartsSaid : Prop := judgePartsRow.holds Try.pinned (OpenSpec.ofChange judgePartsSpec)

/-- ITS FALSE NEIGHBOUR: 'it returns false'. Refute it at one input. -/
def judgePartsWrong : ChangeSpec := { name := "judgeParts", fn := fun _ => fun
  | [d1, d2, d3] => { results := [.lit (.bool false)], args := [d1, d2, d3] }
  | _ => none }
def JudgePartsWrongFalsely : Prop := judgePartsRow.holds Try.pinned (OpenSpec.ofChange judgePartsWrong)

/- THE SECOND FORM. 'bulk': how many values and letters a reading holds, each counted each time it is reached (what is shared counts as often as it is met; a slice's spare places count too). A statement '..UptoSaid' is the law's where the arguments, and the package variables that the reading takes, are together of bulk at most 1048576: NARROWER than '..Said'. Prove '..Said' where nothing that the law and all that it calls make is longer than what came in: it says more and counts as full. Else prove '..UptoSaid'. A law counts once. -/
mutual
def uptoBulk {H : Type} : DataW H → Nat
  | .lit (.string bytes) => bytes.length + 1
  | .lit _ => 1
  | .nil => 1
  | .ptr d => uptoBulk d + 1
  | .slice elems spare => uptoBulkAll elems + uptoBulkAll spare + 1
  | .agg parts => uptoBulkAll parts + 1
  | .iface _ d => uptoBulk d + 1
  | .map entries => uptoBulkEntries entries + 1
  | .held _ => 1
def uptoBulkAll {H : Type} : List (DataW H) → Nat
  | [] => 0
  | d :: r => uptoBulk d + uptoBulkAll r
def uptoBulkEntries {H : Type} : List (Lit × DataW H) → Nat
  | [] => 0
  | x :: r => uptoBulkEntry x + uptoBulkEntries r
def uptoBulkEntry {H : Type} : Lit × DataW H → Nat
  | (.string bytes, d) => bytes.length + uptoBulk d + 1
  | (_, d) => uptoBulk d + 1
 end
def uptoSmall : (H : Type) → List (DataW H) → Bool := fun _ ds => decide (uptoBulkAll ds ≤ 1048576)
def OpenSpec.upto (s : _root_.Go.ChangeSpec) : _root_.Go.OpenSpec := { _root_.Go.OpenSpec.ofChange s with cond := some uptoSmall }

/-- 'splicelaw15.JudgeFolds', WHERE WHAT IT READS IS OF BULK AT MOST 1048576: true; the input reads as it did. -/
def judgeFoldsUptoRow : OpenClaim := { program := "yticmlllaimjdcaa", sum := "126a311f26e00c2bd6d5287591b947400b424c48529bbadf56f98bc041cb0881", func := "splice/splicelaw15.JudgeFolds", spec := "judgeFolds", inPlace := ["slices.overlaps[splice/api.Pair]"], unfollowed := true, recurses := true, apart := false, narrowed := true }
def JudgeFoldsUptoSaid : Prop := judgeFoldsUptoRow.holds Try.pinned (OpenSpec.upto judgeFoldsSpec)

/-- 'splicelaw15.JudgeOntos', WHERE WHAT IT READS IS OF BULK AT MOST 1048576: true; the input reads as it did. -/
def judgeOntosUptoRow : OpenClaim := { program := "yticmlllaimjdcaa", sum := "126a311f26e00c2bd6d5287591b947400b424c48529bbadf56f98bc041cb0881", func := "splice/splicelaw15.JudgeOntos", spec := "judgeOntos", inPlace := ["slices.overlaps[splice/api.Pair]"], unfollowed := true, recurses := true, apart := false, narrowed := true }
def JudgeOntosUptoSaid : Prop := judgeOntosUptoRow.holds Try.pinned (OpenSpec.upto judgeOntosSpec)

/-- 'splicelaw15.JudgeClients', WHERE WHAT IT READS IS OF BULK AT MOST 1048576: true; the input reads as it did. -/
def judgeClientsUptoRow : OpenClaim := { program := "yticmlllaimjdcaa", sum := "126a311f26e00c2bd6d5287591b947400b424c48529bbadf56f98bc041cb0881", func := "splice/splicelaw15.JudgeClients", spec := "judgeClients", inPlace := ["slices.overlaps[splice/api.Pair]"], unfollowed := true, recurses := true, apart := false, narrowed := true }
def JudgeClientsUptoSaid : Prop := judgeClientsUptoRow.holds Try.pinned (OpenSpec.upto judgeClientsSpec)

/-- 'splicelaw15.JudgeGoesOn', WHERE WHAT IT READS IS OF BULK AT MOST 1048576: true; the input reads as it did. -/
def judgeGoesOnUptoRow : OpenClaim := { program := "yticmlllaimjdcaa", sum := "126a311f26e00c2bd6d5287591b947400b424c48529bbadf56f98bc041cb0881", func := "splice/splicelaw15.JudgeGoesOn", spec := "judgeGoesOn", inPlace := ["slices.overlaps[splice/api.Pair]"], unfollowed := true, recurses := true, apart := false, narrowed := true }
def JudgeGoesOnUptoSaid : Prop := judgeGoesOnUptoRow.holds Try.pinned (OpenSpec.upto judgeGoesOnSpec)

/-- 'splicelaw15.JudgeParts', WHERE WHAT IT READS IS OF BULK AT MOST 1048576: true; the input reads as it did. -/
def judgePartsUptoRow : OpenClaim := { program := "yticmlllaimjdcaa", sum := "126a311f26e00c2bd6d5287591b947400b424c48529bbadf56f98bc041cb0881", func := "splice/splicelaw15.JudgeParts", spec := "judgeParts", inPlace := ["slices.overlaps[splice/api.Pair]"], unfollowed := true, recurses := true, apart := false, narrowed := true }
def JudgePartsUptoSaid : Prop := judgePartsUptoRow.holds Try.pinned (OpenSpec.upto judgePartsSpec)

end Rows
end Go.Proofs.Yticmlllaimjdcaa
