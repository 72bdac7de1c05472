/-
  No cell of these rows narrows 'for every input' (looked for: loops, veiled, ifaces, maps, wideKeys, modest, calm, conditions, laid).
  DERIVED. THE GIVEN ROWS OF THIS SEAT. 2 by the template 'for every input the law returns true; each argument reads behind the call as it read before'; 0 by the template 'total and deterministic' (their statements: YtdndobkfnmommaaGreatTotals.lean).
  GIVEN WITH THE SEED: the statements are not yours to turn. If you find one false, say at which input.
  Laid BY PROGRAM, IN A SANDBOX (cutbox-rows.mjs): the forced cells as the released guide's own fill.sh prints them over the translation 77e7517c0cafd95b… (all of the seat's roots in one cut). By AI agents, Wed Nov 11 2026. No macro, syntax, notation, axiom, sorry.
-/
import Derived.Test.YtdndobkfnmommaaGreatChecked
import GoSem.Claim
import GoSem.ClaimJoined
import GoSem.ClaimMapViews
import Derived.JoinedTies
import Derived.KernelRfl
namespace Go.Proofs.YtdndobkfnmommaaGreat
/- THE CELL 'sum', in the pinned program and in every row, IS THE sha256 OF THE DUMP (.gsa) THAT YtdndobkfnmommaaGreatProg.lean LOADS. Nothing in Lean hashes anything: it is a label: what it is worth is what the hold of that sum in a sandbox is worth. -/
noncomputable def Tryz.pinned : Pinned := { name := "ytdndobkfnmommaagreat", sum := "77e7517c0cafd95b3fa037d63b0a736026f3079369932d43e7d91efb2c2c726d", checked := Tryz.checked }
namespace Rows
def none {H : Type} : Left H := { results := [], args := [] }

/-- 'splicelaw24.AuditChain': WHATEVER THE INPUT: true; the input reads as it did. -/
def auditChainSpec : ChangeSpec := { name := "auditChain", fn := fun _ => fun
  | [d1, d2] => { results := [.lit (.bool true)], args := [d1, d2] }
  | _ => none }
def auditChainRow : OpenClaim := { program := "ytdndobkfnmommaagreat", sum := "77e7517c0cafd95b3fa037d63b0a736026f3079369932d43e7d91efb2c2c726d", func := "splice/splicelaw24.AuditChain", spec := "auditChain", inPlace := ["slices.overlaps[splice/api.Pair]"], unfollowed := true, recurses := true, apart := false }
def AuditChainSaid : Prop := auditChainRow.holds Tryz.pinned (OpenSpec.ofChange auditChainSpec)

/-- ITS FALSE NEIGHBOUR: 'it returns false'. Refute it at one input. -/
def auditChainWrong : ChangeSpec := { name := "auditChain", fn := fun _ => fun
  | [d1, d2] => { results := [.lit (.bool false)], args := [d1, d2] }
  | _ => none }
def AuditChainWrongFalsely : Prop := auditChainRow.holds Tryz.pinned (OpenSpec.ofChange auditChainWrong)

/-- 'splicelaw24.AuditSteps': WHATEVER THE INPUT: true; the input reads as it did. -/
def auditStepsSpec : ChangeSpec := { name := "auditSteps", fn := fun _ => fun
  | [d1, d2, d3] => { results := [.lit (.bool true)], args := [d1, d2, d3] }
  | _ => none }
def auditStepsRow : OpenClaim := { program := "ytdndobkfnmommaagreat", sum := "77e7517c0cafd95b3fa037d63b0a736026f3079369932d43e7d91efb2c2c726d", func := "splice/splicelaw24.AuditSteps", spec := "auditSteps", inPlace := ["slices.overlaps[splice/api.Pair]"], unfollowed := true, recurses := true, apart := false }
def AuditStepsSaid : Prop := auditStepsRow.holds Tryz.pinned (OpenSpec.ofChange auditStepsSpec)

/-- ITS FALSE NEIGHBOUR: 'it returns false'. Refute it at one input. -/
def auditStepsWrong : ChangeSpec := { name := "auditSteps", fn := fun _ => fun
  | [d1, d2, d3] => { results := [.lit (.bool false)], args := [d1, d2, d3] }
  | _ => none }
def AuditStepsWrongFalsely : Prop := auditStepsRow.holds Tryz.pinned (OpenSpec.ofChange auditStepsWrong)

/- THE SECOND FORM. 'bulk': how many values and letters a reading holds, each counted each time it is reached (what is shared counts as often as it is met; a slice's spare places count too). A statement '..UptoSaid' is the law's where the arguments, and the package variables that the reading takes, are together of bulk at most 1048576: NARROWER than '..Said'. Prove '..Said' where nothing that the law and all that it calls make is longer than what came in: it says more and counts as full. Else prove '..UptoSaid'. A law counts once. -/
mutual
def uptoBulk {H : Type} : DataW H → Nat
  | .lit (.string bytes) => bytes.length + 1
  | .lit _ => 1
  | .nil => 1
  | .ptr d => uptoBulk d + 1
  | .slice elems spare => uptoBulkAll elems + uptoBulkAll spare + 1
  | .agg parts => uptoBulkAll parts + 1
  | .iface _ d => uptoBulk d + 1
  | .map entries => uptoBulkEntries entries + 1
  | .held _ => 1
def uptoBulkAll {H : Type} : List (DataW H) → Nat
  | [] => 0
  | d :: r => uptoBulk d + uptoBulkAll r
def uptoBulkEntries {H : Type} : List (Lit × DataW H) → Nat
  | [] => 0
  | x :: r => uptoBulkEntry x + uptoBulkEntries r
def uptoBulkEntry {H : Type} : Lit × DataW H → Nat
  | (.string bytes, d) => bytes.length + uptoBulk d + 1
  | (_, d) => uptoBulk d + 1
 end
def uptoSmall : (H : Type) → List (DataW H) → Bool := fun _ ds => decide (uptoBulkAll ds ≤ 1048576)
def OpenSpec.upto (s : _root_.Go.ChangeSpec) : _root_.Go.OpenSpec := { _root_.Go.OpenSpec.ofChange s with cond := some uptoSmall }

/-- 'splicelaw24.AuditChain', WHERE WHAT IT READS IS OF BULK AT MOST 1048576: true; the input reads as it did. -/
def auditChainUptoRow : OpenClaim := { program := "ytdndobkfnmommaagreat", sum := "77e7517c0cafd95b3fa037d63b0a736026f3079369932d43e7d91efb2c2c726d", func := "splice/splicelaw24.AuditChain", spec := "auditChain", inPlace := ["slices.overlaps[splice/api.Pair]"], unfollowed := true, recurses := true, apart := false, narrowed := true }
def AuditChainUptoSaid : Prop := auditChainUptoRow.holds Tryz.pinned (OpenSpec.upto auditChainSpec)

/-- 'splicelaw24.AuditSteps', WHERE WHAT IT READS IS OF BULK AT MOST 1048576: true; the input reads as it did. -/
def auditStepsUptoRow : OpenClaim := { program := "ytdndobkfnmommaagreat", sum := "77e7517c0cafd95b3fa037d63b0a736026f3079369932d43e7d91efb2c2c726d", func := "splice/splicelaw24.AuditSteps", spec := "auditSteps", inPlace := ["slices.overlaps[splice/api.Pair]"], unfollowed := true, recurses := true, apart := false, narrowed := true }
def AuditStepsUptoSaid : Prop := auditStepsUptoRow.holds Tryz.pinned (OpenSpec.upto auditStepsSpec)

end Rows
end Go.Proofs.YtdndobkfnmommaaGreat
