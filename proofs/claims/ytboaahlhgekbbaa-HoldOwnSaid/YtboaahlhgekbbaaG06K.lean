/- Hold: how two items stand. -/
import Derived.Test.YtboaahlhgekbbaaP06A
import Derived.Test.YtboaahlhgekbbaaSyAl
set_option linter.unusedVariables false
set_option linter.unusedSimpArgs false
namespace Go.SyP
open Go Go.Sy Go.Sort Go.Proofs

def cfH (a b : hold_item) : Int := cmpS (stampH a.h) (stampH b.h)
theorem swo_cfH : SWO (ltOf cfH) := by
  have h : ∀ a b, ltOf cfH a b = decide (ltS (stampH a.h) (stampH b.h)) := fun a b => by
    unfold ltOf cfH
    exact decide_eq_decide.2 (cmpS_lt _ _)
  refine ⟨fun x => ?_, fun x y z => ?_, fun x y z => ?_⟩ <;> simp only [h, decide_eq_true_eq, decide_eq_false_iff_not]
  · unfold ltS; omega
  · unfold ltS; omega
  · unfold ltS; omega
noncomputable def sortA (dom : List Nat) (M : Nat → hold_item) (l : List Nat) : List Nat := sortL 0 (cfD cfH dom M) l
end Go.SyP
