/- All keys. -/
import Derived.Test.YticmlllaimjdcaaP15L
set_option linter.unusedVariables false
set_option linter.unusedSimpArgs false
namespace Go.SyP
open Go Go.Sy Sets

def allS : List api_Span := [⟨0, 4096⟩]
theorem allS_ok : SOk allS := SOk_one (by decide)
theorem hasB_all {k : Int} (h : 0 ≤ k ∧ k < 4096) : hasB allS k = true := by
  rw [allS, hasB_one (by decide)]
  simp
  omega

end Go.SyP
