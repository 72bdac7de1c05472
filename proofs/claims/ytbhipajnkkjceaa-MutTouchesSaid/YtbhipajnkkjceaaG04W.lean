/- That the sort's comparison is an order. -/
import Derived.Test.YtbhipajnkkjceaaG04P
import Derived.Test.YtbhipajnkkjceaaSyT
namespace Go.SyP
open Go Go.Sy Go.Proofs Go.Sort

theorem ltOf_Make_1 (x y : api_Span) : ltOf span_Make_1 x y = decide (x.Lo < y.Lo) := by
  unfold ltOf span_Make_1 cmp_Compare_int cmp_isNaN_int
  by_cases h1 : x.Lo < y.Lo
  · simp [h1]
  · by_cases h2 : x.Lo > y.Lo
    · simp [h1, h2]
    · simp [h1, h2]
theorem swo_span_Make_1 : SWO (ltOf span_Make_1) where
  irrefl x := by rw [ltOf_Make_1]; simp
  trans x y z h1 h2 := by rw [ltOf_Make_1] at *; simp at *; omega
  ntrans x y z h1 h2 := by rw [ltOf_Make_1] at *; simp at *; omega
end Go.SyP
