/- That the sort's comparison is an order. -/
import Derived.Test.YticmlllaimjdcaaG15P
import Derived.Test.YticmlllaimjdcaaSyT
namespace Go.SyP
open Go Go.Sy Go.Proofs Go.Sort

theorem ltOf_Join_1 (x y : api_Pair) : ltOf table_Join_1 x y = decide (x.Key < y.Key) := by
  unfold ltOf table_Join_1 cmp_Compare_int cmp_isNaN_int
  by_cases h1 : x.Key < y.Key
  · simp [h1]
  · by_cases h2 : x.Key > y.Key
    · simp [h1, h2]
    · simp [h1, h2]
theorem swo_table_Join_1 : SWO (ltOf table_Join_1) where
  irrefl x := by rw [ltOf_Join_1]; simp
  trans x y z h1 h2 := by rw [ltOf_Join_1] at *; simp at *; omega
  ntrans x y z h1 h2 := by rw [ltOf_Join_1] at *; simp at *; omega
end Go.SyP
