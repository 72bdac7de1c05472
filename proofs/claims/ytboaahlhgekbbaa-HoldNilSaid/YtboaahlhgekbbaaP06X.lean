/- Hold: a nil queue has nothing. -/
import Derived.Test.YtboaahlhgekbbaaP06W
set_option linter.unusedVariables false
set_option linter.unusedSimpArgs false
namespace Go.SyP
open Go Go.Sy

theorem splicelaw06_HoldNil_true (a0 : api_Held) (a1 a2 : Int) {p0 p1 p2 : Prop} (w0 : p0) (w1 : p1) (w2 : p2) : splicelaw06_HoldNil a0 a1 a2 = some true := by
  unfold splicelaw06_HoldNil
  rw [awake_eq]
  simp [hold_Queue_Pop_n0, hold_Queue_Len_n0, hold_Queue_Find_n0, hold_Queue_Add_n0, hold_Queue_Final_n0, hold_Queue_Drop_n0, hold_Queue_All_n0, hold_Queue_Floor_n0, splicelaw06_HoldNil.j1, bnd]
  decide
end Go.SyP
