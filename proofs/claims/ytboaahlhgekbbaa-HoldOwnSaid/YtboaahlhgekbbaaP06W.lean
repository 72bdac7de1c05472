/- Hold: the example; a nil queue has nothing. -/
import Derived.Test.YtboaahlhgekbbaaG06LP
set_option linter.unusedVariables false
set_option linter.unusedSimpArgs false
namespace Go.SyP
open Go Go.Sy

theorem qAdd_eq (q : QL) (h : api_Held) (hp : h.M.Pairs.length ≤ 1000) (hl : q.l.length ≤ 1000) : qAdd q h = some (if mOk h.M = true ∧ timedB h.Time = true then qPut q h else (1, q)) := by
  unfold qAdd
  rw [mut_Check_eq _ (by omega), Option.bind_some, if_pos ⟨by omega, by omega⟩]

def delM (c : Int) : api_Mut := ⟨c, 1, 2, [], ⟨1, 2⟩, 0⟩
theorem del_eq (c : Int) : splicelaw06_del c 1 = delM c := rfl
theorem awake_eq : splicelaw06_awake = some true := by
  unfold splicelaw06_awake
  simp only [bnd, del_eq]
  rw [qAdd_eq _ _ (by decide) (by decide), Option.bind_some]
  have e1 : (if mOk (⟨⟨(delM 1).Client, (delM 1).Seq, (delM 1).Kind, (delM 1).Pairs, (delM 1).Over, (delM 1).Old⟩, 5, false⟩ : api_Held).M = true ∧ timedB 5 = true then qPut qNew ⟨⟨(delM 1).Client, (delM 1).Seq, (delM 1).Kind, (delM 1).Pairs, (delM 1).Over, (delM 1).Old⟩, 5, false⟩ else (1, qNew)) = qPut qNew ⟨delM 1, 5, false⟩ := if_pos (by decide)
  rw [e1]
  rw [qAdd_eq _ _ (by decide) (by decide), Option.bind_some]
  rfl
end Go.SyP
