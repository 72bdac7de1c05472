/- Plain functions, printed by gen.py. -/
import Derived.Test.YtboaahlhgekbbaaG06K
set_option linter.unusedVariables false
namespace Go.SyP
open Go Go.Sy

inductive hold_Queue_All.S where
  | l1 (x1_19 : Int) (x1_r3 : List api_Held)

noncomputable def hold_Queue_All.l1 (a0 : hold_Queue) (dom : List Nat) (M : Nat → hold_item) (x1_19 : Int) (x1_r3 : List api_Held) : Option (hold_Queue_All.S ⊕ ((List api_Held) × hold_Queue)) :=
  if x1_19 < ((sortA dom M a0.h.l).length : Int) then
    if 0 ≤ x1_19 ∧ x1_19 < ((sortA dom M a0.h.l).length : Int) then
      if ((sortA dom M a0.h.l).getD x1_19.toNat 0) ∈ dom then
        (hold_own ((M ((sortA dom M a0.h.l).getD x1_19.toNat 0)).h)).bind fun v1 =>
        if (x1_r3.length + 1) * 88 ≤ 140737488355328 then
          some (.inl (.l1 (IntKind.wrap .i64 (x1_19 + 1)) (x1_r3 ++ [v1])))
        else none
      else none
    else none
  else
    some (.inr (x1_r3, (⟨(⟨a0.h.l⟩ : hold_items)⟩ : hold_Queue)))

noncomputable def hold_Queue_All.step (a0 : hold_Queue) (dom : List Nat) (M : Nat → hold_item) : hold_Queue_All.S → Option (hold_Queue_All.S ⊕ ((List api_Held) × hold_Queue))
  | .l1 x1_19 x1_r3 => hold_Queue_All.l1 a0 dom M x1_19 x1_r3

noncomputable def hold_Queue_All (a0 : hold_Queue) (dom : List Nat) (M : Nat → hold_item) : Option ((List api_Held) × hold_Queue) :=
  if (∀ a ∈ a0.h.l, a ∈ dom) ∧ a0.h.l.length * 8 ≤ 140737488355328 then
    goLoop (hold_Queue_All.step a0 dom M) (.l1 0 ([] : List api_Held))
  else none
end Go.SyP
