/- Plain functions, printed by gen.py. -/
import Derived.Test.YtboaahlhgekbbaaG06LP
import Derived.Test.YtboaahlhgekbbaaG06O
set_option linter.unusedVariables false
namespace Go.SyP
open Go Go.Sy

inductive splicelaw04_Ref_f0.S where
  | l1 (x1_4 : Int) (x1_r3 : List spliceref04_Pair)

noncomputable def splicelaw04_Ref_f0.l1 (a0 : api_Mut) (x1_4 : Int) (x1_r3 : List spliceref04_Pair) : Option (splicelaw04_Ref_f0.S ⊕ spliceref04_Mut) :=
  if x1_4 < (a0.Pairs.length : Int) then
    if 0 ≤ x1_4 ∧ x1_4 < (a0.Pairs.length : Int) then
      if (x1_r3.length + 1) * 16 ≤ 140737488355328 then
        some (.inl (.l1 (IntKind.wrap .i64 (x1_4 + 1)) (x1_r3 ++ [(⟨(a0.Pairs.getD x1_4.toNat api_Pair.z).Key, (a0.Pairs.getD x1_4.toNat api_Pair.z).Val⟩ : spliceref04_Pair)])))
      else none
    else none
  else
    some (.inr (⟨a0.Client, a0.Seq, a0.Kind, x1_r3, (⟨a0.Over.Lo, a0.Over.Hi⟩ : spliceref03_Span), a0.Old⟩ : spliceref04_Mut))

noncomputable def splicelaw04_Ref_f0.step (a0 : api_Mut) : splicelaw04_Ref_f0.S → Option (splicelaw04_Ref_f0.S ⊕ spliceref04_Mut)
  | .l1 x1_4 x1_r3 => splicelaw04_Ref_f0.l1 a0 x1_4 x1_r3

noncomputable def splicelaw04_Ref_f0 (a0 : api_Mut) : Option spliceref04_Mut :=
  goLoop (splicelaw04_Ref_f0.step a0) (.l1 0 ([] : List spliceref04_Pair))

noncomputable def splicelaw06_Ref_f0 (a0 : api_Held) : Option spliceref06_Held :=
  (splicelaw04_Ref_f0 (⟨a0.M.Client, a0.M.Seq, a0.M.Kind, a0.M.Pairs, a0.M.Over, a0.M.Old⟩ : api_Mut)).bind fun v1 =>
  some (⟨v1, a0.Time, a0.Final⟩ : spliceref06_Held)

noncomputable def splicelaw06_HoldOwn.j2 (y2_2 : Bool) : Option Bool :=
  some y2_2

noncomputable def splicelaw06_HoldOwn.j1 (a0 : api_Held) (v1 : QL) (y1_30 : Bool) : Option Bool :=
  if y1_30 = true then
    (splicelaw06_awake).bind fun v3 =>
    some v3
  else
    (splicelaw06_Ref a0).bind fun v4 =>
    (qAdd v1 a0).bind fun v5 =>
    if v5.1 = 0 then
      (qFindM v5.2 a0.M.Client a0.M.Seq).bind fun v7 =>
      if (v7.M.Pairs.length : Int) = 0 then
        some false
      else
        if (0 : Int) ≤ 0 ∧ 0 < (v7.M.Pairs.length : Int) then
          (qAllM v5.2).bind fun v8 =>
          if (0 : Int) ≤ 0 ∧ 0 < (1 : Int) then
            (splicelaw06_Ref_f0 (⟨(⟨v8.M.Client, v8.M.Seq, v8.M.Kind, v8.M.Pairs, v8.M.Over, v8.M.Old⟩ : api_Mut), v8.Time, v8.Final⟩ : api_Held)).bind fun v9 =>
            (spliceref06_SameOne v9 v4).bind fun v10 =>
            if v10 = true then
              if (0 : Int) ≤ 0 ∧ 0 < (v8.M.Pairs.length : Int) then
                (qFindM v5.2 a0.M.Client a0.M.Seq).bind fun v11 =>
                (splicelaw06_Ref_f0 (⟨(⟨v11.M.Client, v11.M.Seq, v11.M.Kind, v11.M.Pairs, v11.M.Over, v11.M.Old⟩ : api_Mut), v11.Time, v11.Final⟩ : api_Held)).bind fun v12 =>
                (spliceref06_SameOne v12 v4).bind fun v13 =>
                some v13
              else none
            else
              some false
          else none
        else none
    else
      (mut_Check a0.M).bind fun v6 =>
      if v6 = true then
        if a0.Time < 0 then
          splicelaw06_HoldOwn.j2 true
        else
          splicelaw06_HoldOwn.j2 (decide (a0.Time > 1099511627775))
      else
        splicelaw06_HoldOwn.j2 true

noncomputable def splicelaw06_HoldOwn (a0 : api_Held) : Option Bool :=
  bnd (qNew) fun (v1 : QL) =>
  (splicelaw06_awake).bind fun v2 =>
  if v2 = true then
    if (a0.M.Pairs.length : Int) = 0 then
      splicelaw06_HoldOwn.j1 a0 v1 true
    else
      splicelaw06_HoldOwn.j1 a0 v1 (decide ((a0.M.Pairs.length : Int) > 20))
  else
    splicelaw06_HoldOwn.j1 a0 v1 true
end Go.SyP
