/- Plain functions, printed by gen.py. -/
import Derived.Test.YtboaahlhgekbbaaG06B
set_option linter.unusedVariables false
namespace Go.SyP
open Go Go.Sy

structure splicelaw06_World where
  q : QL
  clock : Int
  popped : List api_Stamp
  floor : Int
def splicelaw06_World.z : splicelaw06_World := ⟨qNew, 0, [], 0⟩

noncomputable def splicelaw06_del (a0 : Int) (a1 : Int) : api_Mut :=
  (⟨a0, a1, 2, ([] : List api_Pair), (⟨1, 2⟩ : api_Span), 0⟩ : api_Mut)

noncomputable def splicelaw06_awake.j1 (y1_0 : Bool) : Option Bool :=
  some y1_0

noncomputable def splicelaw06_awake : Option Bool :=
  bnd (qNew) fun (v1 : QL) =>
  bnd (splicelaw06_del 1 1) fun (v2 : api_Mut) =>
  (qAdd v1 (⟨(⟨v2.Client, v2.Seq, v2.Kind, v2.Pairs, (v2.Over), v2.Old⟩ : api_Mut), 5, false⟩ : api_Held)).bind fun v3 =>
  bnd (splicelaw06_del 2 1) fun (v4 : api_Mut) =>
  (qAdd v3.2 (⟨(⟨v4.Client, v4.Seq, v4.Kind, v4.Pairs, (v4.Over), v4.Old⟩ : api_Mut), 3, false⟩ : api_Held)).bind fun v5 =>
  bnd (qPop v5.2) fun (v6 : api_Held × Bool × QL) =>
  bnd (qFinal v6.2.2 2 1 7) fun (v7 : Int × QL) =>
  bnd (qFinal v7.2 1 1 5) fun (v8 : Int × QL) =>
  bnd (qPop v8.2) fun (v9 : api_Held × Bool × QL) =>
  bnd (qPop v9.2.2) fun (v10 : api_Held × Bool × QL) =>
  if v3.1 = 0 then
    if v5.1 = 0 then
      if v6.2.1 = true then
        splicelaw06_awake.j1 false
      else
        if v7.1 = 0 then
          if (qFloor v7.2 99) = 4 then
            if v8.1 = 0 then
              if v9.2.1 = true then
                if (((v9.1).M).Client) = 1 then
                  if v10.2.1 = true then
                    if ((v10.1).Time) = 7 then
                      splicelaw06_awake.j1 ((qLen v10.2.2) == 0)
                    else
                      splicelaw06_awake.j1 false
                  else
                    splicelaw06_awake.j1 false
                else
                  splicelaw06_awake.j1 false
              else
                splicelaw06_awake.j1 false
            else
              splicelaw06_awake.j1 false
          else
            splicelaw06_awake.j1 false
        else
          splicelaw06_awake.j1 false
    else
      splicelaw06_awake.j1 false
  else
    splicelaw06_awake.j1 false

inductive splicelaw06_HoldAll.S where
  | l1 (x1_5 : Int) (x1_r0 : QL) (x1_r1 : List api_Held)
  | l2 (x1_r1 : List api_Held) (x2_6 : Int) (x2_r0 : QL)
  | l3 (x3_9 : Int) (x3_r0 : QL) (x3_r1 : List api_Held) (x3_b2_0 : Int) (x3_b2_1 : Int) (x3_b2_2 : Int)

noncomputable def splicelaw06_HoldAll.j4 (x1_5 : Int) (y3_r0 : QL) (y4_r1 : List api_Held) : Option (splicelaw06_HoldAll.S ⊕ Bool) :=
  some (.inl (.l1 (IntKind.wrap .i64 (x1_5 + 1)) y3_r0 y4_r1))

noncomputable def splicelaw06_HoldAll.j3 (a0 : List api_Held) (x1_5 : Int) (x1_r1 : List api_Held) (y3_50 : Bool) (y3_r0 : QL) : Option (splicelaw06_HoldAll.S ⊕ Bool) :=
  if y3_50 = true then
    if (x1_r1.length + 1) * 88 ≤ 140737488355328 then
      splicelaw06_HoldAll.j4 x1_5 y3_r0 (x1_r1 ++ [a0.getD x1_5.toNat api_Held.z])
    else none
  else
    splicelaw06_HoldAll.j4 x1_5 y3_r0 x1_r1

noncomputable def splicelaw06_HoldAll.j2 (a0 : List api_Held) (x1_5 : Int) (x1_r0 : QL) (x1_r1 : List api_Held) (y2_31 : Bool) : Option (splicelaw06_HoldAll.S ⊕ Bool) :=
  if y2_31 = true then
    if 0 ≤ x1_5 ∧ x1_5 < (a0.length : Int) then
      if ((((a0.getD x1_5.toNat api_Held.z).M).Pairs).length : Int) ≤ 20 then
        (qAdd x1_r0 (a0.getD x1_5.toNat api_Held.z)).bind fun v3 =>
        splicelaw06_HoldAll.j3 a0 x1_5 x1_r1 (v3.1 == 0) v3.2
      else
        splicelaw06_HoldAll.j3 a0 x1_5 x1_r1 false x1_r0
    else none
  else
    some (.inl (.l2 x1_r1 0 x1_r0))

noncomputable def splicelaw06_HoldAll.j5 (x1_r1 : List api_Held) (x2_6 : Int) (v4 : Int × QL) (y5_91 : Bool) : Option (splicelaw06_HoldAll.S ⊕ Bool) :=
  if y5_91 = true then
    some (.inr false)
  else
    some (.inl (.l2 x1_r1 (IntKind.wrap .i64 (x2_6 + 1)) v4.2))

noncomputable def splicelaw06_HoldAll.j7 (x3_9 : Int) (x3_r1 : List api_Held) (v6 : api_Held × Bool × QL) (v7 : api_Stamp) (y7_113 : Bool) : Option (splicelaw06_HoldAll.S ⊕ Bool) :=
  if y7_113 = true then
    some (.inr false)
  else
    some (.inl (.l3 (IntKind.wrap .i64 (x3_9 + 1)) v6.2.2 x3_r1 v7.Time v7.Client v7.Seq))

noncomputable def splicelaw06_HoldAll.j6 (y6_2 : Bool) : Option (splicelaw06_HoldAll.S ⊕ Bool) :=
  some (.inr y6_2)

noncomputable def splicelaw06_HoldAll.l1 (a0 : List api_Held) (x1_5 : Int) (x1_r0 : QL) (x1_r1 : List api_Held) : Option (splicelaw06_HoldAll.S ⊕ Bool) :=
  if x1_5 < (a0.length : Int) then
    splicelaw06_HoldAll.j2 a0 x1_5 x1_r0 x1_r1 (decide ((x1_r1.length : Int) < 60))
  else
    splicelaw06_HoldAll.j2 a0 x1_5 x1_r0 x1_r1 false

noncomputable def splicelaw06_HoldAll.l2 (x1_r1 : List api_Held) (x2_6 : Int) (x2_r0 : QL) : Option (splicelaw06_HoldAll.S ⊕ Bool) :=
  if x2_6 < (x1_r1.length : Int) then
    if 0 ≤ x2_6 ∧ x2_6 < (x1_r1.length : Int) then
      bnd (qFinal x2_r0 (((x1_r1.getD x2_6.toNat api_Held.z).M).Client) (((x1_r1.getD x2_6.toNat api_Held.z).M).Seq) ((x1_r1.getD x2_6.toNat api_Held.z).Time)) fun (v4 : Int × QL) =>
      if ((x1_r1.getD x2_6.toNat api_Held.z).Final) = true then
        if v4.1 = 7 then
          splicelaw06_HoldAll.j5 x1_r1 x2_6 v4 false
        else
          splicelaw06_HoldAll.j5 x1_r1 x2_6 v4 true
      else
        if v4.1 = 7 then
          splicelaw06_HoldAll.j5 x1_r1 x2_6 v4 true
        else
          splicelaw06_HoldAll.j5 x1_r1 x2_6 v4 (v4.1 != 0)
    else none
  else
    some (.inl (.l3 0 x2_r0 x1_r1 (-1) 0 0))

noncomputable def splicelaw06_HoldAll.l3 (x3_9 : Int) (x3_r0 : QL) (x3_r1 : List api_Held) (x3_b2_0 : Int) (x3_b2_1 : Int) (x3_b2_2 : Int) : Option (splicelaw06_HoldAll.S ⊕ Bool) :=
  if (qLen x3_r0) > 0 then
    bnd (qPop x3_r0) fun (v6 : api_Held × Bool × QL) =>
    bnd (mut_Stamp ((v6.1).Time) ((v6.1).M)) fun (v7 : api_Stamp) =>
    if v6.2.1 = true then
      (mut_Compare (⟨x3_b2_0, x3_b2_1, x3_b2_2⟩ : api_Stamp) v7).bind fun v8 =>
      splicelaw06_HoldAll.j7 x3_9 x3_r1 v6 v7 (decide (v8 ≥ 0))
    else
      splicelaw06_HoldAll.j7 x3_9 x3_r1 v6 v7 true
  else
    bnd (qPop x3_r0) fun (v5 : api_Held × Bool × QL) =>
    if x3_9 = (x3_r1.length : Int) then
      splicelaw06_HoldAll.j6 (!v5.2.1)
    else
      splicelaw06_HoldAll.j6 false

noncomputable def splicelaw06_HoldAll.step (a0 : List api_Held) : splicelaw06_HoldAll.S → Option (splicelaw06_HoldAll.S ⊕ Bool)
  | .l1 x1_5 x1_r0 x1_r1 => splicelaw06_HoldAll.l1 a0 x1_5 x1_r0 x1_r1
  | .l2 x1_r1 x2_6 x2_r0 => splicelaw06_HoldAll.l2 x1_r1 x2_6 x2_r0
  | .l3 x3_9 x3_r0 x3_r1 x3_b2_0 x3_b2_1 x3_b2_2 => splicelaw06_HoldAll.l3 x3_9 x3_r0 x3_r1 x3_b2_0 x3_b2_1 x3_b2_2

noncomputable def splicelaw06_HoldAll.j1 (a0 : List api_Held) (v1 : QL) (y1_22 : Bool) : Option Bool :=
  if y1_22 = true then
    some false
  else
    goLoop (splicelaw06_HoldAll.step a0) (.l1 0 v1 ([] : List api_Held))

noncomputable def splicelaw06_HoldAll (a0 : List api_Held) : Option Bool :=
  bnd (qNew) fun (v1 : QL) =>
  (splicelaw06_awake).bind fun v2 =>
  if v2 = true then
    splicelaw06_HoldAll.j1 a0 v1 false
  else
    splicelaw06_HoldAll.j1 a0 v1 true

inductive splicelaw06_HoldBlocks.S where
  | l1 (x1_7 : Int) (x1_r0 : QL) (x1_r1 : List api_Held)
  | l2 (x1_r1 : List api_Held) (y3_r0 : QL) (x2_10 : Int) (x2_11 : Int)
  | l3 (x1_r1 : List api_Held) (x3_10 : Int) (x3_12 : Int) (x3_r0 : QL)
  | l4 (x1_r1 : List api_Held) (x4_12 : Int) (x4_r0 : QL)

noncomputable def splicelaw06_HoldBlocks.j5 (x1_7 : Int) (y4_r0 : QL) (y5_r1 : List api_Held) : Option (splicelaw06_HoldBlocks.S ⊕ Bool) :=
  some (.inl (.l1 (IntKind.wrap .i64 (x1_7 + 1)) y4_r0 y5_r1))

noncomputable def splicelaw06_HoldBlocks.j4 (a0 : List api_Held) (x1_7 : Int) (x1_r1 : List api_Held) (y4_50 : Bool) (y4_r0 : QL) : Option (splicelaw06_HoldBlocks.S ⊕ Bool) :=
  if y4_50 = true then
    if (x1_r1.length + 1) * 88 ≤ 140737488355328 then
      splicelaw06_HoldBlocks.j5 x1_7 y4_r0 (x1_r1 ++ [(⟨((a0.getD x1_7.toNat api_Held.z).M), (a0.getD x1_7.toNat api_Held.z).Time, true⟩ : api_Held)])
    else none
  else
    splicelaw06_HoldBlocks.j5 x1_7 y4_r0 x1_r1

noncomputable def splicelaw06_HoldBlocks.j3 (x1_r1 : List api_Held) (y3_89 : Bool) (y3_r0 : QL) : Option (splicelaw06_HoldBlocks.S ⊕ Bool) :=
  if y3_89 = true then
    some (.inr false)
  else
    some (.inl (.l2 x1_r1 y3_r0 0 0))

noncomputable def splicelaw06_HoldBlocks.j2 (a0 : List api_Held) (a1 : Int) (x1_7 : Int) (x1_r0 : QL) (x1_r1 : List api_Held) (y2_32 : Bool) : Option (splicelaw06_HoldBlocks.S ⊕ Bool) :=
  if y2_32 = true then
    if 0 ≤ x1_7 ∧ x1_7 < (a0.length : Int) then
      if ((((a0.getD x1_7.toNat api_Held.z).M).Pairs).length : Int) ≤ 20 then
        (qAdd x1_r0 (⟨((a0.getD x1_7.toNat api_Held.z).M), (a0.getD x1_7.toNat api_Held.z).Time, true⟩ : api_Held)).bind fun v5 =>
        splicelaw06_HoldBlocks.j4 a0 x1_7 x1_r1 (v5.1 == 0) v5.2
      else
        splicelaw06_HoldBlocks.j4 a0 x1_7 x1_r1 false x1_r0
    else none
  else
    if (x1_r1.length : Int) = 0 then
      some (.inr ((qLen x1_r0) == 0))
    else
      if ¬ (x1_r1.length : Int) = 0 then
        if 0 ≤ (Int.tmod (IntKind.wrap .i64 ((Int.tmod a1 (x1_r1.length : Int)) + (x1_r1.length : Int))) (x1_r1.length : Int)) ∧ (Int.tmod (IntKind.wrap .i64 ((Int.tmod a1 (x1_r1.length : Int)) + (x1_r1.length : Int))) (x1_r1.length : Int)) < (x1_r1.length : Int) then
          bnd (qDrop x1_r0 (((x1_r1.getD ((Int.tmod (IntKind.wrap .i64 ((Int.tmod a1 (x1_r1.length : Int)) + (x1_r1.length : Int))) (x1_r1.length : Int)).toNat) api_Held.z).M).Client) (((x1_r1.getD ((Int.tmod (IntKind.wrap .i64 ((Int.tmod a1 (x1_r1.length : Int)) + (x1_r1.length : Int))) (x1_r1.length : Int)).toNat) api_Held.z).M).Seq)) fun (v3 : Int × QL) =>
          if v3.1 = 0 then
            (qAdd v3.2 (⟨((x1_r1.getD ((Int.tmod (IntKind.wrap .i64 ((Int.tmod a1 (x1_r1.length : Int)) + (x1_r1.length : Int))) (x1_r1.length : Int)).toNat) api_Held.z).M), (x1_r1.getD ((Int.tmod (IntKind.wrap .i64 ((Int.tmod a1 (x1_r1.length : Int)) + (x1_r1.length : Int))) (x1_r1.length : Int)).toNat) api_Held.z).Time, false⟩ : api_Held)).bind fun v4 =>
            splicelaw06_HoldBlocks.j3 x1_r1 (v4.1 != 0) v4.2
          else
            splicelaw06_HoldBlocks.j3 x1_r1 true v3.2
        else none
      else none

noncomputable def splicelaw06_HoldBlocks.j6 (x1_r1 : List api_Held) (x2_11 : Int) (y3_r0 : QL) (y6_10 : Int) : Option (splicelaw06_HoldBlocks.S ⊕ Bool) :=
  some (.inl (.l2 x1_r1 y3_r0 y6_10 (IntKind.wrap .i64 (x2_11 + 1))))

noncomputable def splicelaw06_HoldBlocks.j7 (x1_r1 : List api_Held) (x3_12 : Int) (y7_146 : Bool) (y7_r0 : QL) : Option (splicelaw06_HoldBlocks.S ⊕ Bool) :=
  if y7_146 = true then
    some (.inr false)
  else
    some (.inl (.l4 x1_r1 x3_12 y7_r0))

noncomputable def splicelaw06_HoldBlocks.j8 (y8_4 : Bool) : Option (splicelaw06_HoldBlocks.S ⊕ Bool) :=
  some (.inr y8_4)

noncomputable def splicelaw06_HoldBlocks.l1 (a0 : List api_Held) (a1 : Int) (x1_7 : Int) (x1_r0 : QL) (x1_r1 : List api_Held) : Option (splicelaw06_HoldBlocks.S ⊕ Bool) :=
  if x1_7 < (a0.length : Int) then
    splicelaw06_HoldBlocks.j2 a0 a1 x1_7 x1_r0 x1_r1 (decide ((x1_r1.length : Int) < 60))
  else
    splicelaw06_HoldBlocks.j2 a0 a1 x1_7 x1_r0 x1_r1 false

noncomputable def splicelaw06_HoldBlocks.l2 (a1 : Int) (x1_r1 : List api_Held) (y3_r0 : QL) (x2_10 : Int) (x2_11 : Int) : Option (splicelaw06_HoldBlocks.S ⊕ Bool) :=
  if x2_11 < (x1_r1.length : Int) then
    if 0 ≤ x2_11 ∧ x2_11 < (x1_r1.length : Int) then
      (mut_Compare (mut_Stamp ((x1_r1.getD x2_11.toNat api_Held.z).Time) ((x1_r1.getD x2_11.toNat api_Held.z).M)) (mut_Stamp ((x1_r1.getD ((Int.tmod (IntKind.wrap .i64 ((Int.tmod a1 (x1_r1.length : Int)) + (x1_r1.length : Int))) (x1_r1.length : Int)).toNat) api_Held.z).Time) ((x1_r1.getD ((Int.tmod (IntKind.wrap .i64 ((Int.tmod a1 (x1_r1.length : Int)) + (x1_r1.length : Int))) (x1_r1.length : Int)).toNat) api_Held.z).M))).bind fun v6 =>
      if v6 < 0 then
        splicelaw06_HoldBlocks.j6 x1_r1 x2_11 y3_r0 (IntKind.wrap .i64 (x2_10 + 1))
      else
        splicelaw06_HoldBlocks.j6 x1_r1 x2_11 y3_r0 x2_10
    else none
  else
    some (.inl (.l3 x1_r1 x2_10 0 y3_r0))

noncomputable def splicelaw06_HoldBlocks.l3 (a1 : Int) (x1_r1 : List api_Held) (x3_10 : Int) (x3_12 : Int) (x3_r0 : QL) : Option (splicelaw06_HoldBlocks.S ⊕ Bool) :=
  bnd (qPop x3_r0) fun (v7 : api_Held × Bool × QL) =>
  if v7.2.1 = true then
    some (.inl (.l3 x1_r1 x3_10 (IntKind.wrap .i64 (x3_12 + 1)) v7.2.2))
  else
    if x3_12 = x3_10 then
      if (qFloor v7.2.2 0) = (IntKind.wrap .i64 (((x1_r1.getD ((Int.tmod (IntKind.wrap .i64 ((Int.tmod a1 (x1_r1.length : Int)) + (x1_r1.length : Int))) (x1_r1.length : Int)).toNat) api_Held.z).Time) - 1)) then
        splicelaw06_HoldBlocks.j7 x1_r1 x3_12 (((qDrop v7.2.2 (((x1_r1.getD ((Int.tmod (IntKind.wrap .i64 ((Int.tmod a1 (x1_r1.length : Int)) + (x1_r1.length : Int))) (x1_r1.length : Int)).toNat) api_Held.z).M).Client) (((x1_r1.getD ((Int.tmod (IntKind.wrap .i64 ((Int.tmod a1 (x1_r1.length : Int)) + (x1_r1.length : Int))) (x1_r1.length : Int)).toNat) api_Held.z).M).Seq)).1) != 0) ((qDrop v7.2.2 (((x1_r1.getD ((Int.tmod (IntKind.wrap .i64 ((Int.tmod a1 (x1_r1.length : Int)) + (x1_r1.length : Int))) (x1_r1.length : Int)).toNat) api_Held.z).M).Client) (((x1_r1.getD ((Int.tmod (IntKind.wrap .i64 ((Int.tmod a1 (x1_r1.length : Int)) + (x1_r1.length : Int))) (x1_r1.length : Int)).toNat) api_Held.z).M).Seq)).2)
      else
        splicelaw06_HoldBlocks.j7 x1_r1 x3_12 true v7.2.2
    else
      splicelaw06_HoldBlocks.j7 x1_r1 x3_12 true v7.2.2

noncomputable def splicelaw06_HoldBlocks.l4 (x1_r1 : List api_Held) (x4_12 : Int) (x4_r0 : QL) : Option (splicelaw06_HoldBlocks.S ⊕ Bool) :=
  bnd (qPop x4_r0) fun (v8 : api_Held × Bool × QL) =>
  if v8.2.1 = true then
    some (.inl (.l4 x1_r1 (IntKind.wrap .i64 (x4_12 + 1)) v8.2.2))
  else
    if x4_12 = (IntKind.wrap .i64 ((x1_r1.length : Int) - 1)) then
      splicelaw06_HoldBlocks.j8 ((qLen v8.2.2) == 0)
    else
      splicelaw06_HoldBlocks.j8 false

noncomputable def splicelaw06_HoldBlocks.step (a0 : List api_Held) (a1 : Int) : splicelaw06_HoldBlocks.S → Option (splicelaw06_HoldBlocks.S ⊕ Bool)
  | .l1 x1_7 x1_r0 x1_r1 => splicelaw06_HoldBlocks.l1 a0 a1 x1_7 x1_r0 x1_r1
  | .l2 x1_r1 y3_r0 x2_10 x2_11 => splicelaw06_HoldBlocks.l2 a1 x1_r1 y3_r0 x2_10 x2_11
  | .l3 x1_r1 x3_10 x3_12 x3_r0 => splicelaw06_HoldBlocks.l3 a1 x1_r1 x3_10 x3_12 x3_r0
  | .l4 x1_r1 x4_12 x4_r0 => splicelaw06_HoldBlocks.l4 x1_r1 x4_12 x4_r0

noncomputable def splicelaw06_HoldBlocks.j1 (a0 : List api_Held) (a1 : Int) (v1 : QL) (y1_23 : Bool) : Option Bool :=
  if y1_23 = true then
    some false
  else
    goLoop (splicelaw06_HoldBlocks.step a0 a1) (.l1 0 v1 ([] : List api_Held))

noncomputable def splicelaw06_HoldBlocks (a0 : List api_Held) (a1 : Int) : Option Bool :=
  bnd (qNew) fun (v1 : QL) =>
  (splicelaw06_awake).bind fun v2 =>
  if v2 = true then
    splicelaw06_HoldBlocks.j1 a0 a1 v1 false
  else
    splicelaw06_HoldBlocks.j1 a0 a1 v1 true

noncomputable def hold_Queue_Len_n0 : Int :=
  0

noncomputable def hold_Queue_Pop_n0 : Option (api_Held × Bool) :=
  if hold_Queue_Len_n0 = 0 then
    some ((⟨(⟨0, 0, 0, ([] : List api_Pair), (⟨0, 0⟩ : api_Span), 0⟩ : api_Mut), 0, false⟩ : api_Held), false)
  else
    none

noncomputable def hold_Queue_find_n0 (a1 : Int) (a2 : Int) : Unit :=
  ()

noncomputable def hold_Queue_Find_n0 (a1 : Int) (a2 : Int) : api_Held × Bool :=
  ((⟨(⟨0, 0, 0, ([] : List api_Pair), (⟨0, 0⟩ : api_Span), 0⟩ : api_Mut), 0, false⟩ : api_Held), false)

noncomputable def hold_Queue_Add_n0 (a1 : api_Held) : Int :=
  1

noncomputable def hold_Queue_Final_n0 (a1 : Int) (a2 : Int) (a3 : Int) : Int :=
  1

noncomputable def hold_Queue_Drop_n0 (a1 : Int) (a2 : Int) : Int :=
  1

noncomputable def hold_Queue_All_n0 : List api_Held :=
  ([] : List api_Held)

noncomputable def hold_Queue_Floor_n0 (a1 : Int) : Option Int :=
  if hold_Queue_Len_n0 = 0 then
    some a1
  else
    none

noncomputable def splicelaw06_HoldNil.j1 (y1_6 : Bool) : Option Bool :=
  some y1_6

noncomputable def splicelaw06_HoldNil (a0 : api_Held) (a1 : Int) (a2 : Int) : Option Bool :=
  (hold_Queue_Pop_n0).bind fun v1 =>
  bnd (hold_Queue_Find_n0 a1 a2) fun (v2 : api_Held × Bool) =>
  (splicelaw06_awake).bind fun v3 =>
  if v3 = true then
    if (hold_Queue_Add_n0 a0) = 1 then
      if (hold_Queue_Final_n0 a1 a2 a1) = 1 then
        if (hold_Queue_Drop_n0 a1 a2) = 1 then
          if v1.2 = true then
            splicelaw06_HoldNil.j1 false
          else
            if v2.2 = true then
              splicelaw06_HoldNil.j1 false
            else
              if (IntKind.wrap .i64 (v1.1.Time + ((v2.1).Time))) = 0 then
                bnd (hold_Queue_All_n0) fun (v4 : List api_Held) =>
                if (v4.length : Int) = 0 then
                  if hold_Queue_Len_n0 = 0 then
                    (hold_Queue_Floor_n0 a1).bind fun v5 =>
                    splicelaw06_HoldNil.j1 (v5 == a1)
                  else
                    splicelaw06_HoldNil.j1 false
                else
                  splicelaw06_HoldNil.j1 false
              else
                splicelaw06_HoldNil.j1 false
        else
          splicelaw06_HoldNil.j1 false
      else
        splicelaw06_HoldNil.j1 false
    else
      splicelaw06_HoldNil.j1 false
  else
    splicelaw06_HoldNil.j1 false

inductive splicelaw06_World_step.S where
  | l1 (x1_r1 : QL) (x1_r3 : List api_Stamp)

noncomputable def splicelaw06_World_step.j3 (a0 : splicelaw06_World) (y2_b0_1 : Int) (x1_r3 : List api_Stamp) (v2 : api_Held × Bool × QL) (v3 : api_Stamp) (y3_122 : Bool) : Option (splicelaw06_World_step.S ⊕ (Bool × splicelaw06_World)) :=
  if y3_122 = true then
    some (.inr (false, (⟨v2.2.2, y2_b0_1, x1_r3, a0.floor⟩ : splicelaw06_World)))
  else
    if (x1_r3.length + 1) * 24 ≤ 140737488355328 then
      some (.inl (.l1 v2.2.2 (x1_r3 ++ [v3])))
    else none

noncomputable def splicelaw06_World_step.l1 (a0 : splicelaw06_World) (y2_b0_1 : Int) (x1_r1 : QL) (x1_r3 : List api_Stamp) : Option (splicelaw06_World_step.S ⊕ (Bool × splicelaw06_World)) :=
  bnd (qPop x1_r1) fun (v2 : api_Held × Bool × QL) =>
  if v2.2.1 = true then
    bnd (mut_Stamp ((v2.1).Time) ((v2.1).M)) fun (v3 : api_Stamp) =>
    if (x1_r3.length : Int) > 0 then
      if 0 ≤ (IntKind.wrap .i64 ((x1_r3.length : Int) - 1)) ∧ (IntKind.wrap .i64 ((x1_r3.length : Int) - 1)) < (x1_r3.length : Int) then
        (mut_Compare (x1_r3.getD ((IntKind.wrap .i64 ((x1_r3.length : Int) - 1)).toNat) api_Stamp.z) v3).bind fun v4 =>
        if v4 ≥ 0 then
          splicelaw06_World_step.j3 a0 y2_b0_1 x1_r3 v2 v3 true
        else
          splicelaw06_World_step.j3 a0 y2_b0_1 x1_r3 v2 v3 (decide (((v2.1).Time) ≤ a0.floor))
      else none
    else
      splicelaw06_World_step.j3 a0 y2_b0_1 x1_r3 v2 v3 (decide (((v2.1).Time) ≤ a0.floor))
  else
    if (qFloor v2.2.2 y2_b0_1) < a0.floor then
      some (.inr (false, (⟨v2.2.2, y2_b0_1, x1_r3, a0.floor⟩ : splicelaw06_World)))
    else
      some (.inr (true, (⟨v2.2.2, y2_b0_1, x1_r3, qFloor v2.2.2 y2_b0_1⟩ : splicelaw06_World)))

noncomputable def splicelaw06_World_step.step (a0 : splicelaw06_World) (y2_b0_1 : Int) : splicelaw06_World_step.S → Option (splicelaw06_World_step.S ⊕ (Bool × splicelaw06_World))
  | .l1 x1_r1 x1_r3 => splicelaw06_World_step.l1 a0 y2_b0_1 x1_r1 x1_r3

noncomputable def splicelaw06_World_step.j2 (a0 : splicelaw06_World) (y2_b0_1 : Int) (y2_r1 : QL) : Option (Bool × splicelaw06_World) :=
  goLoop (splicelaw06_World_step.step a0 y2_b0_1) (.l1 y2_r1 a0.popped)

noncomputable def splicelaw06_World_step.j1 (a0 : splicelaw06_World) (a1 : api_Mut) (a2 : Int) (y1_66 : Bool) (y1_r1 : QL) : Option (Bool × splicelaw06_World) :=
  if y1_66 = true then
    splicelaw06_World_step.j2 a0 (iMax a0.clock (IntKind.wrap .i64 ((((qFind a0.q a1.Client a1.Seq).1).Time) + a2))) y1_r1
  else
    splicelaw06_World_step.j2 a0 a0.clock y1_r1

noncomputable def splicelaw06_World_step (a0 : splicelaw06_World) (a1 : api_Mut) (a2 : Int) (a3 : Bool) : Option (Bool × splicelaw06_World) :=
  if a3 = true then
    (qAdd a0.q (⟨a1, IntKind.wrap .i64 (a0.clock + 1), false⟩ : api_Held)).bind fun v1 =>
    if v1.1 = 0 then
      splicelaw06_World_step.j2 a0 (IntKind.wrap .i64 (a0.clock + 1)) v1.2
    else
      splicelaw06_World_step.j2 a0 a0.clock v1.2
  else
    if ((qFind a0.q a1.Client a1.Seq).2) = true then
      splicelaw06_World_step.j1 a0 a1 a2 (((qFinal a0.q a1.Client a1.Seq (IntKind.wrap .i64 ((((qFind a0.q a1.Client a1.Seq).1).Time) + a2))).1) == 0) ((qFinal a0.q a1.Client a1.Seq (IntKind.wrap .i64 ((((qFind a0.q a1.Client a1.Seq).1).Time) + a2))).2)
    else
      splicelaw06_World_step.j1 a0 a1 a2 false a0.q

inductive splicelaw06_HoldRises.S where
  | l1 (x1_4 : Int) (x1_b0_1 : Int) (x1_b0_3 : Int) (x1_r1 : QL) (x1_r2 : List api_Stamp)

noncomputable def splicelaw06_HoldRises.j3 (x1_4 : Int) (y3_56 : Bool) (y3_b0_1 : Int) (y3_b0_3 : Int) (y3_r1 : QL) (y3_r2 : List api_Stamp) : Option (splicelaw06_HoldRises.S ⊕ Bool) :=
  if y3_56 = true then
    some (.inr false)
  else
    some (.inl (.l1 (IntKind.wrap .i64 (x1_4 + 1)) y3_b0_1 y3_b0_3 y3_r1 y3_r2))

noncomputable def splicelaw06_HoldRises.j2 (a0 : List splicelaw06_Come) (x1_4 : Int) (x1_b0_1 : Int) (x1_b0_3 : Int) (x1_r1 : QL) (x1_r2 : List api_Stamp) (y2_24 : Bool) : Option (splicelaw06_HoldRises.S ⊕ Bool) :=
  if y2_24 = true then
    if 0 ≤ x1_4 ∧ x1_4 < (a0.length : Int) then
      if ((((a0.getD x1_4.toNat splicelaw06_Come.z).M).Pairs).length : Int) ≤ 20 then
        (splicelaw06_World_step (⟨x1_r1, x1_b0_1, x1_r2, x1_b0_3⟩ : splicelaw06_World) ((a0.getD x1_4.toNat splicelaw06_Come.z).M) (IntKind.wrap .i64 (Int.tmod ((a0.getD x1_4.toNat splicelaw06_Come.z).More) 16)) ((a0.getD x1_4.toNat splicelaw06_Come.z).Add)).bind fun v3 =>
        splicelaw06_HoldRises.j3 x1_4 (!v3.1) v3.2.clock v3.2.floor v3.2.q v3.2.popped
      else
        splicelaw06_HoldRises.j3 x1_4 false x1_b0_1 x1_b0_3 x1_r1 x1_r2
    else none
  else
    some (.inr true)

noncomputable def splicelaw06_HoldRises.l1 (a0 : List splicelaw06_Come) (x1_4 : Int) (x1_b0_1 : Int) (x1_b0_3 : Int) (x1_r1 : QL) (x1_r2 : List api_Stamp) : Option (splicelaw06_HoldRises.S ⊕ Bool) :=
  if x1_4 < (a0.length : Int) then
    splicelaw06_HoldRises.j2 a0 x1_4 x1_b0_1 x1_b0_3 x1_r1 x1_r2 (decide (x1_4 < 150))
  else
    splicelaw06_HoldRises.j2 a0 x1_4 x1_b0_1 x1_b0_3 x1_r1 x1_r2 false

noncomputable def splicelaw06_HoldRises.step (a0 : List splicelaw06_Come) : splicelaw06_HoldRises.S → Option (splicelaw06_HoldRises.S ⊕ Bool)
  | .l1 x1_4 x1_b0_1 x1_b0_3 x1_r1 x1_r2 => splicelaw06_HoldRises.l1 a0 x1_4 x1_b0_1 x1_b0_3 x1_r1 x1_r2

noncomputable def splicelaw06_HoldRises.j1 (a0 : List splicelaw06_Come) (v1 : QL) (y1_16 : Bool) : Option Bool :=
  if y1_16 = true then
    some false
  else
    goLoop (splicelaw06_HoldRises.step a0) (.l1 0 0 0 v1 ([] : List api_Stamp))

noncomputable def splicelaw06_HoldRises (a0 : List splicelaw06_Come) : Option Bool :=
  bnd (qNew) fun (v1 : QL) =>
  (splicelaw06_awake).bind fun v2 =>
  if v2 = true then
    splicelaw06_HoldRises.j1 a0 v1 false
  else
    splicelaw06_HoldRises.j1 a0 v1 true

inductive splicelaw04_Ref.S where
  | l1 (x1_4 : Int) (x1_r3 : List spliceref04_Pair)

noncomputable def splicelaw04_Ref.l1 (a0 : api_Mut) (x1_4 : Int) (x1_r3 : List spliceref04_Pair) : Option (splicelaw04_Ref.S ⊕ spliceref04_Mut) :=
  if x1_4 < (a0.Pairs.length : Int) then
    if 0 ≤ x1_4 ∧ x1_4 < (a0.Pairs.length : Int) then
      if (x1_r3.length + 1) * 16 ≤ 140737488355328 then
        some (.inl (.l1 (IntKind.wrap .i64 (x1_4 + 1)) (x1_r3 ++ [(⟨(a0.Pairs.getD x1_4.toNat api_Pair.z).Key, (a0.Pairs.getD x1_4.toNat api_Pair.z).Val⟩ : spliceref04_Pair)])))
      else none
    else none
  else
    some (.inr (⟨a0.Client, a0.Seq, a0.Kind, x1_r3, (⟨a0.Over.Lo, a0.Over.Hi⟩ : spliceref03_Span), a0.Old⟩ : spliceref04_Mut))

noncomputable def splicelaw04_Ref.step (a0 : api_Mut) : splicelaw04_Ref.S → Option (splicelaw04_Ref.S ⊕ spliceref04_Mut)
  | .l1 x1_4 x1_r3 => splicelaw04_Ref.l1 a0 x1_4 x1_r3

noncomputable def splicelaw04_Ref (a0 : api_Mut) : Option spliceref04_Mut :=
  goLoop (splicelaw04_Ref.step a0) (.l1 0 ([] : List spliceref04_Pair))

noncomputable def splicelaw06_Ref (a0 : api_Held) : Option spliceref06_Held :=
  (splicelaw04_Ref a0.M).bind fun v1 =>
  some (⟨v1, a0.Time, a0.Final⟩ : spliceref06_Held)

inductive splicelaw06_Refs.S where
  | l1 (x1_4 : Int) (x1_r0 : List spliceref06_Held)

noncomputable def splicelaw06_Refs.l1 (a0 : List api_Held) (x1_4 : Int) (x1_r0 : List spliceref06_Held) : Option (splicelaw06_Refs.S ⊕ (List spliceref06_Held)) :=
  if x1_4 < (a0.length : Int) then
    if 0 ≤ x1_4 ∧ x1_4 < (a0.length : Int) then
      (splicelaw06_Ref (a0.getD x1_4.toNat api_Held.z)).bind fun v1 =>
      if (x1_r0.length + 1) * 88 ≤ 140737488355328 then
        some (.inl (.l1 (IntKind.wrap .i64 (x1_4 + 1)) (x1_r0 ++ [v1])))
      else none
    else none
  else
    some (.inr x1_r0)

noncomputable def splicelaw06_Refs.step (a0 : List api_Held) : splicelaw06_Refs.S → Option (splicelaw06_Refs.S ⊕ (List spliceref06_Held))
  | .l1 x1_4 x1_r0 => splicelaw06_Refs.l1 a0 x1_4 x1_r0

noncomputable def splicelaw06_Refs (a0 : List api_Held) : Option (List spliceref06_Held) :=
  goLoop (splicelaw06_Refs.step a0) (.l1 0 ([] : List spliceref06_Held))

inductive spliceref04_Same.S where
  | l1 (x1_5 : Int)

noncomputable def spliceref04_Same.l1 (a0 : spliceref04_Mut) (a1 : spliceref04_Mut) (x1_5 : Int) : Option (spliceref04_Same.S ⊕ Bool) :=
  if x1_5 < (a0.Pairs.length : Int) then
    if 0 ≤ x1_5 ∧ x1_5 < (a0.Pairs.length : Int) then
      if 0 ≤ x1_5 ∧ x1_5 < (a1.Pairs.length : Int) then
        if ((a0.Pairs.getD x1_5.toNat spliceref04_Pair.z).Key) = ((a1.Pairs.getD x1_5.toNat spliceref04_Pair.z).Key) then
          if ((a0.Pairs.getD x1_5.toNat spliceref04_Pair.z).Val) = ((a1.Pairs.getD x1_5.toNat spliceref04_Pair.z).Val) then
            some (.inl (.l1 (IntKind.wrap .i64 (x1_5 + 1))))
          else
            some (.inr false)
        else
          if ((a0.Pairs.getD x1_5.toNat spliceref04_Pair.z).Val) = ((a1.Pairs.getD x1_5.toNat spliceref04_Pair.z).Val) then
            some (.inr false)
          else
            some (.inr false)
      else none
    else none
  else
    some (.inr true)

noncomputable def spliceref04_Same.step (a0 : spliceref04_Mut) (a1 : spliceref04_Mut) : spliceref04_Same.S → Option (spliceref04_Same.S ⊕ Bool)
  | .l1 x1_5 => spliceref04_Same.l1 a0 a1 x1_5

noncomputable def spliceref04_Same.j1 (a0 : spliceref04_Mut) (a1 : spliceref04_Mut) (y1_47 : Bool) : Option Bool :=
  if y1_47 = true then
    some false
  else
    goLoop (spliceref04_Same.step a0 a1) (.l1 0)

noncomputable def spliceref04_Same (a0 : spliceref04_Mut) (a1 : spliceref04_Mut) : Option Bool :=
  if a0.Client = a1.Client then
    if a0.Seq = a1.Seq then
      if a0.Kind = a1.Kind then
        if a0.Over.Lo = a1.Over.Lo then
          if a0.Over.Hi = a1.Over.Hi then
            if a0.Old = a1.Old then
              spliceref04_Same.j1 a0 a1 ((a0.Pairs.length : Int) != (a1.Pairs.length : Int))
            else
              spliceref04_Same.j1 a0 a1 true
          else
            spliceref04_Same.j1 a0 a1 true
        else
          if a0.Over.Hi = a1.Over.Hi then
            spliceref04_Same.j1 a0 a1 true
          else
            spliceref04_Same.j1 a0 a1 true
      else
        spliceref04_Same.j1 a0 a1 true
    else
      spliceref04_Same.j1 a0 a1 true
  else
    spliceref04_Same.j1 a0 a1 true

noncomputable def spliceref06_SameOne.j1 (y1_4 : Bool) : Option Bool :=
  some y1_4

noncomputable def spliceref06_SameOne (a0 : spliceref06_Held) (a1 : spliceref06_Held) : Option Bool :=
  (spliceref04_Same a0.M a1.M).bind fun v1 =>
  if v1 = true then
    if a0.Time = a1.Time then
      spliceref06_SameOne.j1 (a0.Final == a1.Final)
    else
      spliceref06_SameOne.j1 false
  else
    spliceref06_SameOne.j1 false

inductive spliceref06_Same.S where
  | l1 (x1_5 : Int)

noncomputable def spliceref06_Same.l1 (a0 : List spliceref06_Held) (a1 : List spliceref06_Held) (x1_5 : Int) : Option (spliceref06_Same.S ⊕ Bool) :=
  if x1_5 < (a0.length : Int) then
    if 0 ≤ x1_5 ∧ x1_5 < (a0.length : Int) then
      if 0 ≤ x1_5 ∧ x1_5 < (a1.length : Int) then
        (spliceref06_SameOne (a0.getD x1_5.toNat spliceref06_Held.z) (a1.getD x1_5.toNat spliceref06_Held.z)).bind fun v1 =>
        if v1 = true then
          some (.inl (.l1 (IntKind.wrap .i64 (x1_5 + 1))))
        else
          some (.inr false)
      else none
    else none
  else
    some (.inr true)

noncomputable def spliceref06_Same.step (a0 : List spliceref06_Held) (a1 : List spliceref06_Held) : spliceref06_Same.S → Option (spliceref06_Same.S ⊕ Bool)
  | .l1 x1_5 => spliceref06_Same.l1 a0 a1 x1_5

noncomputable def spliceref06_Same (a0 : List spliceref06_Held) (a1 : List spliceref06_Held) : Option Bool :=
  if (a0.length : Int) = (a1.length : Int) then
    goLoop (spliceref06_Same.step a0 a1) (.l1 0)
  else
    some false

inductive splicelaw06_HoldOrder.S where
  | l1 (x1_6 : Int) (x1_r0 : QL) (x1_r2 : List api_Held)
  | l2 (x1_r0 : QL) (x1_r2 : List api_Held) (x2_7 : Int) (x2_r1 : QL)

noncomputable def splicelaw06_HoldOrder.j4 (x1_6 : Int) (y3_r0 : QL) (y4_r2 : List api_Held) : Option (splicelaw06_HoldOrder.S ⊕ Bool) :=
  some (.inl (.l1 (IntKind.wrap .i64 (x1_6 + 1)) y3_r0 y4_r2))

noncomputable def splicelaw06_HoldOrder.j3 (a0 : List api_Held) (x1_6 : Int) (x1_r2 : List api_Held) (y3_47 : Bool) (y3_r0 : QL) : Option (splicelaw06_HoldOrder.S ⊕ Bool) :=
  if y3_47 = true then
    if (x1_r2.length + 1) * 88 ≤ 140737488355328 then
      splicelaw06_HoldOrder.j4 x1_6 y3_r0 (x1_r2 ++ [a0.getD x1_6.toNat api_Held.z])
    else none
  else
    splicelaw06_HoldOrder.j4 x1_6 y3_r0 x1_r2

noncomputable def splicelaw06_HoldOrder.j2 (a0 : List api_Held) (v2 : QL) (x1_6 : Int) (x1_r0 : QL) (x1_r2 : List api_Held) (y2_28 : Bool) : Option (splicelaw06_HoldOrder.S ⊕ Bool) :=
  if y2_28 = true then
    if 0 ≤ x1_6 ∧ x1_6 < (a0.length : Int) then
      if ((((a0.getD x1_6.toNat api_Held.z).M).Pairs).length : Int) ≤ 20 then
        (qAdd x1_r0 (a0.getD x1_6.toNat api_Held.z)).bind fun v4 =>
        splicelaw06_HoldOrder.j3 a0 x1_6 x1_r2 (v4.1 == 0) v4.2
      else
        splicelaw06_HoldOrder.j3 a0 x1_6 x1_r2 false x1_r0
    else none
  else
    some (.inl (.l2 x1_r0 x1_r2 (IntKind.wrap .i64 ((x1_r2.length : Int) - 1)) v2))

noncomputable def splicelaw06_HoldOrder.j5 (y5_2 : Bool) : Option (splicelaw06_HoldOrder.S ⊕ Bool) :=
  some (.inr y5_2)

noncomputable def splicelaw06_HoldOrder.l1 (a0 : List api_Held) (v2 : QL) (x1_6 : Int) (x1_r0 : QL) (x1_r2 : List api_Held) : Option (splicelaw06_HoldOrder.S ⊕ Bool) :=
  if x1_6 < (a0.length : Int) then
    splicelaw06_HoldOrder.j2 a0 v2 x1_6 x1_r0 x1_r2 (decide ((x1_r2.length : Int) < 60))
  else
    splicelaw06_HoldOrder.j2 a0 v2 x1_6 x1_r0 x1_r2 false

noncomputable def splicelaw06_HoldOrder.l2 (x1_r0 : QL) (x1_r2 : List api_Held) (x2_7 : Int) (x2_r1 : QL) : Option (splicelaw06_HoldOrder.S ⊕ Bool) :=
  if x2_7 ≥ 0 then
    if 0 ≤ x2_7 ∧ x2_7 < (x1_r2.length : Int) then
      (qAdd x2_r1 (x1_r2.getD x2_7.toNat api_Held.z)).bind fun v10 =>
      if v10.1 = 0 then
        some (.inl (.l2 x1_r0 x1_r2 (IntKind.wrap .i64 (x2_7 - 1)) v10.2))
      else
        some (.inr false)
    else none
  else
    (qAll x1_r0).bind fun v5 =>
    (splicelaw06_Refs v5).bind fun v6 =>
    (qAll x2_r1).bind fun v7 =>
    (splicelaw06_Refs v7).bind fun v8 =>
    (spliceref06_Same v6 v8).bind fun v9 =>
    if v9 = true then
      splicelaw06_HoldOrder.j5 ((qFloor x1_r0 5) == (qFloor x2_r1 5))
    else
      splicelaw06_HoldOrder.j5 false

noncomputable def splicelaw06_HoldOrder.step (a0 : List api_Held) (v2 : QL) : splicelaw06_HoldOrder.S → Option (splicelaw06_HoldOrder.S ⊕ Bool)
  | .l1 x1_6 x1_r0 x1_r2 => splicelaw06_HoldOrder.l1 a0 v2 x1_6 x1_r0 x1_r2
  | .l2 x1_r0 x1_r2 x2_7 x2_r1 => splicelaw06_HoldOrder.l2 x1_r0 x1_r2 x2_7 x2_r1

noncomputable def splicelaw06_HoldOrder.j1 (a0 : List api_Held) (v1 : QL) (v2 : QL) (y1_19 : Bool) : Option Bool :=
  if y1_19 = true then
    some false
  else
    goLoop (splicelaw06_HoldOrder.step a0 v2) (.l1 0 v1 ([] : List api_Held))

noncomputable def splicelaw06_HoldOrder (a0 : List api_Held) : Option Bool :=
  bnd (qNew) fun (v1 : QL) =>
  bnd (qNew) fun (v2 : QL) =>
  (splicelaw06_awake).bind fun v3 =>
  if v3 = true then
    splicelaw06_HoldOrder.j1 a0 v1 v2 false
  else
    splicelaw06_HoldOrder.j1 a0 v1 v2 true

noncomputable def splicelaw06_light (a0 : splicelaw06_Act) : Bool :=
  decide ((a0.H.M.Pairs.length : Int) ≤ 20)

noncomputable def spliceref03_One.j1 (y1_2 : Bool) : Bool :=
  y1_2

noncomputable def spliceref03_One (a0 : spliceref03_Span) : Bool :=
  if a0.Lo ≥ 0 then
    if a0.Lo < a0.Hi then
      spliceref03_One.j1 (decide (a0.Hi ≤ 4096))
    else
      spliceref03_One.j1 false
  else
    spliceref03_One.j1 false

noncomputable def spliceref04_value.j1 (y1_2 : Bool) : Bool :=
  y1_2

noncomputable def spliceref04_value (a0 : Int) : Bool :=
  if a0 ≥ (-1099511627776) then
    spliceref04_value.j1 (decide (a0 ≤ 1099511627776))
  else
    spliceref04_value.j1 false

inductive spliceref04_pairs.S where
  | l1 (x1_7 : Int)

noncomputable def spliceref04_pairs.j2 (x1_7 : Int) (y2_46 : Bool) : Option (spliceref04_pairs.S ⊕ Bool) :=
  if y2_46 = true then
    some (.inr false)
  else
    some (.inl (.l1 (IntKind.wrap .i64 (x1_7 + 1))))

noncomputable def spliceref04_pairs.l1 (a0 : List spliceref04_Pair) (x1_7 : Int) : Option (spliceref04_pairs.S ⊕ Bool) :=
  if x1_7 < (a0.length : Int) then
    if 0 ≤ x1_7 ∧ x1_7 < (a0.length : Int) then
      if ((a0.getD x1_7.toNat spliceref04_Pair.z).Key) < 0 then
        spliceref04_pairs.j2 x1_7 true
      else
        if ((a0.getD x1_7.toNat spliceref04_Pair.z).Key) > 4095 then
          spliceref04_pairs.j2 x1_7 true
        else
          spliceref04_pairs.j2 x1_7 (!(spliceref04_value ((a0.getD x1_7.toNat spliceref04_Pair.z).Val)))
    else none
  else
    some (.inr true)

noncomputable def spliceref04_pairs.step (a0 : List spliceref04_Pair) : spliceref04_pairs.S → Option (spliceref04_pairs.S ⊕ Bool)
  | .l1 x1_7 => spliceref04_pairs.l1 a0 x1_7

noncomputable def spliceref04_pairs.j1 (a0 : List spliceref04_Pair) (y1_17 : Bool) : Option Bool :=
  if y1_17 = true then
    some false
  else
    goLoop (spliceref04_pairs.step a0) (.l1 0)

noncomputable def spliceref04_pairs (a0 : List spliceref04_Pair) (a1 : Int) (a2 : Int) : Option Bool :=
  if (a0.length : Int) < a1 then
    spliceref04_pairs.j1 a0 true
  else
    spliceref04_pairs.j1 a0 (decide ((a0.length : Int) > a2))

noncomputable def spliceref04_Check.j2 (y2_2 : Bool) : Option Bool :=
  some y2_2

noncomputable def spliceref04_Check.j4 (y4_2 : Bool) : Option Bool :=
  some y4_2

inductive spliceref04_Check.S where
  | l1 (x1_3 : Int)

noncomputable def spliceref04_Check.l1 (a0 : spliceref04_Mut) (x1_3 : Int) : Option (spliceref04_Check.S ⊕ Bool) :=
  if x1_3 < (a0.Pairs.length : Int) then
    if 0 ≤ (IntKind.wrap .i64 (x1_3 - 1)) ∧ (IntKind.wrap .i64 (x1_3 - 1)) < (a0.Pairs.length : Int) then
      if 0 ≤ x1_3 ∧ x1_3 < (a0.Pairs.length : Int) then
        if ((a0.Pairs.getD ((IntKind.wrap .i64 (x1_3 - 1)).toNat) spliceref04_Pair.z).Key) ≥ ((a0.Pairs.getD x1_3.toNat spliceref04_Pair.z).Key) then
          some (.inr false)
        else
          some (.inl (.l1 (IntKind.wrap .i64 (x1_3 + 1))))
      else none
    else none
  else
    (spliceref04_pairs a0.Pairs 1 8).bind fun v2 =>
    some (.inr v2)

noncomputable def spliceref04_Check.step (a0 : spliceref04_Mut) : spliceref04_Check.S → Option (spliceref04_Check.S ⊕ Bool)
  | .l1 x1_3 => spliceref04_Check.l1 a0 x1_3

noncomputable def spliceref04_Check.j5 (y5_2 : Bool) : Option Bool :=
  some y5_2

noncomputable def spliceref04_Check.j3 (a0 : spliceref04_Mut) (y3_48 : Bool) : Option Bool :=
  if y3_48 = true then
    some false
  else
    if a0.Kind = 4 then
      (spliceref04_pairs a0.Pairs 1 1).bind fun v1 =>
      if v1 = true then
        if (spliceref04_value a0.Old) = true then
          spliceref04_Check.j4 true
        else
          spliceref04_Check.j4 (a0.Old == 1099511627777)
      else
        spliceref04_Check.j4 false
    else
      if a0.Old = 0 then
        if a0.Kind = 1 then
          goLoop (spliceref04_Check.step a0) (.l1 1)
        else
          if a0.Kind = 3 then
            (spliceref04_pairs a0.Pairs 1 1).bind fun v3 =>
            some v3
          else
            if a0.Kind = 5 then
              (spliceref04_pairs a0.Pairs 2 2).bind fun v4 =>
              if v4 = true then
                if (0 : Int) ≤ 0 ∧ 0 < (a0.Pairs.length : Int) then
                  if (0 : Int) ≤ 1 ∧ 1 < (a0.Pairs.length : Int) then
                    if ((a0.Pairs.getD 0 spliceref04_Pair.z).Key) = ((a0.Pairs.getD 1 spliceref04_Pair.z).Key) then
                      spliceref04_Check.j5 false
                    else
                      if ((a0.Pairs.getD 0 spliceref04_Pair.z).Val) = ((a0.Pairs.getD 1 spliceref04_Pair.z).Val) then
                        spliceref04_Check.j5 (decide (((a0.Pairs.getD 0 spliceref04_Pair.z).Val) ≥ 0))
                      else
                        spliceref04_Check.j5 false
                  else none
                else none
              else
                spliceref04_Check.j5 false
            else
              spliceref04_Check.j5 false
      else
        some false

noncomputable def spliceref04_Check.j1 (a0 : spliceref04_Mut) (y1_21 : Bool) : Option Bool :=
  if y1_21 = true then
    some false
  else
    if a0.Kind = 2 then
      if (a0.Pairs.length : Int) = 0 then
        if a0.Old = 0 then
          spliceref04_Check.j2 (spliceref03_One a0.Over)
        else
          spliceref04_Check.j2 false
      else
        spliceref04_Check.j2 false
    else
      if a0.Over.Lo = 0 then
        spliceref04_Check.j3 a0 (a0.Over.Hi != 0)
      else
        spliceref04_Check.j3 a0 true

noncomputable def spliceref04_Check (a0 : spliceref04_Mut) : Option Bool :=
  if a0.Client < 1 then
    spliceref04_Check.j1 a0 true
  else
    if a0.Client > 1048576 then
      spliceref04_Check.j1 a0 true
    else
      if a0.Seq < 1 then
        spliceref04_Check.j1 a0 true
      else
        spliceref04_Check.j1 a0 (decide (a0.Seq > 1073741824))

inductive spliceref06_find.S where
  | l1 (x1_7 : Int)

noncomputable def spliceref06_find.j1 (x1_7 : Int) (y1_31 : Bool) : Option (spliceref06_find.S ⊕ Int) :=
  if y1_31 = true then
    some (.inr x1_7)
  else
    some (.inl (.l1 (IntKind.wrap .i64 (x1_7 + 1))))

noncomputable def spliceref06_find.l1 (a0 : List spliceref06_Held) (a1 : Int) (a2 : Int) (x1_7 : Int) : Option (spliceref06_find.S ⊕ Int) :=
  if x1_7 < (a0.length : Int) then
    if 0 ≤ x1_7 ∧ x1_7 < (a0.length : Int) then
      if (((a0.getD x1_7.toNat spliceref06_Held.z).M).Client) = a1 then
        spliceref06_find.j1 x1_7 ((((a0.getD x1_7.toNat spliceref06_Held.z).M).Seq) == a2)
      else
        spliceref06_find.j1 x1_7 false
    else none
  else
    some (.inr (-1))

noncomputable def spliceref06_find.step (a0 : List spliceref06_Held) (a1 : Int) (a2 : Int) : spliceref06_find.S → Option (spliceref06_find.S ⊕ Int)
  | .l1 x1_7 => spliceref06_find.l1 a0 a1 a2 x1_7

noncomputable def spliceref06_find (a0 : List spliceref06_Held) (a1 : Int) (a2 : Int) : Option Int :=
  goLoop (spliceref06_find.step a0 a1 a2) (.l1 0)

noncomputable def spliceref06_stamp (a0 : spliceref06_Held) : spliceref04_Stamp :=
  (⟨a0.Time, a0.M.Client, a0.M.Seq⟩ : spliceref04_Stamp)

noncomputable def spliceref04_Ahead (a0 : spliceref04_Stamp) (a1 : spliceref04_Stamp) : Bool :=
  if a0.Time = a1.Time then
    if a0.Client = a1.Client then
      decide (a0.Seq < a1.Seq)
    else
      decide (a0.Client < a1.Client)
  else
    decide (a0.Time < a1.Time)

inductive spliceref06_with.S where
  | l1 (x1_6 : Bool) (x1_7 : Int) (x1_r1 : List spliceref06_Held)

noncomputable def spliceref06_with.j3 (a0 : List spliceref06_Held) (x1_7 : Int) (y3_6 : Bool) (y3_r1 : List spliceref06_Held) : Option (spliceref06_with.S ⊕ (List spliceref06_Held)) :=
  if 0 ≤ x1_7 ∧ x1_7 < (a0.length : Int) then
    if (y3_r1.length + 1) * 88 ≤ 140737488355328 then
      some (.inl (.l1 y3_6 (IntKind.wrap .i64 (x1_7 + 1)) (y3_r1 ++ [a0.getD x1_7.toNat spliceref06_Held.z])))
    else none
  else none

noncomputable def spliceref06_with.j2 (a0 : List spliceref06_Held) (a1 : spliceref06_Held) (x1_6 : Bool) (x1_7 : Int) (x1_r1 : List spliceref06_Held) (y2_25 : Bool) : Option (spliceref06_with.S ⊕ (List spliceref06_Held)) :=
  if y2_25 = true then
    if (x1_r1.length + 1) * 88 ≤ 140737488355328 then
      spliceref06_with.j3 a0 x1_7 true (x1_r1 ++ [a1])
    else none
  else
    spliceref06_with.j3 a0 x1_7 x1_6 x1_r1

noncomputable def spliceref06_with.j1 (y1_r0 : List spliceref06_Held) : Option (spliceref06_with.S ⊕ (List spliceref06_Held)) :=
  some (.inr y1_r0)

noncomputable def spliceref06_with.l1 (a0 : List spliceref06_Held) (a1 : spliceref06_Held) (x1_6 : Bool) (x1_7 : Int) (x1_r1 : List spliceref06_Held) : Option (spliceref06_with.S ⊕ (List spliceref06_Held)) :=
  if x1_7 < (a0.length : Int) then
    if x1_6 = true then
      spliceref06_with.j2 a0 a1 x1_6 x1_7 x1_r1 false
    else
      if 0 ≤ x1_7 ∧ x1_7 < (a0.length : Int) then
        spliceref06_with.j2 a0 a1 x1_6 x1_7 x1_r1 (spliceref04_Ahead (spliceref06_stamp a1) (spliceref06_stamp (a0.getD x1_7.toNat spliceref06_Held.z)))
      else none
  else
    if x1_6 = true then
      spliceref06_with.j1 x1_r1
    else
      if (x1_r1.length + 1) * 88 ≤ 140737488355328 then
        spliceref06_with.j1 (x1_r1 ++ [a1])
      else none

noncomputable def spliceref06_with.step (a0 : List spliceref06_Held) (a1 : spliceref06_Held) : spliceref06_with.S → Option (spliceref06_with.S ⊕ (List spliceref06_Held))
  | .l1 x1_6 x1_7 x1_r1 => spliceref06_with.l1 a0 a1 x1_6 x1_7 x1_r1

noncomputable def spliceref06_with (a0 : List spliceref06_Held) (a1 : spliceref06_Held) : Option (List spliceref06_Held) :=
  goLoop (spliceref06_with.step a0 a1) (.l1 false 0 ([] : List spliceref06_Held))

noncomputable def spliceref06_Add.j1 (a0 : List spliceref06_Held) (a1 : spliceref06_Held) (y1_19 : Bool) : Option ((List spliceref06_Held) × Int) :=
  if y1_19 = true then
    some (a0, 1)
  else
    (spliceref06_find a0 a1.M.Client a1.M.Seq).bind fun v2 =>
    if v2 ≥ 0 then
      some (a0, 7)
    else
      (spliceref06_with a0 a1).bind fun v3 =>
      some (v3, 0)

noncomputable def spliceref06_Add (a0 : List spliceref06_Held) (a1 : spliceref06_Held) : Option ((List spliceref06_Held) × Int) :=
  (spliceref04_Check a1.M).bind fun v1 =>
  if v1 = true then
    if a1.Time < 0 then
      spliceref06_Add.j1 a0 a1 true
    else
      spliceref06_Add.j1 a0 a1 (decide (a1.Time > 1099511627775))
  else
    spliceref06_Add.j1 a0 a1 true

inductive spliceref06_without.S where
  | l1 (x1_6 : Int) (x1_r0 : List spliceref06_Held)

noncomputable def spliceref06_without.j1 (x1_6 : Int) (y1_r0 : List spliceref06_Held) : Option (spliceref06_without.S ⊕ (List spliceref06_Held)) :=
  some (.inl (.l1 (IntKind.wrap .i64 (x1_6 + 1)) y1_r0))

noncomputable def spliceref06_without.l1 (a0 : List spliceref06_Held) (a1 : Int) (x1_6 : Int) (x1_r0 : List spliceref06_Held) : Option (spliceref06_without.S ⊕ (List spliceref06_Held)) :=
  if x1_6 < (a0.length : Int) then
    if x1_6 = a1 then
      spliceref06_without.j1 x1_6 x1_r0
    else
      if 0 ≤ x1_6 ∧ x1_6 < (a0.length : Int) then
        if (x1_r0.length + 1) * 88 ≤ 140737488355328 then
          spliceref06_without.j1 x1_6 (x1_r0 ++ [a0.getD x1_6.toNat spliceref06_Held.z])
        else none
      else none
  else
    some (.inr x1_r0)

noncomputable def spliceref06_without.step (a0 : List spliceref06_Held) (a1 : Int) : spliceref06_without.S → Option (spliceref06_without.S ⊕ (List spliceref06_Held))
  | .l1 x1_6 x1_r0 => spliceref06_without.l1 a0 a1 x1_6 x1_r0

noncomputable def spliceref06_without (a0 : List spliceref06_Held) (a1 : Int) : Option (List spliceref06_Held) :=
  goLoop (spliceref06_without.step a0 a1) (.l1 0 ([] : List spliceref06_Held))

noncomputable def spliceref06_Final.j1 (a0 : List spliceref06_Held) (a3 : Int) (v1 : Int) (y1_33 : Bool) : Option ((List spliceref06_Held) × Int) :=
  if y1_33 = true then
    some (a0, 1)
  else
    (spliceref06_without a0 v1).bind fun v2 =>
    (spliceref06_with v2 (⟨((a0.getD v1.toNat spliceref06_Held.z).M), a3, true⟩ : spliceref06_Held)).bind fun v3 =>
    some (v3, 0)

noncomputable def spliceref06_Final (a0 : List spliceref06_Held) (a1 : Int) (a2 : Int) (a3 : Int) : Option ((List spliceref06_Held) × Int) :=
  (spliceref06_find a0 a1 a2).bind fun v1 =>
  if v1 < 0 then
    some (a0, 4)
  else
    if 0 ≤ v1 ∧ v1 < (a0.length : Int) then
      if ((a0.getD v1.toNat spliceref06_Held.z).Final) = true then
        some (a0, 7)
      else
        if a3 < ((a0.getD v1.toNat spliceref06_Held.z).Time) then
          spliceref06_Final.j1 a0 a3 v1 true
        else
          spliceref06_Final.j1 a0 a3 v1 (decide (a3 > 1099511627775))
    else none

noncomputable def spliceref06_Drop (a0 : List spliceref06_Held) (a1 : Int) (a2 : Int) : Option ((List spliceref06_Held) × Int) :=
  (spliceref06_find a0 a1 a2).bind fun v1 =>
  if v1 < 0 then
    some (a0, 4)
  else
    (spliceref06_without a0 v1).bind fun v2 =>
    some (v2, 0)

noncomputable def spliceref06_Pop.j1 (a0 : List spliceref06_Held) (y1_14 : Bool) : Option ((List spliceref06_Held) × spliceref06_Held × Bool) :=
  if y1_14 = true then
    some (a0, (⟨(⟨0, 0, 0, ([] : List spliceref04_Pair), (⟨0, 0⟩ : spliceref03_Span), 0⟩ : spliceref04_Mut), 0, false⟩ : spliceref06_Held), false)
  else
    (spliceref06_without a0 0).bind fun v1 =>
    if (0 : Int) ≤ 0 ∧ 0 < (a0.length : Int) then
      some (v1, (a0.getD 0 spliceref06_Held.z), true)
    else none

noncomputable def spliceref06_Pop (a0 : List spliceref06_Held) : Option ((List spliceref06_Held) × spliceref06_Held × Bool) :=
  if (a0.length : Int) = 0 then
    spliceref06_Pop.j1 a0 true
  else
    if (0 : Int) ≤ 0 ∧ 0 < (a0.length : Int) then
      spliceref06_Pop.j1 a0 (!((a0.getD 0 spliceref06_Held.z).Final))
    else none

noncomputable def spliceref06_Find (a0 : List spliceref06_Held) (a1 : Int) (a2 : Int) : Option (spliceref06_Held × Bool) :=
  (spliceref06_find a0 a1 a2).bind fun v1 =>
  if v1 < 0 then
    some ((⟨(⟨0, 0, 0, ([] : List spliceref04_Pair), (⟨0, 0⟩ : spliceref03_Span), 0⟩ : spliceref04_Mut), 0, false⟩ : spliceref06_Held), false)
  else
    if 0 ≤ v1 ∧ v1 < (a0.length : Int) then
      some ((a0.getD v1.toNat spliceref06_Held.z), true)
    else none

noncomputable def splicelaw06_does.j1 (v8 : (List spliceref06_Held) × spliceref06_Held × Bool) (v9 : api_Held × Bool × QL) (y1_7 : Bool) : Option ((List spliceref06_Held) × Bool × QL) :=
  some (v8.1, y1_7, v9.2.2)

noncomputable def splicelaw06_does.j2 (a0 : QL) (a1 : List spliceref06_Held) (y2_7 : Bool) : Option ((List spliceref06_Held) × Bool × QL) :=
  some (a1, y2_7, a0)

noncomputable def splicelaw06_does (a0 : QL) (a1 : List spliceref06_Held) (a2 : splicelaw06_Act) : Option ((List spliceref06_Held) × Bool × QL) :=
  if a2.Kind = 0 then
    (splicelaw06_Ref a2.H).bind fun v1 =>
    (spliceref06_Add a1 v1).bind fun v2 =>
    (qAdd a0 a2.H).bind fun v3 =>
    some (v2.1, (v3.1 == v2.2), v3.2)
  else
    if a2.Kind = 1 then
      (spliceref06_Final a1 a2.H.M.Client a2.H.M.Seq a2.H.Time).bind fun v4 =>
      bnd (qFinal a0 a2.H.M.Client a2.H.M.Seq a2.H.Time) fun (v5 : Int × QL) =>
      some (v4.1, (v5.1 == v4.2), v5.2)
    else
      if a2.Kind = 2 then
        (spliceref06_Drop a1 a2.H.M.Client a2.H.M.Seq).bind fun v6 =>
        bnd (qDrop a0 a2.H.M.Client a2.H.M.Seq) fun (v7 : Int × QL) =>
        some (v6.1, (v7.1 == v6.2), v7.2)
      else
        if a2.Kind = 3 then
          (spliceref06_Pop a1).bind fun v8 =>
          bnd (qPop a0) fun (v9 : api_Held × Bool × QL) =>
          (splicelaw06_Ref (v9.1)).bind fun v10 =>
          (spliceref06_SameOne v10 v8.2.1).bind fun v11 =>
          if v11 = true then
            splicelaw06_does.j1 v8 v9 (v9.2.1 == v8.2.2)
          else
            splicelaw06_does.j1 v8 v9 false
        else
          if a2.Kind = 4 then
            (spliceref06_Find a1 a2.H.M.Client a2.H.M.Seq).bind fun v12 =>
            bnd (qFind a0 a2.H.M.Client a2.H.M.Seq) fun (v13 : api_Held × Bool) =>
            (splicelaw06_Ref (v13.1)).bind fun v14 =>
            (spliceref06_SameOne v14 v12.1).bind fun v15 =>
            if v15 = true then
              splicelaw06_does.j2 a0 a1 (v13.2 == v12.2)
            else
              splicelaw06_does.j2 a0 a1 false
          else
            some (a1, true, a0)

noncomputable def spliceref06_Floor (a0 : List spliceref06_Held) (a1 : Int) : Option Int :=
  if (a0.length : Int) = 0 then
    some a1
  else
    if (0 : Int) ≤ 0 ∧ 0 < (a0.length : Int) then
      bnd (IntKind.wrap .i64 (((a0.getD 0 spliceref06_Held.z).Time) - 1)) fun (v1 : Int) =>
      some v1
    else none

inductive splicelaw06_HoldPlays.S where
  | l1 (x1_6 : List spliceref06_Held) (x1_7 : Int) (x1_r0 : QL)

noncomputable def splicelaw06_HoldPlays.j3 (x1_7 : Int) (v3 : (List spliceref06_Held) × Bool × QL) (y3_69 : Bool) : Option (splicelaw06_HoldPlays.S ⊕ Bool) :=
  if y3_69 = true then
    some (.inr false)
  else
    some (.inl (.l1 v3.1 (IntKind.wrap .i64 (x1_7 + 1)) v3.2.2))

noncomputable def splicelaw06_HoldPlays.j2 (a0 : List splicelaw06_Act) (a1 : Int) (x1_6 : List spliceref06_Held) (x1_7 : Int) (x1_r0 : QL) (y2_24 : Bool) : Option (splicelaw06_HoldPlays.S ⊕ Bool) :=
  if y2_24 = true then
    if 0 ≤ x1_7 ∧ x1_7 < (a0.length : Int) then
      if (splicelaw06_light (a0.getD x1_7.toNat splicelaw06_Act.z)) = true then
        (splicelaw06_does x1_r0 x1_6 (a0.getD x1_7.toNat splicelaw06_Act.z)).bind fun v3 =>
        if v3.2.1 = true then
          if (qLen v3.2.2) = (v3.1.length : Int) then
            (spliceref06_Floor v3.1 a1).bind fun v4 =>
            if (qFloor v3.2.2 a1) = v4 then
              (qAll v3.2.2).bind fun v5 =>
              (splicelaw06_Refs v5).bind fun v6 =>
              (spliceref06_Same v6 v3.1).bind fun v7 =>
              splicelaw06_HoldPlays.j3 x1_7 v3 (!v7)
            else
              splicelaw06_HoldPlays.j3 x1_7 v3 true
          else
            splicelaw06_HoldPlays.j3 x1_7 v3 true
        else
          splicelaw06_HoldPlays.j3 x1_7 v3 true
      else
        some (.inl (.l1 x1_6 (IntKind.wrap .i64 (x1_7 + 1)) x1_r0))
    else none
  else
    some (.inr true)

noncomputable def splicelaw06_HoldPlays.l1 (a0 : List splicelaw06_Act) (a1 : Int) (x1_6 : List spliceref06_Held) (x1_7 : Int) (x1_r0 : QL) : Option (splicelaw06_HoldPlays.S ⊕ Bool) :=
  if x1_7 < (a0.length : Int) then
    splicelaw06_HoldPlays.j2 a0 a1 x1_6 x1_7 x1_r0 (decide (x1_7 < 100))
  else
    splicelaw06_HoldPlays.j2 a0 a1 x1_6 x1_7 x1_r0 false

noncomputable def splicelaw06_HoldPlays.step (a0 : List splicelaw06_Act) (a1 : Int) : splicelaw06_HoldPlays.S → Option (splicelaw06_HoldPlays.S ⊕ Bool)
  | .l1 x1_6 x1_7 x1_r0 => splicelaw06_HoldPlays.l1 a0 a1 x1_6 x1_7 x1_r0

noncomputable def splicelaw06_HoldPlays.j1 (a0 : List splicelaw06_Act) (a1 : Int) (v1 : QL) (y1_16 : Bool) : Option Bool :=
  if y1_16 = true then
    some false
  else
    goLoop (splicelaw06_HoldPlays.step a0 a1) (.l1 ([] : List spliceref06_Held) 0 v1)

noncomputable def splicelaw06_HoldPlays (a0 : List splicelaw06_Act) (a1 : Int) : Option Bool :=
  bnd (qNew) fun (v1 : QL) =>
  (splicelaw06_awake).bind fun v2 =>
  if v2 = true then
    splicelaw06_HoldPlays.j1 a0 a1 v1 false
  else
    splicelaw06_HoldPlays.j1 a0 a1 v1 true
end Go.SyP
