/- Plain functions, printed by gen.py. -/
import Derived.Test.YtboaahlhgekbbaaG06A
set_option linter.unusedVariables false
namespace Go.SyP
open Go Go.Sy

structure splicelaw06_World where
  q : QL
  clock : Int
  popped : List api_Stamp
  floor : Int
def splicelaw06_World.z : splicelaw06_World := ⟨qNew, 0, [], 0⟩

noncomputable def splicelaw06_del (a0 : Int) (a1 : Int) : api_Mut :=
  (⟨a0, a1, 2, ([] : List api_Pair), (⟨1, 2⟩ : api_Span), 0⟩ : api_Mut)

noncomputable def splicelaw06_awake.j1 (y1_0 : Bool) : Option Bool :=
  some y1_0

noncomputable def splicelaw06_awake : Option Bool :=
  bnd (qNew) fun (v1 : QL) =>
  bnd (splicelaw06_del 1 1) fun (v2 : api_Mut) =>
  (qAdd v1 (⟨(⟨v2.Client, v2.Seq, v2.Kind, v2.Pairs, (v2.Over), v2.Old⟩ : api_Mut), 5, false⟩ : api_Held)).bind fun v3 =>
  bnd (splicelaw06_del 2 1) fun (v4 : api_Mut) =>
  (qAdd v3.2 (⟨(⟨v4.Client, v4.Seq, v4.Kind, v4.Pairs, (v4.Over), v4.Old⟩ : api_Mut), 3, false⟩ : api_Held)).bind fun v5 =>
  bnd (qPop v5.2) fun (v6 : api_Held × Bool × QL) =>
  bnd (qFinal v6.2.2 2 1 7) fun (v7 : Int × QL) =>
  bnd (qFinal v7.2 1 1 5) fun (v8 : Int × QL) =>
  bnd (qPop v8.2) fun (v9 : api_Held × Bool × QL) =>
  bnd (qPop v9.2.2) fun (v10 : api_Held × Bool × QL) =>
  if v3.1 = 0 then
    if v5.1 = 0 then
      if v6.2.1 = true then
        splicelaw06_awake.j1 false
      else
        if v7.1 = 0 then
          if (qFloor v7.2 99) = 4 then
            if v8.1 = 0 then
              if v9.2.1 = true then
                if (((v9.1).M).Client) = 1 then
                  if v10.2.1 = true then
                    if ((v10.1).Time) = 7 then
                      splicelaw06_awake.j1 ((qLen v10.2.2) == 0)
                    else
                      splicelaw06_awake.j1 false
                  else
                    splicelaw06_awake.j1 false
                else
                  splicelaw06_awake.j1 false
              else
                splicelaw06_awake.j1 false
            else
              splicelaw06_awake.j1 false
          else
            splicelaw06_awake.j1 false
        else
          splicelaw06_awake.j1 false
    else
      splicelaw06_awake.j1 false
  else
    splicelaw06_awake.j1 false

inductive splicelaw06_HoldAll.S where
  | l1 (x1_5 : Int) (x1_r0 : QL) (x1_r1 : List api_Held)
  | l2 (x1_r1 : List api_Held) (x2_6 : Int) (x2_r0 : QL)
  | l3 (x3_9 : Int) (x3_r0 : QL) (x3_r1 : List api_Held) (x3_b2_0 : Int) (x3_b2_1 : Int) (x3_b2_2 : Int)

noncomputable def splicelaw06_HoldAll.j4 (x1_5 : Int) (y3_r0 : QL) (y4_r1 : List api_Held) : Option (splicelaw06_HoldAll.S ⊕ Bool) :=
  some (.inl (.l1 (IntKind.wrap .i64 (x1_5 + 1)) y3_r0 y4_r1))

noncomputable def splicelaw06_HoldAll.j3 (a0 : List api_Held) (x1_5 : Int) (x1_r1 : List api_Held) (y3_50 : Bool) (y3_r0 : QL) : Option (splicelaw06_HoldAll.S ⊕ Bool) :=
  if y3_50 = true then
    if (x1_r1.length + 1) * 88 ≤ 140737488355328 then
      splicelaw06_HoldAll.j4 x1_5 y3_r0 (x1_r1 ++ [a0.getD x1_5.toNat api_Held.z])
    else none
  else
    splicelaw06_HoldAll.j4 x1_5 y3_r0 x1_r1

noncomputable def splicelaw06_HoldAll.j2 (a0 : List api_Held) (x1_5 : Int) (x1_r0 : QL) (x1_r1 : List api_Held) (y2_31 : Bool) : Option (splicelaw06_HoldAll.S ⊕ Bool) :=
  if y2_31 = true then
    if 0 ≤ x1_5 ∧ x1_5 < (a0.length : Int) then
      if ((((a0.getD x1_5.toNat api_Held.z).M).Pairs).length : Int) ≤ 20 then
        (qAdd x1_r0 (a0.getD x1_5.toNat api_Held.z)).bind fun v3 =>
        splicelaw06_HoldAll.j3 a0 x1_5 x1_r1 (v3.1 == 0) v3.2
      else
        splicelaw06_HoldAll.j3 a0 x1_5 x1_r1 false x1_r0
    else none
  else
    some (.inl (.l2 x1_r1 0 x1_r0))

noncomputable def splicelaw06_HoldAll.j5 (x1_r1 : List api_Held) (x2_6 : Int) (v4 : Int × QL) (y5_91 : Bool) : Option (splicelaw06_HoldAll.S ⊕ Bool) :=
  if y5_91 = true then
    some (.inr false)
  else
    some (.inl (.l2 x1_r1 (IntKind.wrap .i64 (x2_6 + 1)) v4.2))

noncomputable def splicelaw06_HoldAll.j7 (x3_9 : Int) (x3_r1 : List api_Held) (v6 : api_Held × Bool × QL) (v7 : api_Stamp) (y7_113 : Bool) : Option (splicelaw06_HoldAll.S ⊕ Bool) :=
  if y7_113 = true then
    some (.inr false)
  else
    some (.inl (.l3 (IntKind.wrap .i64 (x3_9 + 1)) v6.2.2 x3_r1 v7.Time v7.Client v7.Seq))

noncomputable def splicelaw06_HoldAll.j6 (y6_2 : Bool) : Option (splicelaw06_HoldAll.S ⊕ Bool) :=
  some (.inr y6_2)

noncomputable def splicelaw06_HoldAll.l1 (a0 : List api_Held) (x1_5 : Int) (x1_r0 : QL) (x1_r1 : List api_Held) : Option (splicelaw06_HoldAll.S ⊕ Bool) :=
  if x1_5 < (a0.length : Int) then
    splicelaw06_HoldAll.j2 a0 x1_5 x1_r0 x1_r1 (decide ((x1_r1.length : Int) < 60))
  else
    splicelaw06_HoldAll.j2 a0 x1_5 x1_r0 x1_r1 false

noncomputable def splicelaw06_HoldAll.l2 (x1_r1 : List api_Held) (x2_6 : Int) (x2_r0 : QL) : Option (splicelaw06_HoldAll.S ⊕ Bool) :=
  if x2_6 < (x1_r1.length : Int) then
    if 0 ≤ x2_6 ∧ x2_6 < (x1_r1.length : Int) then
      bnd (qFinal x2_r0 (((x1_r1.getD x2_6.toNat api_Held.z).M).Client) (((x1_r1.getD x2_6.toNat api_Held.z).M).Seq) ((x1_r1.getD x2_6.toNat api_Held.z).Time)) fun (v4 : Int × QL) =>
      if ((x1_r1.getD x2_6.toNat api_Held.z).Final) = true then
        if v4.1 = 7 then
          splicelaw06_HoldAll.j5 x1_r1 x2_6 v4 false
        else
          splicelaw06_HoldAll.j5 x1_r1 x2_6 v4 true
      else
        if v4.1 = 7 then
          splicelaw06_HoldAll.j5 x1_r1 x2_6 v4 true
        else
          splicelaw06_HoldAll.j5 x1_r1 x2_6 v4 (v4.1 != 0)
    else none
  else
    some (.inl (.l3 0 x2_r0 x1_r1 (-1) 0 0))

noncomputable def splicelaw06_HoldAll.l3 (x3_9 : Int) (x3_r0 : QL) (x3_r1 : List api_Held) (x3_b2_0 : Int) (x3_b2_1 : Int) (x3_b2_2 : Int) : Option (splicelaw06_HoldAll.S ⊕ Bool) :=
  if (qLen x3_r0) > 0 then
    bnd (qPop x3_r0) fun (v6 : api_Held × Bool × QL) =>
    bnd (mut_Stamp ((v6.1).Time) ((v6.1).M)) fun (v7 : api_Stamp) =>
    if v6.2.1 = true then
      (mut_Compare (⟨x3_b2_0, x3_b2_1, x3_b2_2⟩ : api_Stamp) v7).bind fun v8 =>
      splicelaw06_HoldAll.j7 x3_9 x3_r1 v6 v7 (decide (v8 ≥ 0))
    else
      splicelaw06_HoldAll.j7 x3_9 x3_r1 v6 v7 true
  else
    bnd (qPop x3_r0) fun (v5 : api_Held × Bool × QL) =>
    if x3_9 = (x3_r1.length : Int) then
      splicelaw06_HoldAll.j6 (!v5.2.1)
    else
      splicelaw06_HoldAll.j6 false

noncomputable def splicelaw06_HoldAll.step (a0 : List api_Held) : splicelaw06_HoldAll.S → Option (splicelaw06_HoldAll.S ⊕ Bool)
  | .l1 x1_5 x1_r0 x1_r1 => splicelaw06_HoldAll.l1 a0 x1_5 x1_r0 x1_r1
  | .l2 x1_r1 x2_6 x2_r0 => splicelaw06_HoldAll.l2 x1_r1 x2_6 x2_r0
  | .l3 x3_9 x3_r0 x3_r1 x3_b2_0 x3_b2_1 x3_b2_2 => splicelaw06_HoldAll.l3 x3_9 x3_r0 x3_r1 x3_b2_0 x3_b2_1 x3_b2_2

noncomputable def splicelaw06_HoldAll.j1 (a0 : List api_Held) (v1 : QL) (y1_22 : Bool) : Option Bool :=
  if y1_22 = true then
    some false
  else
    goLoop (splicelaw06_HoldAll.step a0) (.l1 0 v1 ([] : List api_Held))

noncomputable def splicelaw06_HoldAll (a0 : List api_Held) : Option Bool :=
  bnd (qNew) fun (v1 : QL) =>
  (splicelaw06_awake).bind fun v2 =>
  if v2 = true then
    splicelaw06_HoldAll.j1 a0 v1 false
  else
    splicelaw06_HoldAll.j1 a0 v1 true

inductive splicelaw06_HoldBlocks.S where
  | l1 (x1_7 : Int) (x1_r0 : QL) (x1_r1 : List api_Held)
  | l2 (x1_r1 : List api_Held) (y3_r0 : QL) (x2_10 : Int) (x2_11 : Int)
  | l3 (x1_r1 : List api_Held) (x3_10 : Int) (x3_12 : Int) (x3_r0 : QL)
  | l4 (x1_r1 : List api_Held) (x4_12 : Int) (x4_r0 : QL)

noncomputable def splicelaw06_HoldBlocks.j5 (x1_7 : Int) (y4_r0 : QL) (y5_r1 : List api_Held) : Option (splicelaw06_HoldBlocks.S ⊕ Bool) :=
  some (.inl (.l1 (IntKind.wrap .i64 (x1_7 + 1)) y4_r0 y5_r1))

noncomputable def splicelaw06_HoldBlocks.j4 (a0 : List api_Held) (x1_7 : Int) (x1_r1 : List api_Held) (y4_50 : Bool) (y4_r0 : QL) : Option (splicelaw06_HoldBlocks.S ⊕ Bool) :=
  if y4_50 = true then
    if (x1_r1.length + 1) * 88 ≤ 140737488355328 then
      splicelaw06_HoldBlocks.j5 x1_7 y4_r0 (x1_r1 ++ [(⟨((a0.getD x1_7.toNat api_Held.z).M), (a0.getD x1_7.toNat api_Held.z).Time, true⟩ : api_Held)])
    else none
  else
    splicelaw06_HoldBlocks.j5 x1_7 y4_r0 x1_r1

noncomputable def splicelaw06_HoldBlocks.j3 (x1_r1 : List api_Held) (y3_89 : Bool) (y3_r0 : QL) : Option (splicelaw06_HoldBlocks.S ⊕ Bool) :=
  if y3_89 = true then
    some (.inr false)
  else
    some (.inl (.l2 x1_r1 y3_r0 0 0))

noncomputable def splicelaw06_HoldBlocks.j2 (a0 : List api_Held) (a1 : Int) (x1_7 : Int) (x1_r0 : QL) (x1_r1 : List api_Held) (y2_32 : Bool) : Option (splicelaw06_HoldBlocks.S ⊕ Bool) :=
  if y2_32 = true then
    if 0 ≤ x1_7 ∧ x1_7 < (a0.length : Int) then
      if ((((a0.getD x1_7.toNat api_Held.z).M).Pairs).length : Int) ≤ 20 then
        (qAdd x1_r0 (⟨((a0.getD x1_7.toNat api_Held.z).M), (a0.getD x1_7.toNat api_Held.z).Time, true⟩ : api_Held)).bind fun v5 =>
        splicelaw06_HoldBlocks.j4 a0 x1_7 x1_r1 (v5.1 == 0) v5.2
      else
        splicelaw06_HoldBlocks.j4 a0 x1_7 x1_r1 false x1_r0
    else none
  else
    if (x1_r1.length : Int) = 0 then
      some (.inr ((qLen x1_r0) == 0))
    else
      if ¬ (x1_r1.length : Int) = 0 then
        if 0 ≤ (Int.tmod (IntKind.wrap .i64 ((Int.tmod a1 (x1_r1.length : Int)) + (x1_r1.length : Int))) (x1_r1.length : Int)) ∧ (Int.tmod (IntKind.wrap .i64 ((Int.tmod a1 (x1_r1.length : Int)) + (x1_r1.length : Int))) (x1_r1.length : Int)) < (x1_r1.length : Int) then
          bnd (qDrop x1_r0 (((x1_r1.getD ((Int.tmod (IntKind.wrap .i64 ((Int.tmod a1 (x1_r1.length : Int)) + (x1_r1.length : Int))) (x1_r1.length : Int)).toNat) api_Held.z).M).Client) (((x1_r1.getD ((Int.tmod (IntKind.wrap .i64 ((Int.tmod a1 (x1_r1.length : Int)) + (x1_r1.length : Int))) (x1_r1.length : Int)).toNat) api_Held.z).M).Seq)) fun (v3 : Int × QL) =>
          if v3.1 = 0 then
            (qAdd v3.2 (⟨((x1_r1.getD ((Int.tmod (IntKind.wrap .i64 ((Int.tmod a1 (x1_r1.length : Int)) + (x1_r1.length : Int))) (x1_r1.length : Int)).toNat) api_Held.z).M), (x1_r1.getD ((Int.tmod (IntKind.wrap .i64 ((Int.tmod a1 (x1_r1.length : Int)) + (x1_r1.length : Int))) (x1_r1.length : Int)).toNat) api_Held.z).Time, false⟩ : api_Held)).bind fun v4 =>
            splicelaw06_HoldBlocks.j3 x1_r1 (v4.1 != 0) v4.2
          else
            splicelaw06_HoldBlocks.j3 x1_r1 true v3.2
        else none
      else none

noncomputable def splicelaw06_HoldBlocks.j6 (x1_r1 : List api_Held) (x2_11 : Int) (y3_r0 : QL) (y6_10 : Int) : Option (splicelaw06_HoldBlocks.S ⊕ Bool) :=
  some (.inl (.l2 x1_r1 y3_r0 y6_10 (IntKind.wrap .i64 (x2_11 + 1))))

noncomputable def splicelaw06_HoldBlocks.j7 (x1_r1 : List api_Held) (x3_12 : Int) (y7_146 : Bool) (y7_r0 : QL) : Option (splicelaw06_HoldBlocks.S ⊕ Bool) :=
  if y7_146 = true then
    some (.inr false)
  else
    some (.inl (.l4 x1_r1 x3_12 y7_r0))

noncomputable def splicelaw06_HoldBlocks.j8 (y8_4 : Bool) : Option (splicelaw06_HoldBlocks.S ⊕ Bool) :=
  some (.inr y8_4)

noncomputable def splicelaw06_HoldBlocks.l1 (a0 : List api_Held) (a1 : Int) (x1_7 : Int) (x1_r0 : QL) (x1_r1 : List api_Held) : Option (splicelaw06_HoldBlocks.S ⊕ Bool) :=
  if x1_7 < (a0.length : Int) then
    splicelaw06_HoldBlocks.j2 a0 a1 x1_7 x1_r0 x1_r1 (decide ((x1_r1.length : Int) < 60))
  else
    splicelaw06_HoldBlocks.j2 a0 a1 x1_7 x1_r0 x1_r1 false

noncomputable def splicelaw06_HoldBlocks.l2 (a1 : Int) (x1_r1 : List api_Held) (y3_r0 : QL) (x2_10 : Int) (x2_11 : Int) : Option (splicelaw06_HoldBlocks.S ⊕ Bool) :=
  if x2_11 < (x1_r1.length : Int) then
    if 0 ≤ x2_11 ∧ x2_11 < (x1_r1.length : Int) then
      (mut_Compare (mut_Stamp ((x1_r1.getD x2_11.toNat api_Held.z).Time) ((x1_r1.getD x2_11.toNat api_Held.z).M)) (mut_Stamp ((x1_r1.getD ((Int.tmod (IntKind.wrap .i64 ((Int.tmod a1 (x1_r1.length : Int)) + (x1_r1.length : Int))) (x1_r1.length : Int)).toNat) api_Held.z).Time) ((x1_r1.getD ((Int.tmod (IntKind.wrap .i64 ((Int.tmod a1 (x1_r1.length : Int)) + (x1_r1.length : Int))) (x1_r1.length : Int)).toNat) api_Held.z).M))).bind fun v6 =>
      if v6 < 0 then
        splicelaw06_HoldBlocks.j6 x1_r1 x2_11 y3_r0 (IntKind.wrap .i64 (x2_10 + 1))
      else
        splicelaw06_HoldBlocks.j6 x1_r1 x2_11 y3_r0 x2_10
    else none
  else
    some (.inl (.l3 x1_r1 x2_10 0 y3_r0))

noncomputable def splicelaw06_HoldBlocks.l3 (a1 : Int) (x1_r1 : List api_Held) (x3_10 : Int) (x3_12 : Int) (x3_r0 : QL) : Option (splicelaw06_HoldBlocks.S ⊕ Bool) :=
  bnd (qPop x3_r0) fun (v7 : api_Held × Bool × QL) =>
  if v7.2.1 = true then
    some (.inl (.l3 x1_r1 x3_10 (IntKind.wrap .i64 (x3_12 + 1)) v7.2.2))
  else
    if x3_12 = x3_10 then
      if (qFloor v7.2.2 0) = (IntKind.wrap .i64 (((x1_r1.getD ((Int.tmod (IntKind.wrap .i64 ((Int.tmod a1 (x1_r1.length : Int)) + (x1_r1.length : Int))) (x1_r1.length : Int)).toNat) api_Held.z).Time) - 1)) then
        splicelaw06_HoldBlocks.j7 x1_r1 x3_12 (((qDrop v7.2.2 (((x1_r1.getD ((Int.tmod (IntKind.wrap .i64 ((Int.tmod a1 (x1_r1.length : Int)) + (x1_r1.length : Int))) (x1_r1.length : Int)).toNat) api_Held.z).M).Client) (((x1_r1.getD ((Int.tmod (IntKind.wrap .i64 ((Int.tmod a1 (x1_r1.length : Int)) + (x1_r1.length : Int))) (x1_r1.length : Int)).toNat) api_Held.z).M).Seq)).1) != 0) ((qDrop v7.2.2 (((x1_r1.getD ((Int.tmod (IntKind.wrap .i64 ((Int.tmod a1 (x1_r1.length : Int)) + (x1_r1.length : Int))) (x1_r1.length : Int)).toNat) api_Held.z).M).Client) (((x1_r1.getD ((Int.tmod (IntKind.wrap .i64 ((Int.tmod a1 (x1_r1.length : Int)) + (x1_r1.length : Int))) (x1_r1.length : Int)).toNat) api_Held.z).M).Seq)).2)
      else
        splicelaw06_HoldBlocks.j7 x1_r1 x3_12 true v7.2.2
    else
      splicelaw06_HoldBlocks.j7 x1_r1 x3_12 true v7.2.2

noncomputable def splicelaw06_HoldBlocks.l4 (x1_r1 : List api_Held) (x4_12 : Int) (x4_r0 : QL) : Option (splicelaw06_HoldBlocks.S ⊕ Bool) :=
  bnd (qPop x4_r0) fun (v8 : api_Held × Bool × QL) =>
  if v8.2.1 = true then
    some (.inl (.l4 x1_r1 (IntKind.wrap .i64 (x4_12 + 1)) v8.2.2))
  else
    if x4_12 = (IntKind.wrap .i64 ((x1_r1.length : Int) - 1)) then
      splicelaw06_HoldBlocks.j8 ((qLen v8.2.2) == 0)
    else
      splicelaw06_HoldBlocks.j8 false

noncomputable def splicelaw06_HoldBlocks.step (a0 : List api_Held) (a1 : Int) : splicelaw06_HoldBlocks.S → Option (splicelaw06_HoldBlocks.S ⊕ Bool)
  | .l1 x1_7 x1_r0 x1_r1 => splicelaw06_HoldBlocks.l1 a0 a1 x1_7 x1_r0 x1_r1
  | .l2 x1_r1 y3_r0 x2_10 x2_11 => splicelaw06_HoldBlocks.l2 a1 x1_r1 y3_r0 x2_10 x2_11
  | .l3 x1_r1 x3_10 x3_12 x3_r0 => splicelaw06_HoldBlocks.l3 a1 x1_r1 x3_10 x3_12 x3_r0
  | .l4 x1_r1 x4_12 x4_r0 => splicelaw06_HoldBlocks.l4 x1_r1 x4_12 x4_r0

noncomputable def splicelaw06_HoldBlocks.j1 (a0 : List api_Held) (a1 : Int) (v1 : QL) (y1_23 : Bool) : Option Bool :=
  if y1_23 = true then
    some false
  else
    goLoop (splicelaw06_HoldBlocks.step a0 a1) (.l1 0 v1 ([] : List api_Held))

noncomputable def splicelaw06_HoldBlocks (a0 : List api_Held) (a1 : Int) : Option Bool :=
  bnd (qNew) fun (v1 : QL) =>
  (splicelaw06_awake).bind fun v2 =>
  if v2 = true then
    splicelaw06_HoldBlocks.j1 a0 a1 v1 false
  else
    splicelaw06_HoldBlocks.j1 a0 a1 v1 true

noncomputable def hold_Queue_Len_n0 : Int :=
  0

noncomputable def hold_Queue_Pop_n0 : Option (api_Held × Bool) :=
  if hold_Queue_Len_n0 = 0 then
    some ((⟨(⟨0, 0, 0, ([] : List api_Pair), (⟨0, 0⟩ : api_Span), 0⟩ : api_Mut), 0, false⟩ : api_Held), false)
  else
    none

noncomputable def hold_Queue_find_n0 (a1 : Int) (a2 : Int) : Unit :=
  ()

noncomputable def hold_Queue_Find_n0 (a1 : Int) (a2 : Int) : api_Held × Bool :=
  ((⟨(⟨0, 0, 0, ([] : List api_Pair), (⟨0, 0⟩ : api_Span), 0⟩ : api_Mut), 0, false⟩ : api_Held), false)

noncomputable def hold_Queue_Add_n0 (a1 : api_Held) : Int :=
  1

noncomputable def hold_Queue_Final_n0 (a1 : Int) (a2 : Int) (a3 : Int) : Int :=
  1

noncomputable def hold_Queue_Drop_n0 (a1 : Int) (a2 : Int) : Int :=
  1

noncomputable def hold_Queue_All_n0 : List api_Held :=
  ([] : List api_Held)

noncomputable def hold_Queue_Floor_n0 (a1 : Int) : Option Int :=
  if hold_Queue_Len_n0 = 0 then
    some a1
  else
    none

noncomputable def splicelaw06_HoldNil.j1 (y1_6 : Bool) : Option Bool :=
  some y1_6

noncomputable def splicelaw06_HoldNil (a0 : api_Held) (a1 : Int) (a2 : Int) : Option Bool :=
  (hold_Queue_Pop_n0).bind fun v1 =>
  bnd (hold_Queue_Find_n0 a1 a2) fun (v2 : api_Held × Bool) =>
  (splicelaw06_awake).bind fun v3 =>
  if v3 = true then
    if (hold_Queue_Add_n0 a0) = 1 then
      if (hold_Queue_Final_n0 a1 a2 a1) = 1 then
        if (hold_Queue_Drop_n0 a1 a2) = 1 then
          if v1.2 = true then
            splicelaw06_HoldNil.j1 false
          else
            if v2.2 = true then
              splicelaw06_HoldNil.j1 false
            else
              if (IntKind.wrap .i64 (v1.1.Time + ((v2.1).Time))) = 0 then
                bnd (hold_Queue_All_n0) fun (v4 : List api_Held) =>
                if (v4.length : Int) = 0 then
                  if hold_Queue_Len_n0 = 0 then
                    (hold_Queue_Floor_n0 a1).bind fun v5 =>
                    splicelaw06_HoldNil.j1 (v5 == a1)
                  else
                    splicelaw06_HoldNil.j1 false
                else
                  splicelaw06_HoldNil.j1 false
              else
                splicelaw06_HoldNil.j1 false
        else
          splicelaw06_HoldNil.j1 false
      else
        splicelaw06_HoldNil.j1 false
    else
      splicelaw06_HoldNil.j1 false
  else
    splicelaw06_HoldNil.j1 false

inductive splicelaw06_World_step.S where
  | l1 (x1_r1 : QL) (x1_r3 : List api_Stamp)

noncomputable def splicelaw06_World_step.j3 (a0 : splicelaw06_World) (y2_b0_1 : Int) (x1_r3 : List api_Stamp) (v2 : api_Held × Bool × QL) (v3 : api_Stamp) (y3_122 : Bool) : Option (splicelaw06_World_step.S ⊕ (Bool × splicelaw06_World)) :=
  if y3_122 = true then
    some (.inr (false, (⟨v2.2.2, y2_b0_1, x1_r3, a0.floor⟩ : splicelaw06_World)))
  else
    if (x1_r3.length + 1) * 24 ≤ 140737488355328 then
      some (.inl (.l1 v2.2.2 (x1_r3 ++ [v3])))
    else none

noncomputable def splicelaw06_World_step.l1 (a0 : splicelaw06_World) (y2_b0_1 : Int) (x1_r1 : QL) (x1_r3 : List api_Stamp) : Option (splicelaw06_World_step.S ⊕ (Bool × splicelaw06_World)) :=
  bnd (qPop x1_r1) fun (v2 : api_Held × Bool × QL) =>
  if v2.2.1 = true then
    bnd (mut_Stamp ((v2.1).Time) ((v2.1).M)) fun (v3 : api_Stamp) =>
    if (x1_r3.length : Int) > 0 then
      if 0 ≤ (IntKind.wrap .i64 ((x1_r3.length : Int) - 1)) ∧ (IntKind.wrap .i64 ((x1_r3.length : Int) - 1)) < (x1_r3.length : Int) then
        (mut_Compare (x1_r3.getD ((IntKind.wrap .i64 ((x1_r3.length : Int) - 1)).toNat) api_Stamp.z) v3).bind fun v4 =>
        if v4 ≥ 0 then
          splicelaw06_World_step.j3 a0 y2_b0_1 x1_r3 v2 v3 true
        else
          splicelaw06_World_step.j3 a0 y2_b0_1 x1_r3 v2 v3 (decide (((v2.1).Time) ≤ a0.floor))
      else none
    else
      splicelaw06_World_step.j3 a0 y2_b0_1 x1_r3 v2 v3 (decide (((v2.1).Time) ≤ a0.floor))
  else
    if (qFloor v2.2.2 y2_b0_1) < a0.floor then
      some (.inr (false, (⟨v2.2.2, y2_b0_1, x1_r3, a0.floor⟩ : splicelaw06_World)))
    else
      some (.inr (true, (⟨v2.2.2, y2_b0_1, x1_r3, qFloor v2.2.2 y2_b0_1⟩ : splicelaw06_World)))

noncomputable def splicelaw06_World_step.step (a0 : splicelaw06_World) (y2_b0_1 : Int) : splicelaw06_World_step.S → Option (splicelaw06_World_step.S ⊕ (Bool × splicelaw06_World))
  | .l1 x1_r1 x1_r3 => splicelaw06_World_step.l1 a0 y2_b0_1 x1_r1 x1_r3

noncomputable def splicelaw06_World_step.j2 (a0 : splicelaw06_World) (y2_b0_1 : Int) (y2_r1 : QL) : Option (Bool × splicelaw06_World) :=
  goLoop (splicelaw06_World_step.step a0 y2_b0_1) (.l1 y2_r1 a0.popped)

noncomputable def splicelaw06_World_step.j1 (a0 : splicelaw06_World) (a1 : api_Mut) (a2 : Int) (y1_66 : Bool) (y1_r1 : QL) : Option (Bool × splicelaw06_World) :=
  if y1_66 = true then
    splicelaw06_World_step.j2 a0 (iMax a0.clock (IntKind.wrap .i64 ((((qFind a0.q a1.Client a1.Seq).1).Time) + a2))) y1_r1
  else
    splicelaw06_World_step.j2 a0 a0.clock y1_r1

noncomputable def splicelaw06_World_step (a0 : splicelaw06_World) (a1 : api_Mut) (a2 : Int) (a3 : Bool) : Option (Bool × splicelaw06_World) :=
  if a3 = true then
    (qAdd a0.q (⟨a1, IntKind.wrap .i64 (a0.clock + 1), false⟩ : api_Held)).bind fun v1 =>
    if v1.1 = 0 then
      splicelaw06_World_step.j2 a0 (IntKind.wrap .i64 (a0.clock + 1)) v1.2
    else
      splicelaw06_World_step.j2 a0 a0.clock v1.2
  else
    if ((qFind a0.q a1.Client a1.Seq).2) = true then
      splicelaw06_World_step.j1 a0 a1 a2 (((qFinal a0.q a1.Client a1.Seq (IntKind.wrap .i64 ((((qFind a0.q a1.Client a1.Seq).1).Time) + a2))).1) == 0) ((qFinal a0.q a1.Client a1.Seq (IntKind.wrap .i64 ((((qFind a0.q a1.Client a1.Seq).1).Time) + a2))).2)
    else
      splicelaw06_World_step.j1 a0 a1 a2 false a0.q

inductive splicelaw06_HoldRises.S where
  | l1 (x1_4 : Int) (x1_b0_1 : Int) (x1_b0_3 : Int) (x1_r1 : QL) (x1_r2 : List api_Stamp)

noncomputable def splicelaw06_HoldRises.j3 (x1_4 : Int) (y3_56 : Bool) (y3_b0_1 : Int) (y3_b0_3 : Int) (y3_r1 : QL) (y3_r2 : List api_Stamp) : Option (splicelaw06_HoldRises.S ⊕ Bool) :=
  if y3_56 = true then
    some (.inr false)
  else
    some (.inl (.l1 (IntKind.wrap .i64 (x1_4 + 1)) y3_b0_1 y3_b0_3 y3_r1 y3_r2))

noncomputable def splicelaw06_HoldRises.j2 (a0 : List splicelaw06_Come) (x1_4 : Int) (x1_b0_1 : Int) (x1_b0_3 : Int) (x1_r1 : QL) (x1_r2 : List api_Stamp) (y2_24 : Bool) : Option (splicelaw06_HoldRises.S ⊕ Bool) :=
  if y2_24 = true then
    if 0 ≤ x1_4 ∧ x1_4 < (a0.length : Int) then
      if ((((a0.getD x1_4.toNat splicelaw06_Come.z).M).Pairs).length : Int) ≤ 20 then
        (splicelaw06_World_step (⟨x1_r1, x1_b0_1, x1_r2, x1_b0_3⟩ : splicelaw06_World) ((a0.getD x1_4.toNat splicelaw06_Come.z).M) (IntKind.wrap .i64 (Int.tmod ((a0.getD x1_4.toNat splicelaw06_Come.z).More) 16)) ((a0.getD x1_4.toNat splicelaw06_Come.z).Add)).bind fun v3 =>
        splicelaw06_HoldRises.j3 x1_4 (!v3.1) v3.2.clock v3.2.floor v3.2.q v3.2.popped
      else
        splicelaw06_HoldRises.j3 x1_4 false x1_b0_1 x1_b0_3 x1_r1 x1_r2
    else none
  else
    some (.inr true)

noncomputable def splicelaw06_HoldRises.l1 (a0 : List splicelaw06_Come) (x1_4 : Int) (x1_b0_1 : Int) (x1_b0_3 : Int) (x1_r1 : QL) (x1_r2 : List api_Stamp) : Option (splicelaw06_HoldRises.S ⊕ Bool) :=
  if x1_4 < (a0.length : Int) then
    splicelaw06_HoldRises.j2 a0 x1_4 x1_b0_1 x1_b0_3 x1_r1 x1_r2 (decide (x1_4 < 150))
  else
    splicelaw06_HoldRises.j2 a0 x1_4 x1_b0_1 x1_b0_3 x1_r1 x1_r2 false

noncomputable def splicelaw06_HoldRises.step (a0 : List splicelaw06_Come) : splicelaw06_HoldRises.S → Option (splicelaw06_HoldRises.S ⊕ Bool)
  | .l1 x1_4 x1_b0_1 x1_b0_3 x1_r1 x1_r2 => splicelaw06_HoldRises.l1 a0 x1_4 x1_b0_1 x1_b0_3 x1_r1 x1_r2

noncomputable def splicelaw06_HoldRises.j1 (a0 : List splicelaw06_Come) (v1 : QL) (y1_16 : Bool) : Option Bool :=
  if y1_16 = true then
    some false
  else
    goLoop (splicelaw06_HoldRises.step a0) (.l1 0 0 0 v1 ([] : List api_Stamp))

noncomputable def splicelaw06_HoldRises (a0 : List splicelaw06_Come) : Option Bool :=
  bnd (qNew) fun (v1 : QL) =>
  (splicelaw06_awake).bind fun v2 =>
  if v2 = true then
    splicelaw06_HoldRises.j1 a0 v1 false
  else
    splicelaw06_HoldRises.j1 a0 v1 true
end Go.SyP
