/- Plain functions, printed by gen.py. -/
import Derived.Test.YtkgiljggkgfkjaaSyU
set_option linter.unusedVariables false
namespace Go.SyP
open Go Go.Sy

structure api_Span where
  Lo : Int
  Hi : Int
def api_Span.z : api_Span := ⟨0, 0⟩
structure spliceref03_Span where
  Lo : Int
  Hi : Int
def spliceref03_Span.z : spliceref03_Span := ⟨0, 0⟩

inductive slices_IndexFunc_api_Span.S where
  | l1 (x1_8 : Int)

noncomputable def slices_IndexFunc_api_Span.l1 (a0 : List api_Span) (p1 : api_Span → Option Bool) (x1_8 : Int) : Option (slices_IndexFunc_api_Span.S ⊕ Int) :=
  if x1_8 < (a0.length : Int) then
    if 0 ≤ x1_8 ∧ x1_8 < (a0.length : Int) then
      (p1 (a0.getD x1_8.toNat api_Span.z)).bind fun v1 =>
      if v1 = true then
        some (.inr x1_8)
      else
        some (.inl (.l1 (IntKind.wrap .i64 (x1_8 + 1))))
    else none
  else
    some (.inr (-1))

noncomputable def slices_IndexFunc_api_Span.step (a0 : List api_Span) (p1 : api_Span → Option Bool) : slices_IndexFunc_api_Span.S → Option (slices_IndexFunc_api_Span.S ⊕ Int)
  | .l1 x1_8 => slices_IndexFunc_api_Span.l1 a0 p1 x1_8

noncomputable def slices_IndexFunc_api_Span (a0 : List api_Span) (p1 : api_Span → Option Bool) : Option Int :=
  goLoop (slices_IndexFunc_api_Span.step a0 p1) (.l1 0)

noncomputable def slices_ContainsFunc_api_Span (a0 : List api_Span) (p1 : api_Span → Option Bool) : Option Bool :=
  (slices_IndexFunc_api_Span a0 p1).bind fun v1 =>
  some (decide (v1 ≥ 0))

noncomputable def span_One.j1 (y1_2 : Bool) : Bool :=
  y1_2

noncomputable def span_One (a0 : api_Span) : Bool :=
  if a0.Lo ≥ 0 then
    if a0.Lo < a0.Hi then
      span_One.j1 (decide (a0.Hi ≤ 4096))
    else
      span_One.j1 false
  else
    span_One.j1 false

noncomputable def span_Has_1.j1 (y1_3 : Bool) : Bool :=
  y1_3

noncomputable def span_Has_1 (a0 : api_Span) (k0 : Int) : Bool :=
  if (span_One a0) = true then
    if k0 ≥ a0.Lo then
      span_Has_1.j1 (decide (k0 < a0.Hi))
    else
      span_Has_1.j1 false
  else
    span_Has_1.j1 false

noncomputable def span_Has (a0 : List api_Span) (a1 : Int) : Option Bool :=
  (slices_ContainsFunc_api_Span a0 (fun z0 => some (span_Has_1 z0 a1))).bind fun v1 =>
  some v1

noncomputable def spliceref03_One.j1 (y1_2 : Bool) : Bool :=
  y1_2

noncomputable def spliceref03_One (a0 : spliceref03_Span) : Bool :=
  if a0.Lo ≥ 0 then
    if a0.Lo < a0.Hi then
      spliceref03_One.j1 (decide (a0.Hi ≤ 4096))
    else
      spliceref03_One.j1 false
  else
    spliceref03_One.j1 false

inductive spliceref03_Has.S where
  | l1 (x1_5 : Int)

noncomputable def spliceref03_Has.j1 (x1_5 : Int) (y1_34 : Bool) : Option (spliceref03_Has.S ⊕ Bool) :=
  if y1_34 = true then
    some (.inr true)
  else
    some (.inl (.l1 (IntKind.wrap .i64 (x1_5 + 1))))

noncomputable def spliceref03_Has.l1 (a0 : List spliceref03_Span) (a1 : Int) (x1_5 : Int) : Option (spliceref03_Has.S ⊕ Bool) :=
  if x1_5 < (a0.length : Int) then
    if 0 ≤ x1_5 ∧ x1_5 < (a0.length : Int) then
      if (spliceref03_One (a0.getD x1_5.toNat spliceref03_Span.z)) = true then
        if a1 ≥ ((a0.getD x1_5.toNat spliceref03_Span.z).Lo) then
          spliceref03_Has.j1 x1_5 (decide (a1 < ((a0.getD x1_5.toNat spliceref03_Span.z).Hi)))
        else
          spliceref03_Has.j1 x1_5 false
      else
        spliceref03_Has.j1 x1_5 false
    else none
  else
    some (.inr false)

noncomputable def spliceref03_Has.step (a0 : List spliceref03_Span) (a1 : Int) : spliceref03_Has.S → Option (spliceref03_Has.S ⊕ Bool)
  | .l1 x1_5 => spliceref03_Has.l1 a0 a1 x1_5

noncomputable def spliceref03_Has (a0 : List spliceref03_Span) (a1 : Int) : Option Bool :=
  goLoop (spliceref03_Has.step a0 a1) (.l1 0)

inductive span_Check.S where
  | l1 (x1_7 : Int)

noncomputable def span_Check.j1 (x1_7 : Int) (y1_29 : Bool) : Option (span_Check.S ⊕ Bool) :=
  if y1_29 = true then
    some (.inr false)
  else
    some (.inl (.l1 (IntKind.wrap .i64 (x1_7 + 1))))

noncomputable def span_Check.l1 (a0 : List api_Span) (x1_7 : Int) : Option (span_Check.S ⊕ Bool) :=
  if x1_7 < (a0.length : Int) then
    if 0 ≤ x1_7 ∧ x1_7 < (a0.length : Int) then
      if (span_One (a0.getD x1_7.toNat api_Span.z)) = true then
        if x1_7 > 0 then
          if 0 ≤ (IntKind.wrap .i64 (x1_7 - 1)) ∧ (IntKind.wrap .i64 (x1_7 - 1)) < (a0.length : Int) then
            span_Check.j1 x1_7 (decide (((a0.getD x1_7.toNat api_Span.z).Lo) ≤ ((a0.getD ((IntKind.wrap .i64 (x1_7 - 1)).toNat) api_Span.z).Hi)))
          else none
        else
          span_Check.j1 x1_7 false
      else
        span_Check.j1 x1_7 true
    else none
  else
    some (.inr (decide ((a0.length : Int) ≤ 64)))

noncomputable def span_Check.step (a0 : List api_Span) : span_Check.S → Option (span_Check.S ⊕ Bool)
  | .l1 x1_7 => span_Check.l1 a0 x1_7

noncomputable def span_Check (a0 : List api_Span) : Option Bool :=
  goLoop (span_Check.step a0) (.l1 0)

inductive span_both.S where
  | l1 (x1_13 : Int) (x1_r0 : List api_Span)
  | l2 (x2_13 : Int) (x2_19 : Int) (x2_r0 : List api_Span) (x2_b1_0 : Int) (x2_b1_1 : Int)

noncomputable def span_both.j1 (x2_13 : Int) (x2_19 : Int) (x2_b1_0 : Int) (x2_b1_1 : Int) (y1_r0 : List api_Span) : Option (span_both.S ⊕ (List api_Span)) :=
  some (.inl (.l2 x2_13 (IntKind.wrap .i64 (x2_19 + 1)) y1_r0 x2_b1_0 x2_b1_1))

noncomputable def span_both.l1 (a0 : List api_Span) (x1_13 : Int) (x1_r0 : List api_Span) : Option (span_both.S ⊕ (List api_Span)) :=
  if x1_13 < (a0.length : Int) then
    if 0 ≤ x1_13 ∧ x1_13 < (a0.length : Int) then
      some (.inl (.l2 x1_13 0 x1_r0 ((a0.getD x1_13.toNat api_Span.z).Lo) ((a0.getD x1_13.toNat api_Span.z).Hi)))
    else none
  else
    some (.inr x1_r0)

noncomputable def span_both.l2 (a1 : List api_Span) (x2_13 : Int) (x2_19 : Int) (x2_r0 : List api_Span) (x2_b1_0 : Int) (x2_b1_1 : Int) : Option (span_both.S ⊕ (List api_Span)) :=
  if x2_19 < (a1.length : Int) then
    if 0 ≤ x2_19 ∧ x2_19 < (a1.length : Int) then
      if (iMax x2_b1_0 ((a1.getD x2_19.toNat api_Span.z).Lo)) < (iMin x2_b1_1 ((a1.getD x2_19.toNat api_Span.z).Hi)) then
        if (x2_r0.length + 1) * 16 ≤ 140737488355328 then
          span_both.j1 x2_13 x2_19 x2_b1_0 x2_b1_1 (x2_r0 ++ [(⟨iMax x2_b1_0 ((a1.getD x2_19.toNat api_Span.z).Lo), iMin x2_b1_1 ((a1.getD x2_19.toNat api_Span.z).Hi)⟩ : api_Span)])
        else none
      else
        span_both.j1 x2_13 x2_19 x2_b1_0 x2_b1_1 x2_r0
    else none
  else
    some (.inl (.l1 (IntKind.wrap .i64 (x2_13 + 1)) x2_r0))

noncomputable def span_both.step (a0 : List api_Span) (a1 : List api_Span) : span_both.S → Option (span_both.S ⊕ (List api_Span))
  | .l1 x1_13 x1_r0 => span_both.l1 a0 x1_13 x1_r0
  | .l2 x2_13 x2_19 x2_r0 x2_b1_0 x2_b1_1 => span_both.l2 a1 x2_13 x2_19 x2_r0 x2_b1_0 x2_b1_1

noncomputable def span_both (a0 : List api_Span) (a1 : List api_Span) : Option (List api_Span) :=
  goLoop (span_both.step a0 a1) (.l1 0 ([] : List api_Span))

noncomputable def span_Touch.j1 (y1_4 : Bool) : Option Bool :=
  some y1_4

noncomputable def span_Touch (a0 : List api_Span) (a1 : List api_Span) : Option Bool :=
  (span_Check a0).bind fun v1 =>
  if v1 = true then
    (span_Check a1).bind fun v2 =>
    if v2 = true then
      (span_both a0 a1).bind fun v3 =>
      span_Touch.j1 (decide ((v3.length : Int) > 0))
    else
      span_Touch.j1 false
  else
    span_Touch.j1 false

noncomputable def span_limited (a0 : List api_Span) : (List api_Span) × Int :=
  if (a0.length : Int) > 64 then
    (([] : List api_Span), 2)
  else
    (a0, 0)

noncomputable def span_Meet.j1 (a0 : List api_Span) (a1 : List api_Span) (y1_13 : Bool) : Option ((List api_Span) × Int) :=
  if y1_13 = true then
    some (([] : List api_Span), 1)
  else
    (span_both a0 a1).bind fun v3 =>
    bnd (span_limited v3) fun (v4 : (List api_Span) × Int) =>
    some (v4.1, v4.2)

noncomputable def span_Meet (a0 : List api_Span) (a1 : List api_Span) : Option ((List api_Span) × Int) :=
  (span_Check a0).bind fun v1 =>
  if v1 = true then
    (span_Check a1).bind fun v2 =>
    span_Meet.j1 a0 a1 (!v2)
  else
    span_Meet.j1 a0 a1 true

inductive span_beyond.S where
  | l1 (x1_4 : Int) (x1_9 : Int) (x1_r0 : List api_Span)

noncomputable def span_beyond.j2 (a0 : List api_Span) (x1_9 : Int) (y2_r0 : List api_Span) : Option (span_beyond.S ⊕ (List api_Span)) :=
  some (.inl (.l1 ((a0.getD x1_9.toNat api_Span.z).Hi) (IntKind.wrap .i64 (x1_9 + 1)) y2_r0))

noncomputable def span_beyond.j1 (y1_r0 : List api_Span) : Option (span_beyond.S ⊕ (List api_Span)) :=
  some (.inr y1_r0)

noncomputable def span_beyond.l1 (a0 : List api_Span) (x1_4 : Int) (x1_9 : Int) (x1_r0 : List api_Span) : Option (span_beyond.S ⊕ (List api_Span)) :=
  if x1_9 < (a0.length : Int) then
    if 0 ≤ x1_9 ∧ x1_9 < (a0.length : Int) then
      if x1_4 < ((a0.getD x1_9.toNat api_Span.z).Lo) then
        if (x1_r0.length + 1) * 16 ≤ 140737488355328 then
          span_beyond.j2 a0 x1_9 (x1_r0 ++ [(⟨x1_4, (a0.getD x1_9.toNat api_Span.z).Lo⟩ : api_Span)])
        else none
      else
        span_beyond.j2 a0 x1_9 x1_r0
    else none
  else
    if x1_4 < 4096 then
      if (x1_r0.length + 1) * 16 ≤ 140737488355328 then
        span_beyond.j1 (x1_r0 ++ [(⟨x1_4, 4096⟩ : api_Span)])
      else none
    else
      span_beyond.j1 x1_r0

noncomputable def span_beyond.step (a0 : List api_Span) : span_beyond.S → Option (span_beyond.S ⊕ (List api_Span))
  | .l1 x1_4 x1_9 x1_r0 => span_beyond.l1 a0 x1_4 x1_9 x1_r0

noncomputable def span_beyond (a0 : List api_Span) : Option (List api_Span) :=
  goLoop (span_beyond.step a0) (.l1 0 0 ([] : List api_Span))

noncomputable def span_Within.j1 (y1_4 : Bool) : Option Bool :=
  some y1_4

noncomputable def span_Within (a0 : List api_Span) (a1 : List api_Span) : Option Bool :=
  (span_Check a0).bind fun v1 =>
  if v1 = true then
    (span_Check a1).bind fun v2 =>
    if v2 = true then
      (span_beyond a1).bind fun v3 =>
      (span_both a0 v3).bind fun v4 =>
      span_Within.j1 ((v4.length : Int) == 0)
    else
      span_Within.j1 false
  else
    span_Within.j1 false

noncomputable def span_Less.j1 (a0 : List api_Span) (a1 : List api_Span) (y1_13 : Bool) : Option ((List api_Span) × Int) :=
  if y1_13 = true then
    some (([] : List api_Span), 1)
  else
    (span_beyond a1).bind fun v3 =>
    (span_both a0 v3).bind fun v4 =>
    bnd (span_limited v4) fun (v5 : (List api_Span) × Int) =>
    some (v5.1, v5.2)

noncomputable def span_Less (a0 : List api_Span) (a1 : List api_Span) : Option ((List api_Span) × Int) :=
  (span_Check a0).bind fun v1 =>
  if v1 = true then
    (span_Check a1).bind fun v2 =>
    span_Less.j1 a0 a1 (!v2)
  else
    span_Less.j1 a0 a1 true

inductive spliceref03_Keys.S where
  | l1 (x1_4 : Int) (x1_r0 : List Bool)
  | l2 (x2_5 : Int) (x2_r0 : List Bool)
  | l3 (x3_5 : Int) (x3_6 : Int) (x3_r0 : List Bool)

noncomputable def spliceref03_Keys.j1 (x3_5 : Int) (x3_6 : Int) (x3_r0 : List Bool) (y1_38 : Bool) : Option (spliceref03_Keys.S ⊕ (List Bool)) :=
  if y1_38 = true then
    if 0 ≤ x3_6 ∧ x3_6 < (x3_r0.length : Int) then
      some (.inl (.l3 x3_5 (IntKind.wrap .i64 (x3_6 + 1)) (x3_r0.set x3_6.toNat true)))
    else none
  else
    some (.inl (.l2 (IntKind.wrap .i64 (x3_5 + 1)) x3_r0))

noncomputable def spliceref03_Keys.l1 (x1_4 : Int) (x1_r0 : List Bool) : Option (spliceref03_Keys.S ⊕ (List Bool)) :=
  if x1_4 < 4096 then
    if (x1_r0.length + 1) * 1 ≤ 140737488355328 then
      some (.inl (.l1 (IntKind.wrap .i64 (x1_4 + 1)) (x1_r0 ++ [false])))
    else none
  else
    some (.inl (.l2 0 x1_r0))

noncomputable def spliceref03_Keys.l2 (a0 : List spliceref03_Span) (x2_5 : Int) (x2_r0 : List Bool) : Option (spliceref03_Keys.S ⊕ (List Bool)) :=
  if x2_5 < (a0.length : Int) then
    if 0 ≤ x2_5 ∧ x2_5 < (a0.length : Int) then
      some (.inl (.l3 x2_5 ((a0.getD x2_5.toNat spliceref03_Span.z).Lo) x2_r0))
    else none
  else
    some (.inr x2_r0)

noncomputable def spliceref03_Keys.l3 (a0 : List spliceref03_Span) (x3_5 : Int) (x3_6 : Int) (x3_r0 : List Bool) : Option (spliceref03_Keys.S ⊕ (List Bool)) :=
  if 0 ≤ x3_5 ∧ x3_5 < (a0.length : Int) then
    if (spliceref03_One (a0.getD x3_5.toNat spliceref03_Span.z)) = true then
      spliceref03_Keys.j1 x3_5 x3_6 x3_r0 (decide (x3_6 < ((a0.getD x3_5.toNat spliceref03_Span.z).Hi)))
    else
      spliceref03_Keys.j1 x3_5 x3_6 x3_r0 false
  else none

noncomputable def spliceref03_Keys.step (a0 : List spliceref03_Span) : spliceref03_Keys.S → Option (spliceref03_Keys.S ⊕ (List Bool))
  | .l1 x1_4 x1_r0 => spliceref03_Keys.l1 x1_4 x1_r0
  | .l2 x2_5 x2_r0 => spliceref03_Keys.l2 a0 x2_5 x2_r0
  | .l3 x3_5 x3_6 x3_r0 => spliceref03_Keys.l3 a0 x3_5 x3_6 x3_r0

noncomputable def spliceref03_Keys (a0 : List spliceref03_Span) : Option (List Bool) :=
  goLoop (spliceref03_Keys.step a0) (.l1 0 ([] : List Bool))

inductive spliceref03_Set.S where
  | l1 (x1_5 : Int) (x1_r0 : List spliceref03_Span)
  | l2 (x2_5 : Int) (x2_6 : Int) (x2_r0 : List spliceref03_Span)

noncomputable def spliceref03_Set.j1 (x2_5 : Int) (x2_6 : Int) (x2_r0 : List spliceref03_Span) (y1_21 : Bool) : Option (spliceref03_Set.S ⊕ ((List spliceref03_Span) × Int)) :=
  if y1_21 = true then
    some (.inl (.l2 (IntKind.wrap .i64 (x2_5 + 1)) x2_6 x2_r0))
  else
    if x2_5 > x2_6 then
      if (x2_r0.length + 1) * 16 ≤ 140737488355328 then
        some (.inl (.l1 x2_5 (x2_r0 ++ [(⟨x2_6, x2_5⟩ : spliceref03_Span)])))
      else none
    else
      some (.inl (.l1 (IntKind.wrap .i64 (x2_5 + 1)) x2_r0))

noncomputable def spliceref03_Set.l1 (a0 : List Bool) (x1_5 : Int) (x1_r0 : List spliceref03_Span) : Option (spliceref03_Set.S ⊕ ((List spliceref03_Span) × Int)) :=
  if x1_5 < (a0.length : Int) then
    some (.inl (.l2 x1_5 x1_5 x1_r0))
  else
    if (x1_r0.length : Int) > 64 then
      some (.inr (([] : List spliceref03_Span), 2))
    else
      some (.inr (x1_r0, 0))

noncomputable def spliceref03_Set.l2 (a0 : List Bool) (x2_5 : Int) (x2_6 : Int) (x2_r0 : List spliceref03_Span) : Option (spliceref03_Set.S ⊕ ((List spliceref03_Span) × Int)) :=
  if x2_5 < (a0.length : Int) then
    if 0 ≤ x2_5 ∧ x2_5 < (a0.length : Int) then
      spliceref03_Set.j1 x2_5 x2_6 x2_r0 (a0.getD x2_5.toNat false)
    else none
  else
    spliceref03_Set.j1 x2_5 x2_6 x2_r0 false

noncomputable def spliceref03_Set.step (a0 : List Bool) : spliceref03_Set.S → Option (spliceref03_Set.S ⊕ ((List spliceref03_Span) × Int))
  | .l1 x1_5 x1_r0 => spliceref03_Set.l1 a0 x1_5 x1_r0
  | .l2 x2_5 x2_6 x2_r0 => spliceref03_Set.l2 a0 x2_5 x2_6 x2_r0

noncomputable def spliceref03_Set (a0 : List Bool) : Option ((List spliceref03_Span) × Int) :=
  goLoop (spliceref03_Set.step a0) (.l1 0 ([] : List spliceref03_Span))

inductive spliceref03_Make.S where
  | l1 (x1_4 : Int)

noncomputable def spliceref03_Make.l1 (a0 : List spliceref03_Span) (x1_4 : Int) : Option (spliceref03_Make.S ⊕ ((List spliceref03_Span) × Int)) :=
  if x1_4 < (a0.length : Int) then
    if 0 ≤ x1_4 ∧ x1_4 < (a0.length : Int) then
      if (spliceref03_One (a0.getD x1_4.toNat spliceref03_Span.z)) = true then
        some (.inl (.l1 (IntKind.wrap .i64 (x1_4 + 1))))
      else
        some (.inr (([] : List spliceref03_Span), 1))
    else none
  else
    (spliceref03_Keys a0).bind fun v1 =>
    (spliceref03_Set v1).bind fun v2 =>
    some (.inr (v2.1, v2.2))

noncomputable def spliceref03_Make.step (a0 : List spliceref03_Span) : spliceref03_Make.S → Option (spliceref03_Make.S ⊕ ((List spliceref03_Span) × Int))
  | .l1 x1_4 => spliceref03_Make.l1 a0 x1_4

noncomputable def spliceref03_Make (a0 : List spliceref03_Span) : Option ((List spliceref03_Span) × Int) :=
  goLoop (spliceref03_Make.step a0) (.l1 0)

inductive spliceref03_Check.S where
  | l1 (x1_3 : Int)

noncomputable def spliceref03_Check.j1 (x1_3 : Int) (y1_33 : Bool) : Option (spliceref03_Check.S ⊕ Bool) :=
  if y1_33 = true then
    some (.inr false)
  else
    some (.inl (.l1 (IntKind.wrap .i64 (x1_3 + 1))))

noncomputable def spliceref03_Check.l1 (a0 : List spliceref03_Span) (x1_3 : Int) : Option (spliceref03_Check.S ⊕ Bool) :=
  if x1_3 < (a0.length : Int) then
    if 0 ≤ x1_3 ∧ x1_3 < (a0.length : Int) then
      if (spliceref03_One (a0.getD x1_3.toNat spliceref03_Span.z)) = true then
        if x1_3 > 0 then
          if 0 ≤ (IntKind.wrap .i64 (x1_3 - 1)) ∧ (IntKind.wrap .i64 (x1_3 - 1)) < (a0.length : Int) then
            spliceref03_Check.j1 x1_3 (decide (((a0.getD x1_3.toNat spliceref03_Span.z).Lo) ≤ ((a0.getD ((IntKind.wrap .i64 (x1_3 - 1)).toNat) spliceref03_Span.z).Hi)))
          else none
        else
          spliceref03_Check.j1 x1_3 false
      else
        spliceref03_Check.j1 x1_3 true
    else none
  else
    some (.inr (decide ((a0.length : Int) ≤ 64)))

noncomputable def spliceref03_Check.step (a0 : List spliceref03_Span) : spliceref03_Check.S → Option (spliceref03_Check.S ⊕ Bool)
  | .l1 x1_3 => spliceref03_Check.l1 a0 x1_3

noncomputable def spliceref03_Check (a0 : List spliceref03_Span) : Option Bool :=
  goLoop (spliceref03_Check.step a0) (.l1 0)

inductive spliceref03_Mix.S where
  | l1 (x1_11 : Int) (x1_r2 : List Bool)

noncomputable def spliceref03_Mix.j4 (x1_11 : Int) (x1_r2 : List Bool) (y4_12 : Bool) : Option (spliceref03_Mix.S ⊕ ((List spliceref03_Span) × Int)) :=
  if (x1_r2.length + 1) * 1 ≤ 140737488355328 then
    some (.inl (.l1 (IntKind.wrap .i64 (x1_11 + 1)) (x1_r2 ++ [y4_12])))
  else none

noncomputable def spliceref03_Mix.j3 (a2 : Int) (v3 : List Bool) (v4 : List Bool) (x1_11 : Int) (x1_r2 : List Bool) (y3_12 : Bool) : Option (spliceref03_Mix.S ⊕ ((List spliceref03_Span) × Int)) :=
  if a2 = 2 then
    if (v3.getD x1_11.toNat false) = true then
      if 0 ≤ x1_11 ∧ x1_11 < (v4.length : Int) then
        spliceref03_Mix.j4 x1_11 x1_r2 (!(v4.getD x1_11.toNat false))
      else none
    else
      spliceref03_Mix.j4 x1_11 x1_r2 false
  else
    spliceref03_Mix.j4 x1_11 x1_r2 y3_12

noncomputable def spliceref03_Mix.j2 (a2 : Int) (v3 : List Bool) (v4 : List Bool) (x1_11 : Int) (x1_r2 : List Bool) (y2_12 : Bool) : Option (spliceref03_Mix.S ⊕ ((List spliceref03_Span) × Int)) :=
  if a2 = 1 then
    if (v3.getD x1_11.toNat false) = true then
      if 0 ≤ x1_11 ∧ x1_11 < (v4.length : Int) then
        spliceref03_Mix.j3 a2 v3 v4 x1_11 x1_r2 (v4.getD x1_11.toNat false)
      else none
    else
      spliceref03_Mix.j3 a2 v3 v4 x1_11 x1_r2 false
  else
    spliceref03_Mix.j3 a2 v3 v4 x1_11 x1_r2 y2_12

noncomputable def spliceref03_Mix.l1 (a2 : Int) (v3 : List Bool) (v4 : List Bool) (x1_11 : Int) (x1_r2 : List Bool) : Option (spliceref03_Mix.S ⊕ ((List spliceref03_Span) × Int)) :=
  if x1_11 < 4096 then
    if 0 ≤ x1_11 ∧ x1_11 < (v3.length : Int) then
      if (v3.getD x1_11.toNat false) = true then
        spliceref03_Mix.j2 a2 v3 v4 x1_11 x1_r2 true
      else
        if 0 ≤ x1_11 ∧ x1_11 < (v4.length : Int) then
          spliceref03_Mix.j2 a2 v3 v4 x1_11 x1_r2 (v4.getD x1_11.toNat false)
        else none
    else none
  else
    (spliceref03_Set x1_r2).bind fun v5 =>
    some (.inr (v5.1, v5.2))

noncomputable def spliceref03_Mix.step (a2 : Int) (v3 : List Bool) (v4 : List Bool) : spliceref03_Mix.S → Option (spliceref03_Mix.S ⊕ ((List spliceref03_Span) × Int))
  | .l1 x1_11 x1_r2 => spliceref03_Mix.l1 a2 v3 v4 x1_11 x1_r2

noncomputable def spliceref03_Mix.j1 (a0 : List spliceref03_Span) (a1 : List spliceref03_Span) (a2 : Int) (y1_20 : Bool) : Option ((List spliceref03_Span) × Int) :=
  if y1_20 = true then
    some (([] : List spliceref03_Span), 1)
  else
    (spliceref03_Keys a0).bind fun v3 =>
    (spliceref03_Keys a1).bind fun v4 =>
    goLoop (spliceref03_Mix.step a2 v3 v4) (.l1 0 ([] : List Bool))

noncomputable def spliceref03_Mix (a0 : List spliceref03_Span) (a1 : List spliceref03_Span) (a2 : Int) : Option ((List spliceref03_Span) × Int) :=
  (spliceref03_Check a0).bind fun v1 =>
  if v1 = true then
    (spliceref03_Check a1).bind fun v2 =>
    spliceref03_Mix.j1 a0 a1 a2 (!v2)
  else
    spliceref03_Mix.j1 a0 a1 a2 true

inductive spliceref03_Some.S where
  | l1 (x1_9 : Int)

noncomputable def spliceref03_Some.j1 (x1_9 : Int) (y1_42 : Bool) : Option (spliceref03_Some.S ⊕ Bool) :=
  if y1_42 = true then
    some (.inr true)
  else
    some (.inl (.l1 (IntKind.wrap .i64 (x1_9 + 1))))

noncomputable def spliceref03_Some.l1 (a2 : Int) (v1 : List Bool) (v2 : List Bool) (x1_9 : Int) : Option (spliceref03_Some.S ⊕ Bool) :=
  if x1_9 < 4096 then
    if 0 ≤ x1_9 ∧ x1_9 < (v1.length : Int) then
      if (v1.getD x1_9.toNat false) = true then
        if a2 = 1 then
          if 0 ≤ x1_9 ∧ x1_9 < (v2.length : Int) then
            if (v2.getD x1_9.toNat false) = true then
              spliceref03_Some.j1 x1_9 true
            else
              if a2 = 2 then
                spliceref03_Some.j1 x1_9 (!(v2.getD x1_9.toNat false))
              else
                spliceref03_Some.j1 x1_9 false
          else none
        else
          if a2 = 2 then
            if 0 ≤ x1_9 ∧ x1_9 < (v2.length : Int) then
              spliceref03_Some.j1 x1_9 (!(v2.getD x1_9.toNat false))
            else none
          else
            spliceref03_Some.j1 x1_9 false
      else
        spliceref03_Some.j1 x1_9 false
    else none
  else
    some (.inr false)

noncomputable def spliceref03_Some.step (a2 : Int) (v1 : List Bool) (v2 : List Bool) : spliceref03_Some.S → Option (spliceref03_Some.S ⊕ Bool)
  | .l1 x1_9 => spliceref03_Some.l1 a2 v1 v2 x1_9

noncomputable def spliceref03_Some (a0 : List spliceref03_Span) (a1 : List spliceref03_Span) (a2 : Int) : Option Bool :=
  (spliceref03_Keys a0).bind fun v1 =>
  (spliceref03_Keys a1).bind fun v2 =>
  goLoop (spliceref03_Some.step a2 v1 v2) (.l1 0)

inductive span_Count.S where
  | l1 (x1_3 : Int) (x1_11 : Int)

noncomputable def span_Count.l1 (a0 : List api_Span) (x1_3 : Int) (x1_11 : Int) : Option (span_Count.S ⊕ Int) :=
  if x1_11 < (a0.length : Int) then
    if 0 ≤ x1_11 ∧ x1_11 < (a0.length : Int) then
      bnd (IntKind.wrap .i64 (x1_3 + (IntKind.wrap .i64 (((a0.getD x1_11.toNat api_Span.z).Hi) - ((a0.getD x1_11.toNat api_Span.z).Lo))))) fun (v2 : Int) =>
      some (.inl (.l1 v2 (IntKind.wrap .i64 (x1_11 + 1))))
    else none
  else
    some (.inr x1_3)

noncomputable def span_Count.step (a0 : List api_Span) : span_Count.S → Option (span_Count.S ⊕ Int)
  | .l1 x1_3 x1_11 => span_Count.l1 a0 x1_3 x1_11

noncomputable def span_Count (a0 : List api_Span) : Option Int :=
  (span_Check a0).bind fun v1 =>
  if v1 = true then
    goLoop (span_Count.step a0) (.l1 0 0)
  else
    some 0

inductive spliceref03_Count.S where
  | l1 (x1_3 : Int) (x1_5 : Int)

noncomputable def spliceref03_Count.j1 (x1_5 : Int) (y1_3 : Int) : Option (spliceref03_Count.S ⊕ Int) :=
  some (.inl (.l1 y1_3 (IntKind.wrap .i64 (x1_5 + 1))))

noncomputable def spliceref03_Count.l1 (v2 : List Bool) (x1_3 : Int) (x1_5 : Int) : Option (spliceref03_Count.S ⊕ Int) :=
  if x1_5 < (v2.length : Int) then
    if 0 ≤ x1_5 ∧ x1_5 < (v2.length : Int) then
      if (v2.getD x1_5.toNat false) = true then
        spliceref03_Count.j1 x1_5 (IntKind.wrap .i64 (x1_3 + 1))
      else
        spliceref03_Count.j1 x1_5 x1_3
    else none
  else
    some (.inr x1_3)

noncomputable def spliceref03_Count.step (v2 : List Bool) : spliceref03_Count.S → Option (spliceref03_Count.S ⊕ Int)
  | .l1 x1_3 x1_5 => spliceref03_Count.l1 v2 x1_3 x1_5

noncomputable def spliceref03_Count (a0 : List spliceref03_Span) : Option Int :=
  (spliceref03_Check a0).bind fun v1 =>
  if v1 = true then
    (spliceref03_Keys a0).bind fun v2 =>
    goLoop (spliceref03_Count.step v2) (.l1 0 0)
  else
    some 0

noncomputable def splicelaw03_few (a0 : List api_Span) : Bool :=
  decide ((a0.length : Int) ≤ 200)

inductive splicelaw03_Refs.S where
  | l1 (x1_4 : Int) (x1_r0 : List spliceref03_Span)

noncomputable def splicelaw03_Refs.l1 (a0 : List api_Span) (x1_4 : Int) (x1_r0 : List spliceref03_Span) : Option (splicelaw03_Refs.S ⊕ (List spliceref03_Span)) :=
  if x1_4 < (a0.length : Int) then
    if 0 ≤ x1_4 ∧ x1_4 < (a0.length : Int) then
      if (x1_r0.length + 1) * 16 ≤ 140737488355328 then
        some (.inl (.l1 (IntKind.wrap .i64 (x1_4 + 1)) (x1_r0 ++ [(⟨(a0.getD x1_4.toNat api_Span.z).Lo, (a0.getD x1_4.toNat api_Span.z).Hi⟩ : spliceref03_Span)])))
      else none
    else none
  else
    some (.inr x1_r0)

noncomputable def splicelaw03_Refs.step (a0 : List api_Span) : splicelaw03_Refs.S → Option (splicelaw03_Refs.S ⊕ (List spliceref03_Span))
  | .l1 x1_4 x1_r0 => splicelaw03_Refs.l1 a0 x1_4 x1_r0

noncomputable def splicelaw03_Refs (a0 : List api_Span) : Option (List spliceref03_Span) :=
  goLoop (splicelaw03_Refs.step a0) (.l1 0 ([] : List spliceref03_Span))

inductive spliceref03_Same.S where
  | l1 (x1_5 : Int)

noncomputable def spliceref03_Same.l1 (a0 : List spliceref03_Span) (a1 : List spliceref03_Span) (x1_5 : Int) : Option (spliceref03_Same.S ⊕ Bool) :=
  if x1_5 < (a0.length : Int) then
    if 0 ≤ x1_5 ∧ x1_5 < (a0.length : Int) then
      if 0 ≤ x1_5 ∧ x1_5 < (a1.length : Int) then
        if ((a0.getD x1_5.toNat spliceref03_Span.z).Lo) = ((a1.getD x1_5.toNat spliceref03_Span.z).Lo) then
          if ((a0.getD x1_5.toNat spliceref03_Span.z).Hi) = ((a1.getD x1_5.toNat spliceref03_Span.z).Hi) then
            some (.inl (.l1 (IntKind.wrap .i64 (x1_5 + 1))))
          else
            some (.inr false)
        else
          if ((a0.getD x1_5.toNat spliceref03_Span.z).Hi) = ((a1.getD x1_5.toNat spliceref03_Span.z).Hi) then
            some (.inr false)
          else
            some (.inr false)
      else none
    else none
  else
    some (.inr true)

noncomputable def spliceref03_Same.step (a0 : List spliceref03_Span) (a1 : List spliceref03_Span) : spliceref03_Same.S → Option (spliceref03_Same.S ⊕ Bool)
  | .l1 x1_5 => spliceref03_Same.l1 a0 a1 x1_5

noncomputable def spliceref03_Same (a0 : List spliceref03_Span) (a1 : List spliceref03_Span) : Option Bool :=
  if (a0.length : Int) = (a1.length : Int) then
    goLoop (spliceref03_Same.step a0 a1) (.l1 0)
  else
    some false

noncomputable def splicelaw03_same.j1 (y1_8 : Bool) : Option Bool :=
  some y1_8

noncomputable def splicelaw03_same (a0 : List api_Span) (a1 : Int) (a2 : List spliceref03_Span) (a3 : Int) : Option Bool :=
  (splicelaw03_Refs a0).bind fun v1 =>
  (spliceref03_Same v1 a2).bind fun v2 =>
  if v2 = true then
    splicelaw03_same.j1 (a1 == a3)
  else
    splicelaw03_same.j1 false

noncomputable def splicelaw03_alike (a0 : List api_Span) (a1 : List api_Span) : Option Bool :=
  (splicelaw03_Refs a0).bind fun v1 =>
  (splicelaw03_Refs a1).bind fun v2 =>
  (spliceref03_Same v1 v2).bind fun v3 =>
  some v3

noncomputable def span_odd (a0 : api_Span) : Bool :=
  (!(span_One a0))

noncomputable def cmp_isNaN_int (a0 : Int) : Bool :=
  (a0 != a0)

noncomputable def cmp_Compare_int (a0 : Int) (a1 : Int) : Int :=
  if (cmp_isNaN_int a0) = true then
    if (cmp_isNaN_int a1) = true then
      0
    else
      (-1)
  else
    if (cmp_isNaN_int a1) = true then
      1
    else
      if a0 < a1 then
        (-1)
      else
        if a0 > a1 then
          1
        else
          0

noncomputable def span_Make_1 (a0 : api_Span) (a1 : api_Span) : Int :=
  cmp_Compare_int a0.Lo a1.Lo

inductive span_Make.S where
  | l1 (x1_16 : Int) (x1_r0 : List api_Span)

noncomputable def span_Make.j1 (a0 : List api_Span) (x1_16 : Int) (x1_r0 : List api_Span) (y1_34 : Bool) : Option (span_Make.S ⊕ ((List api_Span) × Int)) :=
  if y1_34 = true then
    if 0 ≤ (IntKind.wrap .i64 ((x1_r0.length : Int) - 1)) ∧ (IntKind.wrap .i64 ((x1_r0.length : Int) - 1)) < (x1_r0.length : Int) then
      some (.inl (.l1 (IntKind.wrap .i64 (x1_16 + 1)) (x1_r0.set ((IntKind.wrap .i64 ((x1_r0.length : Int) - 1)).toNat) (⟨(x1_r0.getD ((IntKind.wrap .i64 ((x1_r0.length : Int) - 1)).toNat) api_Span.z).Lo, iMax ((x1_r0.getD ((IntKind.wrap .i64 ((x1_r0.length : Int) - 1)).toNat) api_Span.z).Hi) (((sortL api_Span.z span_Make_1 a0).getD x1_16.toNat api_Span.z).Hi)⟩ : api_Span))))
    else none
  else
    if (x1_r0.length + 1) * 16 ≤ 140737488355328 then
      some (.inl (.l1 (IntKind.wrap .i64 (x1_16 + 1)) (x1_r0 ++ [(sortL api_Span.z span_Make_1 a0).getD x1_16.toNat api_Span.z])))
    else none

noncomputable def span_Make.l1 (a0 : List api_Span) (x1_16 : Int) (x1_r0 : List api_Span) : Option (span_Make.S ⊕ ((List api_Span) × Int)) :=
  if x1_16 < ((sortL api_Span.z span_Make_1 a0).length : Int) then
    if 0 ≤ x1_16 ∧ x1_16 < ((sortL api_Span.z span_Make_1 a0).length : Int) then
      if (IntKind.wrap .i64 ((x1_r0.length : Int) - 1)) ≥ 0 then
        if 0 ≤ (IntKind.wrap .i64 ((x1_r0.length : Int) - 1)) ∧ (IntKind.wrap .i64 ((x1_r0.length : Int) - 1)) < (x1_r0.length : Int) then
          span_Make.j1 a0 x1_16 x1_r0 (decide ((((sortL api_Span.z span_Make_1 a0).getD x1_16.toNat api_Span.z).Lo) ≤ ((x1_r0.getD ((IntKind.wrap .i64 ((x1_r0.length : Int) - 1)).toNat) api_Span.z).Hi)))
        else none
      else
        span_Make.j1 a0 x1_16 x1_r0 false
    else none
  else
    bnd (span_limited x1_r0) fun (v2 : (List api_Span) × Int) =>
    some (.inr (v2.1, v2.2))

noncomputable def span_Make.step (a0 : List api_Span) : span_Make.S → Option (span_Make.S ⊕ ((List api_Span) × Int))
  | .l1 x1_16 x1_r0 => span_Make.l1 a0 x1_16 x1_r0

noncomputable def span_Make (a0 : List api_Span) : Option ((List api_Span) × Int) :=
  (slices_ContainsFunc_api_Span a0 (fun z0 => some (span_odd z0))).bind fun v1 =>
  if v1 = true then
    some (([] : List api_Span), 1)
  else
    if a0.length * 16 ≤ 140737488355328 then
      goLoop (span_Make.step a0) (.l1 0 ([] : List api_Span))
    else none

inductive slices_Concat_api_Span.S where
  | l1 (x1_3 : Int) (x1_11 : Int)
  | l2 (x2_27 : Int) (x2_r0 : List api_Span)

noncomputable def slices_Concat_api_Span.l1 (a0 : List (List api_Span)) (x1_3 : Int) (x1_11 : Int) : Option (slices_Concat_api_Span.S ⊕ (List api_Span)) :=
  if x1_11 < (a0.length : Int) then
    if 0 ≤ x1_11 ∧ x1_11 < (a0.length : Int) then
      bnd (IntKind.wrap .i64 (x1_3 + ((a0.getD x1_11.toNat []).length : Int))) fun (v1 : Int) =>
      if v1 < 0 then
        none
      else
        some (.inl (.l1 v1 (IntKind.wrap .i64 (x1_11 + 1))))
    else none
  else
    if 0 ≤ x1_3 ∧ x1_3 * 16 ≤ 140737488355328 then
      some (.inl (.l2 0 ([] : List api_Span)))
    else none

noncomputable def slices_Concat_api_Span.l2 (a0 : List (List api_Span)) (x2_27 : Int) (x2_r0 : List api_Span) : Option (slices_Concat_api_Span.S ⊕ (List api_Span)) :=
  if x2_27 < (a0.length : Int) then
    if 0 ≤ x2_27 ∧ x2_27 < (a0.length : Int) then
      if (x2_r0.length + (a0.getD x2_27.toNat []).length) * 16 ≤ 140737488355328 then
        some (.inl (.l2 (IntKind.wrap .i64 (x2_27 + 1)) (x2_r0 ++ (a0.getD x2_27.toNat []))))
      else none
    else none
  else
    some (.inr x2_r0)

noncomputable def slices_Concat_api_Span.step (a0 : List (List api_Span)) : slices_Concat_api_Span.S → Option (slices_Concat_api_Span.S ⊕ (List api_Span))
  | .l1 x1_3 x1_11 => slices_Concat_api_Span.l1 a0 x1_3 x1_11
  | .l2 x2_27 x2_r0 => slices_Concat_api_Span.l2 a0 x2_27 x2_r0

noncomputable def slices_Concat_api_Span (a0 : List (List api_Span)) : Option (List api_Span) :=
  goLoop (slices_Concat_api_Span.step a0) (.l1 0 0)

noncomputable def span_Join.j1 (a0 : List api_Span) (a1 : List api_Span) (y1_13 : Bool) : Option ((List api_Span) × Int) :=
  if y1_13 = true then
    some (([] : List api_Span), 1)
  else
    (slices_Concat_api_Span ([a0, a1] : List (List api_Span))).bind fun v3 =>
    (span_Make v3).bind fun v4 =>
    some (v4.1, v4.2)

noncomputable def span_Join (a0 : List api_Span) (a1 : List api_Span) : Option ((List api_Span) × Int) :=
  (span_Check a0).bind fun v1 =>
  if v1 = true then
    (span_Check a1).bind fun v2 =>
    span_Join.j1 a0 a1 (!v2)
  else
    span_Join.j1 a0 a1 true

noncomputable def splicelaw03_awake.j1 (y1_0 : Bool) : Option Bool :=
  some y1_0

noncomputable def splicelaw03_awake : Option Bool :=
  (span_Make ([(⟨5, 7⟩ : api_Span), (⟨1, 3⟩ : api_Span), (⟨3, 4⟩ : api_Span)] : List api_Span)).bind fun v1 =>
  (span_Meet v1.1 ([(⟨3, 6⟩ : api_Span)] : List api_Span)).bind fun v2 =>
  if v1.2 = 0 then
    if (v1.1.length : Int) = 2 then
      if (0 : Int) ≤ 0 ∧ 0 < (v1.1.length : Int) then
        if ((v1.1.getD 0 api_Span.z).Lo) = 1 then
          if ((v1.1.getD 0 api_Span.z).Hi) = 4 then
            if v2.2 = 0 then
              if (v2.1.length : Int) = 2 then
                if (0 : Int) ≤ 1 ∧ 1 < (v2.1.length : Int) then
                  splicelaw03_awake.j1 ((((v2.1.getD 1 api_Span.z).Lo) == 5) && (((v2.1.getD 1 api_Span.z).Hi) == 6))
                else none
              else
                splicelaw03_awake.j1 false
            else
              splicelaw03_awake.j1 false
          else
            splicelaw03_awake.j1 false
        else
          if ((v1.1.getD 0 api_Span.z).Hi) = 4 then
            splicelaw03_awake.j1 false
          else
            splicelaw03_awake.j1 false
      else none
    else
      splicelaw03_awake.j1 false
  else
    splicelaw03_awake.j1 false

noncomputable def splicelaw03_SpanMakes.j1 (y1_2 : Bool) : Option Bool :=
  some y1_2

noncomputable def splicelaw03_SpanMakes (a0 : List api_Span) : Option Bool :=
  if (splicelaw03_few a0) = true then
    (span_Make a0).bind fun v2 =>
    (splicelaw03_Refs a0).bind fun v3 =>
    (spliceref03_Make v3).bind fun v4 =>
    (splicelaw03_awake).bind fun v5 =>
    if v5 = true then
      (splicelaw03_same v2.1 v2.2 v4.1 v4.2).bind fun v6 =>
      splicelaw03_SpanMakes.j1 v6
    else
      splicelaw03_SpanMakes.j1 false
  else
    (splicelaw03_awake).bind fun v1 =>
    some v1

noncomputable def splicelaw03_SpanMeets.j3 (y3_4 : Bool) : Option Bool :=
  some y3_4

noncomputable def splicelaw03_SpanMeets.j2 (a0 : List api_Span) (a1 : List api_Span) (v2 : (List api_Span) × Int) (v5 : (List spliceref03_Span) × Int) (y2_9 : Bool) : Option Bool :=
  (splicelaw03_awake).bind fun v10 =>
  if v10 = true then
    (splicelaw03_same v2.1 v2.2 v5.1 v5.2).bind fun v11 =>
    if v11 = true then
      (span_Touch a0 a1).bind fun v12 =>
      if y2_9 = true then
        (splicelaw03_Refs a0).bind fun v13 =>
        (splicelaw03_Refs a1).bind fun v14 =>
        (spliceref03_Some v13 v14 1).bind fun v15 =>
        splicelaw03_SpanMeets.j3 (v12 == v15)
      else
        splicelaw03_SpanMeets.j3 (v12 == false)
    else
      splicelaw03_SpanMeets.j3 false
  else
    splicelaw03_SpanMeets.j3 false

noncomputable def splicelaw03_SpanMeets.j1 (a0 : List api_Span) (a1 : List api_Span) (y1_17 : Bool) : Option Bool :=
  if y1_17 = true then
    (splicelaw03_awake).bind fun v1 =>
    some v1
  else
    (span_Meet a0 a1).bind fun v2 =>
    (splicelaw03_Refs a0).bind fun v3 =>
    (splicelaw03_Refs a1).bind fun v4 =>
    (spliceref03_Mix v3 v4 1).bind fun v5 =>
    (splicelaw03_Refs a0).bind fun v6 =>
    (spliceref03_Check v6).bind fun v7 =>
    if v7 = true then
      (splicelaw03_Refs a1).bind fun v8 =>
      (spliceref03_Check v8).bind fun v9 =>
      splicelaw03_SpanMeets.j2 a0 a1 v2 v5 v9
    else
      splicelaw03_SpanMeets.j2 a0 a1 v2 v5 false

noncomputable def splicelaw03_SpanMeets (a0 : List api_Span) (a1 : List api_Span) : Option Bool :=
  if (splicelaw03_few a0) = true then
    splicelaw03_SpanMeets.j1 a0 a1 (!(splicelaw03_few a1))
  else
    splicelaw03_SpanMeets.j1 a0 a1 true

noncomputable def splicelaw03_SpanChecks.j1 (y1_6 : Bool) : Option Bool :=
  some y1_6

noncomputable def splicelaw03_SpanChecks (a0 : List api_Span) (a1 : api_Span) (a2 : Int) : Option Bool :=
  if (splicelaw03_few a0) = true then
    (splicelaw03_Refs a0).bind fun v2 =>
    (splicelaw03_awake).bind fun v3 =>
    if v3 = true then
      if (span_One a1) = true then
        if (spliceref03_One (⟨a1.Lo, a1.Hi⟩ : spliceref03_Span)) = true then
          (span_Check a0).bind fun v4 =>
          (spliceref03_Check v2).bind fun v5 =>
          if v4 = true then
            if v5 = true then
              (span_Has a0 a2).bind fun v6 =>
              (spliceref03_Has v2 a2).bind fun v7 =>
              if v6 = true then
                if v7 = true then
                  (span_Count a0).bind fun v8 =>
                  (spliceref03_Count v2).bind fun v9 =>
                  splicelaw03_SpanChecks.j1 (v8 == v9)
                else
                  splicelaw03_SpanChecks.j1 false
              else
                if v7 = true then
                  splicelaw03_SpanChecks.j1 false
                else
                  (span_Count a0).bind fun v10 =>
                  (spliceref03_Count v2).bind fun v11 =>
                  splicelaw03_SpanChecks.j1 (v10 == v11)
            else
              splicelaw03_SpanChecks.j1 false
          else
            if v5 = true then
              splicelaw03_SpanChecks.j1 false
            else
              (span_Has a0 a2).bind fun v12 =>
              (spliceref03_Has v2 a2).bind fun v13 =>
              if v12 = true then
                if v13 = true then
                  (span_Count a0).bind fun v14 =>
                  (spliceref03_Count v2).bind fun v15 =>
                  splicelaw03_SpanChecks.j1 (v14 == v15)
                else
                  splicelaw03_SpanChecks.j1 false
              else
                if v13 = true then
                  splicelaw03_SpanChecks.j1 false
                else
                  (span_Count a0).bind fun v16 =>
                  (spliceref03_Count v2).bind fun v17 =>
                  splicelaw03_SpanChecks.j1 (v16 == v17)
        else
          splicelaw03_SpanChecks.j1 false
      else
        if (spliceref03_One (⟨a1.Lo, a1.Hi⟩ : spliceref03_Span)) = true then
          splicelaw03_SpanChecks.j1 false
        else
          (span_Check a0).bind fun v18 =>
          (spliceref03_Check v2).bind fun v19 =>
          if v18 = true then
            if v19 = true then
              (span_Has a0 a2).bind fun v20 =>
              (spliceref03_Has v2 a2).bind fun v21 =>
              if v20 = true then
                if v21 = true then
                  (span_Count a0).bind fun v22 =>
                  (spliceref03_Count v2).bind fun v23 =>
                  splicelaw03_SpanChecks.j1 (v22 == v23)
                else
                  splicelaw03_SpanChecks.j1 false
              else
                if v21 = true then
                  splicelaw03_SpanChecks.j1 false
                else
                  (span_Count a0).bind fun v24 =>
                  (spliceref03_Count v2).bind fun v25 =>
                  splicelaw03_SpanChecks.j1 (v24 == v25)
            else
              splicelaw03_SpanChecks.j1 false
          else
            if v19 = true then
              splicelaw03_SpanChecks.j1 false
            else
              (span_Has a0 a2).bind fun v26 =>
              (spliceref03_Has v2 a2).bind fun v27 =>
              if v26 = true then
                if v27 = true then
                  (span_Count a0).bind fun v28 =>
                  (spliceref03_Count v2).bind fun v29 =>
                  splicelaw03_SpanChecks.j1 (v28 == v29)
                else
                  splicelaw03_SpanChecks.j1 false
              else
                if v27 = true then
                  splicelaw03_SpanChecks.j1 false
                else
                  (span_Count a0).bind fun v30 =>
                  (spliceref03_Count v2).bind fun v31 =>
                  splicelaw03_SpanChecks.j1 (v30 == v31)
    else
      splicelaw03_SpanChecks.j1 false
  else
    (splicelaw03_awake).bind fun v1 =>
    some v1

noncomputable def splicelaw03_SpanKeys.j2 (y2_4 : Bool) : Option Bool :=
  some y2_4

noncomputable def splicelaw03_SpanKeys.j1 (a0 : List api_Span) (a1 : List api_Span) (y1_24 : Bool) : Option Bool :=
  if y1_24 = true then
    (splicelaw03_awake).bind fun v3 =>
    some v3
  else
    (span_Make a0).bind fun v4 =>
    (splicelaw03_awake).bind fun v5 =>
    if v5 = true then
      if v4.2 = 0 then
        (splicelaw03_alike v4.1 a0).bind fun v6 =>
        if v6 = true then
          (span_Within a0 a1).bind fun v7 =>
          if v7 = true then
            (span_Within a1 a0).bind fun v8 =>
            (splicelaw03_alike a0 a1).bind fun v9 =>
            splicelaw03_SpanKeys.j2 (v8 == v9)
          else
            (splicelaw03_alike a0 a1).bind fun v10 =>
            splicelaw03_SpanKeys.j2 (false == v10)
        else
          splicelaw03_SpanKeys.j2 false
      else
        splicelaw03_SpanKeys.j2 false
    else
      splicelaw03_SpanKeys.j2 false

noncomputable def splicelaw03_SpanKeys (a0 : List api_Span) (a1 : List api_Span) : Option Bool :=
  if (splicelaw03_few a0) = true then
    if (splicelaw03_few a1) = true then
      (span_Check a0).bind fun v1 =>
      if v1 = true then
        (span_Check a1).bind fun v2 =>
        splicelaw03_SpanKeys.j1 a0 a1 (!v2)
      else
        splicelaw03_SpanKeys.j1 a0 a1 true
    else
      splicelaw03_SpanKeys.j1 a0 a1 true
  else
    splicelaw03_SpanKeys.j1 a0 a1 true

noncomputable def splicelaw03_SpanLesses.j3 (y3_4 : Bool) : Option Bool :=
  some y3_4

noncomputable def splicelaw03_SpanLesses.j2 (a0 : List api_Span) (a1 : List api_Span) (v2 : (List api_Span) × Int) (v5 : (List spliceref03_Span) × Int) (y2_9 : Bool) : Option Bool :=
  (splicelaw03_awake).bind fun v10 =>
  if v10 = true then
    (splicelaw03_same v2.1 v2.2 v5.1 v5.2).bind fun v11 =>
    if v11 = true then
      (span_Within a0 a1).bind fun v12 =>
      if y2_9 = true then
        (splicelaw03_Refs a0).bind fun v13 =>
        (splicelaw03_Refs a1).bind fun v14 =>
        (spliceref03_Some v13 v14 2).bind fun v15 =>
        splicelaw03_SpanLesses.j3 (v12 == (!v15))
      else
        splicelaw03_SpanLesses.j3 (v12 == false)
    else
      splicelaw03_SpanLesses.j3 false
  else
    splicelaw03_SpanLesses.j3 false

noncomputable def splicelaw03_SpanLesses.j1 (a0 : List api_Span) (a1 : List api_Span) (y1_17 : Bool) : Option Bool :=
  if y1_17 = true then
    (splicelaw03_awake).bind fun v1 =>
    some v1
  else
    (span_Less a0 a1).bind fun v2 =>
    (splicelaw03_Refs a0).bind fun v3 =>
    (splicelaw03_Refs a1).bind fun v4 =>
    (spliceref03_Mix v3 v4 2).bind fun v5 =>
    (splicelaw03_Refs a0).bind fun v6 =>
    (spliceref03_Check v6).bind fun v7 =>
    if v7 = true then
      (splicelaw03_Refs a1).bind fun v8 =>
      (spliceref03_Check v8).bind fun v9 =>
      splicelaw03_SpanLesses.j2 a0 a1 v2 v5 v9
    else
      splicelaw03_SpanLesses.j2 a0 a1 v2 v5 false

noncomputable def splicelaw03_SpanLesses (a0 : List api_Span) (a1 : List api_Span) : Option Bool :=
  if (splicelaw03_few a0) = true then
    splicelaw03_SpanLesses.j1 a0 a1 (!(splicelaw03_few a1))
  else
    splicelaw03_SpanLesses.j1 a0 a1 true

noncomputable def splicelaw03_SpanJoins.j2 (y2_4 : Bool) : Option Bool :=
  some y2_4

noncomputable def splicelaw03_SpanJoins.j1 (a0 : List api_Span) (a1 : List api_Span) (y1_16 : Bool) : Option Bool :=
  if y1_16 = true then
    (splicelaw03_awake).bind fun v1 =>
    some v1
  else
    (span_Join a0 a1).bind fun v2 =>
    (splicelaw03_Refs a0).bind fun v3 =>
    (splicelaw03_Refs a1).bind fun v4 =>
    (spliceref03_Mix v3 v4 0).bind fun v5 =>
    (splicelaw03_awake).bind fun v6 =>
    if v6 = true then
      (splicelaw03_same v2.1 v2.2 v5.1 v5.2).bind fun v7 =>
      splicelaw03_SpanJoins.j2 v7
    else
      splicelaw03_SpanJoins.j2 false

noncomputable def splicelaw03_SpanJoins (a0 : List api_Span) (a1 : List api_Span) : Option Bool :=
  if (splicelaw03_few a0) = true then
    splicelaw03_SpanJoins.j1 a0 a1 (!(splicelaw03_few a1))
  else
    splicelaw03_SpanJoins.j1 a0 a1 true

noncomputable def splicelaw03_SpanOrder.j4 (y4_6 : Bool) : Option Bool :=
  some y4_6

noncomputable def splicelaw03_SpanOrder.j3 (v8 : (List api_Span) × Int) (v10 : (List api_Span) × Int) (y3_110 : Bool) : Option Bool :=
  if y3_110 = true then
    (splicelaw03_awake).bind fun v11 =>
    some v11
  else
    (splicelaw03_awake).bind fun v12 =>
    if v12 = true then
      (splicelaw03_alike v8.1 v10.1).bind fun v13 =>
      splicelaw03_SpanOrder.j4 v13
    else
      splicelaw03_SpanOrder.j4 false

noncomputable def splicelaw03_SpanOrder.j2 (a0 : List api_Span) (a1 : List api_Span) (a2 : List api_Span) (v2 : (List api_Span) × Int) (y2_78 : Bool) : Option Bool :=
  if y2_78 = true then
    some false
  else
    (span_Join v2.1 a2).bind fun v8 =>
    (span_Join a1 a2).bind fun v9 =>
    (span_Join a0 v9.1).bind fun v10 =>
    if v2.2 = 0 then
      if v8.2 = 0 then
        if v9.2 = 0 then
          splicelaw03_SpanOrder.j3 v8 v10 (v10.2 != 0)
        else
          splicelaw03_SpanOrder.j3 v8 v10 true
      else
        splicelaw03_SpanOrder.j3 v8 v10 true
    else
      splicelaw03_SpanOrder.j3 v8 v10 true

noncomputable def splicelaw03_SpanOrder.j1 (a0 : List api_Span) (a1 : List api_Span) (a2 : List api_Span) (y1_33 : Bool) : Option Bool :=
  if y1_33 = true then
    (splicelaw03_awake).bind fun v1 =>
    some v1
  else
    (span_Join a0 a1).bind fun v2 =>
    (span_Join a1 a0).bind fun v3 =>
    (span_Meet a0 a1).bind fun v4 =>
    (span_Meet a1 a0).bind fun v5 =>
    if v2.2 = v3.2 then
      if v4.2 = v5.2 then
        (splicelaw03_alike v2.1 v3.1).bind fun v6 =>
        if v6 = true then
          (splicelaw03_alike v4.1 v5.1).bind fun v7 =>
          splicelaw03_SpanOrder.j2 a0 a1 a2 v2 (!v7)
        else
          splicelaw03_SpanOrder.j2 a0 a1 a2 v2 true
      else
        splicelaw03_SpanOrder.j2 a0 a1 a2 v2 true
    else
      splicelaw03_SpanOrder.j2 a0 a1 a2 v2 true

noncomputable def splicelaw03_SpanOrder (a0 : List api_Span) (a1 : List api_Span) (a2 : List api_Span) : Option Bool :=
  if (splicelaw03_few a0) = true then
    if (splicelaw03_few a1) = true then
      splicelaw03_SpanOrder.j1 a0 a1 a2 (!(splicelaw03_few a2))
    else
      splicelaw03_SpanOrder.j1 a0 a1 a2 true
  else
    splicelaw03_SpanOrder.j1 a0 a1 a2 true

noncomputable def splicelaw03_SpanSpreads.j3 (y3_6 : Bool) : Option Bool :=
  some y3_6

noncomputable def splicelaw03_SpanSpreads.j2 (v3 : (List api_Span) × Int) (v6 : (List api_Span) × Int) (y2_78 : Bool) : Option Bool :=
  if y2_78 = true then
    (splicelaw03_awake).bind fun v7 =>
    some v7
  else
    (splicelaw03_awake).bind fun v8 =>
    if v8 = true then
      (splicelaw03_alike v3.1 v6.1).bind fun v9 =>
      splicelaw03_SpanSpreads.j3 v9
    else
      splicelaw03_SpanSpreads.j3 false

noncomputable def splicelaw03_SpanSpreads.j1 (a0 : List api_Span) (a1 : List api_Span) (a2 : List api_Span) (y1_29 : Bool) : Option Bool :=
  if y1_29 = true then
    (splicelaw03_awake).bind fun v1 =>
    some v1
  else
    (span_Join a1 a2).bind fun v2 =>
    (span_Meet a0 v2.1).bind fun v3 =>
    (span_Meet a0 a1).bind fun v4 =>
    (span_Meet a0 a2).bind fun v5 =>
    (span_Join v4.1 v5.1).bind fun v6 =>
    if v2.2 = 0 then
      if v3.2 = 0 then
        if v4.2 = 0 then
          if v5.2 = 0 then
            splicelaw03_SpanSpreads.j2 v3 v6 (v6.2 != 0)
          else
            splicelaw03_SpanSpreads.j2 v3 v6 true
        else
          splicelaw03_SpanSpreads.j2 v3 v6 true
      else
        splicelaw03_SpanSpreads.j2 v3 v6 true
    else
      splicelaw03_SpanSpreads.j2 v3 v6 true

noncomputable def splicelaw03_SpanSpreads (a0 : List api_Span) (a1 : List api_Span) (a2 : List api_Span) : Option Bool :=
  if (splicelaw03_few a0) = true then
    if (splicelaw03_few a1) = true then
      splicelaw03_SpanSpreads.j1 a0 a1 a2 (!(splicelaw03_few a2))
    else
      splicelaw03_SpanSpreads.j1 a0 a1 a2 true
  else
    splicelaw03_SpanSpreads.j1 a0 a1 a2 true

noncomputable def splicelaw03_SpanCounts.j3 (y3_4 : Bool) : Option Bool :=
  some y3_4

noncomputable def splicelaw03_SpanCounts.j2 (a0 : List api_Span) (a1 : List api_Span) (v2 : (List api_Span) × Int) (v3 : (List api_Span) × Int) (y2_35 : Bool) : Option Bool :=
  if y2_35 = true then
    (splicelaw03_awake).bind fun v4 =>
    some v4
  else
    (splicelaw03_awake).bind fun v5 =>
    if v5 = true then
      (span_Count a0).bind fun v6 =>
      (span_Count a1).bind fun v7 =>
      (span_Count v2.1).bind fun v8 =>
      (span_Count v3.1).bind fun v9 =>
      if (IntKind.wrap .i64 (v6 + v7)) = (IntKind.wrap .i64 (v8 + v9)) then
        (span_Touch a0 a1).bind fun v10 =>
        (span_Count v3.1).bind fun v11 =>
        splicelaw03_SpanCounts.j3 (v10 == (decide (v11 > 0)))
      else
        splicelaw03_SpanCounts.j3 false
    else
      splicelaw03_SpanCounts.j3 false

noncomputable def splicelaw03_SpanCounts.j1 (a0 : List api_Span) (a1 : List api_Span) (y1_16 : Bool) : Option Bool :=
  if y1_16 = true then
    (splicelaw03_awake).bind fun v1 =>
    some v1
  else
    (span_Join a0 a1).bind fun v2 =>
    (span_Meet a0 a1).bind fun v3 =>
    if v2.2 = 0 then
      splicelaw03_SpanCounts.j2 a0 a1 v2 v3 (v3.2 != 0)
    else
      splicelaw03_SpanCounts.j2 a0 a1 v2 v3 true

noncomputable def splicelaw03_SpanCounts (a0 : List api_Span) (a1 : List api_Span) : Option Bool :=
  if (splicelaw03_few a0) = true then
    splicelaw03_SpanCounts.j1 a0 a1 (!(splicelaw03_few a1))
  else
    splicelaw03_SpanCounts.j1 a0 a1 true

noncomputable def splicelaw03_SpanParts.j3 (y3_4 : Bool) : Option Bool :=
  some y3_4

noncomputable def splicelaw03_SpanParts.j2 (a0 : List api_Span) (a1 : List api_Span) (v2 : (List api_Span) × Int) (v3 : (List api_Span) × Int) (y2_37 : Bool) : Option Bool :=
  if y2_37 = true then
    (splicelaw03_awake).bind fun v4 =>
    some v4
  else
    (span_Join v2.1 v3.1).bind fun v5 =>
    (splicelaw03_awake).bind fun v6 =>
    if v6 = true then
      if v5.2 = 0 then
        (splicelaw03_alike v5.1 a0).bind fun v7 =>
        if v7 = true then
          (span_Touch v2.1 v3.1).bind fun v8 =>
          if v8 = true then
            splicelaw03_SpanParts.j3 false
          else
            (span_Count v2.1).bind fun v9 =>
            (span_Count v3.1).bind fun v10 =>
            (span_Count a0).bind fun v11 =>
            if (IntKind.wrap .i64 (v9 + v10)) = v11 then
              (span_Within v2.1 a1).bind fun v12 =>
              if v12 = true then
                (span_Within v2.1 a0).bind fun v13 =>
                splicelaw03_SpanParts.j3 v13
              else
                splicelaw03_SpanParts.j3 false
            else
              splicelaw03_SpanParts.j3 false
        else
          splicelaw03_SpanParts.j3 false
      else
        splicelaw03_SpanParts.j3 false
    else
      splicelaw03_SpanParts.j3 false

noncomputable def splicelaw03_SpanParts.j1 (a0 : List api_Span) (a1 : List api_Span) (y1_18 : Bool) : Option Bool :=
  if y1_18 = true then
    (splicelaw03_awake).bind fun v1 =>
    some v1
  else
    (span_Meet a0 a1).bind fun v2 =>
    (span_Less a0 a1).bind fun v3 =>
    if v2.2 = 0 then
      splicelaw03_SpanParts.j2 a0 a1 v2 v3 (v3.2 != 0)
    else
      splicelaw03_SpanParts.j2 a0 a1 v2 v3 true

noncomputable def splicelaw03_SpanParts (a0 : List api_Span) (a1 : List api_Span) : Option Bool :=
  if (splicelaw03_few a0) = true then
    splicelaw03_SpanParts.j1 a0 a1 (!(splicelaw03_few a1))
  else
    splicelaw03_SpanParts.j1 a0 a1 true
end Go.SyP
