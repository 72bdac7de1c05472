/- Plain functions, printed by gen.py. -/
import Derived.Test.YtbhipajnkkjceaaSyStr2
set_option linter.unusedVariables false
namespace Go.SyP
open Go Go.Sy

structure api_Pair where
  Key : Int
  Val : Int
def api_Pair.z : api_Pair := ⟨0, 0⟩
structure api_Span where
  Lo : Int
  Hi : Int
def api_Span.z : api_Span := ⟨0, 0⟩
structure api_Mut where
  Client : Int
  Seq : Int
  Kind : Int
  Pairs : List api_Pair
  Over : api_Span
  Old : Int
def api_Mut.z : api_Mut := ⟨0, 0, 0, [], api_Span.z, 0⟩
structure spliceref04_Pair where
  Key : Int
  Val : Int
def spliceref04_Pair.z : spliceref04_Pair := ⟨0, 0⟩
structure spliceref03_Span where
  Lo : Int
  Hi : Int
def spliceref03_Span.z : spliceref03_Span := ⟨0, 0⟩
structure spliceref04_Mut where
  Client : Int
  Seq : Int
  Kind : Int
  Pairs : List spliceref04_Pair
  Over : spliceref03_Span
  Old : Int
def spliceref04_Mut.z : spliceref04_Mut := ⟨0, 0, 0, [], spliceref03_Span.z, 0⟩
structure api_Stamp where
  Time : Int
  Client : Int
  Seq : Int
def api_Stamp.z : api_Stamp := ⟨0, 0, 0⟩
structure spliceref04_Stamp where
  Time : Int
  Client : Int
  Seq : Int
def spliceref04_Stamp.z : spliceref04_Stamp := ⟨0, 0, 0⟩
structure vint_Reader where
  s : ByteArray
  e_ : Int
def vint_Reader.z : vint_Reader := ⟨sZ, 0⟩
structure spliceref01_Reader where
  S : ByteArray
  E : Int
def spliceref01_Reader.z : spliceref01_Reader := ⟨sZ, 0⟩

noncomputable def splicelaw04_few (a0 : api_Mut) : Bool :=
  decide ((a0.Pairs.length : Int) ≤ 100)

inductive slices_IndexFunc_api_Pair.S where
  | l1 (x1_8 : Int)

noncomputable def slices_IndexFunc_api_Pair.l1 (a0 : List api_Pair) (p1 : api_Pair → Option Bool) (x1_8 : Int) : Option (slices_IndexFunc_api_Pair.S ⊕ Int) :=
  if x1_8 < (a0.length : Int) then
    if 0 ≤ x1_8 ∧ x1_8 < (a0.length : Int) then
      (p1 (a0.getD x1_8.toNat api_Pair.z)).bind fun v1 =>
      if v1 = true then
        some (.inr x1_8)
      else
        some (.inl (.l1 (IntKind.wrap .i64 (x1_8 + 1))))
    else none
  else
    some (.inr (-1))

noncomputable def slices_IndexFunc_api_Pair.step (a0 : List api_Pair) (p1 : api_Pair → Option Bool) : slices_IndexFunc_api_Pair.S → Option (slices_IndexFunc_api_Pair.S ⊕ Int)
  | .l1 x1_8 => slices_IndexFunc_api_Pair.l1 a0 p1 x1_8

noncomputable def slices_IndexFunc_api_Pair (a0 : List api_Pair) (p1 : api_Pair → Option Bool) : Option Int :=
  goLoop (slices_IndexFunc_api_Pair.step a0 p1) (.l1 0)

noncomputable def slices_ContainsFunc_api_Pair (a0 : List api_Pair) (p1 : api_Pair → Option Bool) : Option Bool :=
  (slices_IndexFunc_api_Pair a0 p1).bind fun v1 =>
  some (decide (v1 ≥ 0))

noncomputable def mut_value.j1 (y1_2 : Bool) : Bool :=
  y1_2

noncomputable def mut_value (a0 : Int) : Bool :=
  if a0 ≥ (-1099511627776) then
    mut_value.j1 (decide (a0 ≤ 1099511627776))
  else
    mut_value.j1 false

noncomputable def mut_pair.j1 (y1_2 : Bool) : Bool :=
  y1_2

noncomputable def mut_pair (a0 : api_Pair) : Bool :=
  if a0.Key ≥ 0 then
    if a0.Key < 4096 then
      mut_pair.j1 (mut_value a0.Val)
    else
      mut_pair.j1 false
  else
    mut_pair.j1 false

noncomputable def mut_pairs_1 (a0 : api_Pair) : Bool :=
  (!(mut_pair a0))

noncomputable def mut_pairs.j1 (y1_6 : Bool) : Option Bool :=
  some y1_6

noncomputable def mut_pairs (a0 : api_Mut) (a1 : Int) (a2 : Int) : Option Bool :=
  if (a0.Pairs.length : Int) ≥ a1 then
    if (a0.Pairs.length : Int) ≤ a2 then
      (slices_ContainsFunc_api_Pair a0.Pairs (fun z0 => some (mut_pairs_1 z0))).bind fun v1 =>
      mut_pairs.j1 (!v1)
    else
      mut_pairs.j1 false
  else
    mut_pairs.j1 false

inductive mut_rising.S where
  | l1 (x1_3 : Int)

noncomputable def mut_rising.l1 (a0 : List api_Pair) (x1_3 : Int) : Option (mut_rising.S ⊕ Bool) :=
  if x1_3 < (a0.length : Int) then
    if 0 ≤ (IntKind.wrap .i64 (x1_3 - 1)) ∧ (IntKind.wrap .i64 (x1_3 - 1)) < (a0.length : Int) then
      if 0 ≤ x1_3 ∧ x1_3 < (a0.length : Int) then
        if ((a0.getD ((IntKind.wrap .i64 (x1_3 - 1)).toNat) api_Pair.z).Key) ≥ ((a0.getD x1_3.toNat api_Pair.z).Key) then
          some (.inr false)
        else
          some (.inl (.l1 (IntKind.wrap .i64 (x1_3 + 1))))
      else none
    else none
  else
    some (.inr true)

noncomputable def mut_rising.step (a0 : List api_Pair) : mut_rising.S → Option (mut_rising.S ⊕ Bool)
  | .l1 x1_3 => mut_rising.l1 a0 x1_3

noncomputable def mut_rising (a0 : List api_Pair) : Option Bool :=
  goLoop (mut_rising.step a0) (.l1 1)

noncomputable def span_One.j1 (y1_2 : Bool) : Bool :=
  y1_2

noncomputable def span_One (a0 : api_Span) : Bool :=
  if a0.Lo ≥ 0 then
    if a0.Lo < a0.Hi then
      span_One.j1 (decide (a0.Hi ≤ 4096))
    else
      span_One.j1 false
  else
    span_One.j1 false

noncomputable def mut_kind.j2 (y2_2 : Bool) : Option Bool :=
  some y2_2

noncomputable def mut_kind.j3 (y3_2 : Bool) : Option Bool :=
  some y3_2

noncomputable def mut_kind.j4 (y4_2 : Bool) : Option Bool :=
  some y4_2

noncomputable def mut_kind.j5 (y5_2 : Bool) : Option Bool :=
  some y5_2

noncomputable def mut_kind.j1 (a0 : api_Mut) (y1_23 : Bool) : Option Bool :=
  if y1_23 = true then
    some false
  else
    if a0.Kind = 1 then
      (mut_pairs a0 1 8).bind fun v1 =>
      if v1 = true then
        (mut_rising a0.Pairs).bind fun v2 =>
        mut_kind.j2 v2
      else
        mut_kind.j2 false
    else
      if a0.Kind = 2 then
        if (a0.Pairs.length : Int) = 0 then
          mut_kind.j3 (span_One a0.Over)
        else
          mut_kind.j3 false
      else
        if a0.Kind = 3 then
          (mut_pairs a0 1 1).bind fun v3 =>
          some v3
        else
          if a0.Kind = 4 then
            (mut_pairs a0 1 1).bind fun v4 =>
            if v4 = true then
              if (mut_value a0.Old) = true then
                mut_kind.j4 true
              else
                mut_kind.j4 (a0.Old == 1099511627777)
            else
              mut_kind.j4 false
          else
            if a0.Kind = 5 then
              (mut_pairs a0 2 2).bind fun v5 =>
              if v5 = true then
                if (0 : Int) ≤ 0 ∧ 0 < (a0.Pairs.length : Int) then
                  if (0 : Int) ≤ 1 ∧ 1 < (a0.Pairs.length : Int) then
                    if ((a0.Pairs.getD 0 api_Pair.z).Key) = ((a0.Pairs.getD 1 api_Pair.z).Key) then
                      mut_kind.j5 false
                    else
                      if ((a0.Pairs.getD 0 api_Pair.z).Val) = ((a0.Pairs.getD 1 api_Pair.z).Val) then
                        mut_kind.j5 (decide (((a0.Pairs.getD 0 api_Pair.z).Val) ≥ 0))
                      else
                        mut_kind.j5 false
                  else none
                else none
              else
                mut_kind.j5 false
            else
              some false

noncomputable def mut_kind (a0 : api_Mut) : Option Bool :=
  if a0.Kind = 2 then
    if a0.Kind = 4 then
      mut_kind.j1 a0 false
    else
      mut_kind.j1 a0 (a0.Old != 0)
  else
    if a0.Over.Lo = 0 then
      if a0.Over.Hi = 0 then
        if a0.Kind = 4 then
          mut_kind.j1 a0 false
        else
          mut_kind.j1 a0 (a0.Old != 0)
      else
        mut_kind.j1 a0 true
    else
      if a0.Over.Hi = 0 then
        mut_kind.j1 a0 true
      else
        mut_kind.j1 a0 true

noncomputable def mut_Check.j1 (y1_2 : Bool) : Option Bool :=
  some y1_2

noncomputable def mut_Check (a0 : api_Mut) : Option Bool :=
  if a0.Client ≥ 1 then
    if a0.Client ≤ 1048576 then
      if a0.Seq ≥ 1 then
        if a0.Seq ≤ 1073741824 then
          (mut_kind a0).bind fun v1 =>
          mut_Check.j1 v1
        else
          mut_Check.j1 false
      else
        mut_Check.j1 false
    else
      mut_Check.j1 false
  else
    mut_Check.j1 false

inductive slices_IndexFunc_api_Span.S where
  | l1 (x1_8 : Int)

noncomputable def slices_IndexFunc_api_Span.l1 (a0 : List api_Span) (p1 : api_Span → Option Bool) (x1_8 : Int) : Option (slices_IndexFunc_api_Span.S ⊕ Int) :=
  if x1_8 < (a0.length : Int) then
    if 0 ≤ x1_8 ∧ x1_8 < (a0.length : Int) then
      (p1 (a0.getD x1_8.toNat api_Span.z)).bind fun v1 =>
      if v1 = true then
        some (.inr x1_8)
      else
        some (.inl (.l1 (IntKind.wrap .i64 (x1_8 + 1))))
    else none
  else
    some (.inr (-1))

noncomputable def slices_IndexFunc_api_Span.step (a0 : List api_Span) (p1 : api_Span → Option Bool) : slices_IndexFunc_api_Span.S → Option (slices_IndexFunc_api_Span.S ⊕ Int)
  | .l1 x1_8 => slices_IndexFunc_api_Span.l1 a0 p1 x1_8

noncomputable def slices_IndexFunc_api_Span (a0 : List api_Span) (p1 : api_Span → Option Bool) : Option Int :=
  goLoop (slices_IndexFunc_api_Span.step a0 p1) (.l1 0)

noncomputable def slices_ContainsFunc_api_Span (a0 : List api_Span) (p1 : api_Span → Option Bool) : Option Bool :=
  (slices_IndexFunc_api_Span a0 p1).bind fun v1 =>
  some (decide (v1 ≥ 0))

noncomputable def span_odd (a0 : api_Span) : Bool :=
  (!(span_One a0))

noncomputable def cmp_isNaN_int (a0 : Int) : Bool :=
  (a0 != a0)

noncomputable def cmp_Compare_int (a0 : Int) (a1 : Int) : Int :=
  if (cmp_isNaN_int a0) = true then
    if (cmp_isNaN_int a1) = true then
      0
    else
      (-1)
  else
    if (cmp_isNaN_int a1) = true then
      1
    else
      if a0 < a1 then
        (-1)
      else
        if a0 > a1 then
          1
        else
          0

noncomputable def span_Make_1 (a0 : api_Span) (a1 : api_Span) : Int :=
  cmp_Compare_int a0.Lo a1.Lo

noncomputable def span_limited (a0 : List api_Span) : (List api_Span) × Int :=
  if (a0.length : Int) > 64 then
    (([] : List api_Span), 2)
  else
    (a0, 0)

inductive span_Make.S where
  | l1 (x1_16 : Int) (x1_r0 : List api_Span)

noncomputable def span_Make.j1 (a0 : List api_Span) (x1_16 : Int) (x1_r0 : List api_Span) (y1_34 : Bool) : Option (span_Make.S ⊕ ((List api_Span) × Int)) :=
  if y1_34 = true then
    if 0 ≤ (IntKind.wrap .i64 ((x1_r0.length : Int) - 1)) ∧ (IntKind.wrap .i64 ((x1_r0.length : Int) - 1)) < (x1_r0.length : Int) then
      some (.inl (.l1 (IntKind.wrap .i64 (x1_16 + 1)) (x1_r0.set ((IntKind.wrap .i64 ((x1_r0.length : Int) - 1)).toNat) (⟨(x1_r0.getD ((IntKind.wrap .i64 ((x1_r0.length : Int) - 1)).toNat) api_Span.z).Lo, iMax ((x1_r0.getD ((IntKind.wrap .i64 ((x1_r0.length : Int) - 1)).toNat) api_Span.z).Hi) (((sortL api_Span.z span_Make_1 a0).getD x1_16.toNat api_Span.z).Hi)⟩ : api_Span))))
    else none
  else
    if (x1_r0.length + 1) * 16 ≤ 140737488355328 then
      some (.inl (.l1 (IntKind.wrap .i64 (x1_16 + 1)) (x1_r0 ++ [((sortL api_Span.z span_Make_1 a0).getD x1_16.toNat api_Span.z)])))
    else none

noncomputable def span_Make.l1 (a0 : List api_Span) (x1_16 : Int) (x1_r0 : List api_Span) : Option (span_Make.S ⊕ ((List api_Span) × Int)) :=
  if x1_16 < ((sortL api_Span.z span_Make_1 a0).length : Int) then
    if 0 ≤ x1_16 ∧ x1_16 < ((sortL api_Span.z span_Make_1 a0).length : Int) then
      if (IntKind.wrap .i64 ((x1_r0.length : Int) - 1)) ≥ 0 then
        if 0 ≤ (IntKind.wrap .i64 ((x1_r0.length : Int) - 1)) ∧ (IntKind.wrap .i64 ((x1_r0.length : Int) - 1)) < (x1_r0.length : Int) then
          span_Make.j1 a0 x1_16 x1_r0 (decide ((((sortL api_Span.z span_Make_1 a0).getD x1_16.toNat api_Span.z).Lo) ≤ ((x1_r0.getD ((IntKind.wrap .i64 ((x1_r0.length : Int) - 1)).toNat) api_Span.z).Hi)))
        else none
      else
        span_Make.j1 a0 x1_16 x1_r0 false
    else none
  else
    bnd (span_limited x1_r0) fun (v2 : (List api_Span) × Int) =>
    some (.inr (v2.1, v2.2))

noncomputable def span_Make.step (a0 : List api_Span) : span_Make.S → Option (span_Make.S ⊕ ((List api_Span) × Int))
  | .l1 x1_16 x1_r0 => span_Make.l1 a0 x1_16 x1_r0

noncomputable def span_Make (a0 : List api_Span) : Option ((List api_Span) × Int) :=
  (slices_ContainsFunc_api_Span a0 (fun z0 => some (span_odd z0))).bind fun v1 =>
  if v1 = true then
    some (([] : List api_Span), 1)
  else
    if a0.length * 16 ≤ 140737488355328 then
      goLoop (span_Make.step a0) (.l1 0 ([] : List api_Span))
    else none

inductive mut_Touch.S where
  | l1 (x1_20 : Int) (x1_r0 : List api_Span)

noncomputable def mut_Touch.l1 (a0 : api_Mut) (x1_20 : Int) (x1_r0 : List api_Span) : Option (mut_Touch.S ⊕ (List api_Span)) :=
  if x1_20 < (a0.Pairs.length : Int) then
    if 0 ≤ x1_20 ∧ x1_20 < (a0.Pairs.length : Int) then
      if (x1_r0.length + 1) * 16 ≤ 140737488355328 then
        some (.inl (.l1 (IntKind.wrap .i64 (x1_20 + 1)) (x1_r0 ++ [(⟨(a0.Pairs.getD x1_20.toNat api_Pair.z).Key, IntKind.wrap .i64 (((a0.Pairs.getD x1_20.toNat api_Pair.z).Key) + 1)⟩ : api_Span)])))
      else none
    else none
  else
    (span_Make x1_r0).bind fun v2 =>
    some (.inr v2.1)

noncomputable def mut_Touch.step (a0 : api_Mut) : mut_Touch.S → Option (mut_Touch.S ⊕ (List api_Span))
  | .l1 x1_20 x1_r0 => mut_Touch.l1 a0 x1_20 x1_r0

noncomputable def mut_Touch (a0 : api_Mut) : Option (List api_Span) :=
  (mut_Check a0).bind fun v1 =>
  if v1 = true then
    if a0.Kind = 2 then
      some ([a0.Over] : List api_Span)
    else
      goLoop (mut_Touch.step a0) (.l1 0 ([] : List api_Span))
  else
    some ([] : List api_Span)

inductive vint_Num.S where
  | l1 (x1_0 : Int) (x1_r0 : List Int)

noncomputable def vint_Num.l1 (x1_0 : Int) (x1_r0 : List Int) : Option (vint_Num.S ⊕ ByteArray) :=
  if x1_0 ≥ 128 then
    if (x1_r0.length + 1) * 1 ≤ 140737488355328 then
      some (.inl (.l1 (Int.fdiv x1_0 128) (x1_r0 ++ [bOr .u8 (IntKind.wrap .u8 (bAnd .i64 x1_0 127)) 128])))
    else none
  else
    if (x1_r0.length + 1) * 1 ≤ 140737488355328 then
      some (.inr (strB (x1_r0 ++ [IntKind.wrap .u8 x1_0])))
    else none

noncomputable def vint_Num.step : vint_Num.S → Option (vint_Num.S ⊕ ByteArray)
  | .l1 x1_0 x1_r0 => vint_Num.l1 x1_0 x1_r0

noncomputable def vint_Num (a0 : Int) : Option ByteArray :=
  if a0 < 0 then
    some (⟨#[]⟩ : ByteArray)
  else
    goLoop (vint_Num.step) (.l1 a0 ([] : List Int))

noncomputable def vint_may.j1 (y1_2 : Bool) : Bool :=
  y1_2

noncomputable def vint_may (a0 : Int) : Bool :=
  if a0 ≥ (-4611686018427387904) then
    vint_may.j1 (decide (a0 ≤ 4611686018427387903))
  else
    vint_may.j1 false

noncomputable def vint_Whole (a0 : Int) : Option ByteArray :=
  if (vint_may a0) = true then
    if a0 < 0 then
      (vint_Num (IntKind.wrap .i64 ((IntKind.wrap .i64 ((-2) * a0)) - 1))).bind fun v1 =>
      some v1
    else
      (vint_Num (IntKind.wrap .i64 (2 * a0))).bind fun v2 =>
      some v2
  else
    some (⟨#[]⟩ : ByteArray)

inductive mut_Text.S where
  | l1 (x1_33 : Int) (x1_r2 : ByteArray)

noncomputable def mut_Text.j1 (y1_r1 : ByteArray) : Option (mut_Text.S ⊕ ByteArray) :=
  some (.inr y1_r1)

noncomputable def mut_Text.l1 (a0 : api_Mut) (x1_33 : Int) (x1_r2 : ByteArray) : Option (mut_Text.S ⊕ ByteArray) :=
  if x1_33 < (a0.Pairs.length : Int) then
    if 0 ≤ x1_33 ∧ x1_33 < (a0.Pairs.length : Int) then
      (vint_Num ((a0.Pairs.getD x1_33.toNat api_Pair.z).Key)).bind fun v9 =>
      (vint_Whole ((a0.Pairs.getD x1_33.toNat api_Pair.z).Val)).bind fun v10 =>
      if ((v9.size + v10.size : Nat) : Int) ≤ 9223372036854775807 then
        if x1_r2.size + (v9 ++ v10).size ≤ 140737488355328 then
          some (.inl (.l1 (IntKind.wrap .i64 (x1_33 + 1)) (x1_r2 ++ (v9 ++ v10))))
        else none
      else none
    else none
  else
    if a0.Kind = 2 then
      (vint_Num a0.Over.Lo).bind fun v6 =>
      (vint_Num a0.Over.Hi).bind fun v7 =>
      if ((v6.size + v7.size : Nat) : Int) ≤ 9223372036854775807 then
        if x1_r2.size + (v6 ++ v7).size ≤ 140737488355328 then
          mut_Text.j1 (x1_r2 ++ (v6 ++ v7))
        else none
      else none
    else
      if a0.Kind = 4 then
        (vint_Whole a0.Old).bind fun v8 =>
        if x1_r2.size + v8.size ≤ 140737488355328 then
          mut_Text.j1 (x1_r2 ++ v8)
        else none
      else
        mut_Text.j1 x1_r2

noncomputable def mut_Text.step (a0 : api_Mut) : mut_Text.S → Option (mut_Text.S ⊕ ByteArray)
  | .l1 x1_33 x1_r2 => mut_Text.l1 a0 x1_33 x1_r2

noncomputable def mut_Text (a0 : api_Mut) : Option ByteArray :=
  (mut_Check a0).bind fun v1 =>
  if v1 = true then
    (vint_Num a0.Client).bind fun v2 =>
    if (⟨#[]⟩ : ByteArray).size + v2.size ≤ 140737488355328 then
      (vint_Num a0.Seq).bind fun v3 =>
      if ((⟨#[]⟩ : ByteArray) ++ v2).size + v3.size ≤ 140737488355328 then
        (vint_Num a0.Kind).bind fun v4 =>
        if (((⟨#[]⟩ : ByteArray) ++ v2) ++ v3).size + v4.size ≤ 140737488355328 then
          (vint_Num (a0.Pairs.length : Int)).bind fun v5 =>
          if ((((⟨#[]⟩ : ByteArray) ++ v2) ++ v3) ++ v4).size + v5.size ≤ 140737488355328 then
            goLoop (mut_Text.step a0) (.l1 0 (((((⟨#[]⟩ : ByteArray) ++ v2) ++ v3) ++ v4) ++ v5))
          else none
        else none
      else none
    else none
  else
    some (⟨#[]⟩ : ByteArray)

noncomputable def splicelaw04_awake.j1 (y1_0 : Bool) : Option Bool :=
  some y1_0

noncomputable def splicelaw04_awake : Option Bool :=
  (mut_Touch (⟨1, 1, 5, ([(⟨9, 3⟩ : api_Pair), (⟨4, 3⟩ : api_Pair)] : List api_Pair), (⟨0, 0⟩ : api_Span), 0⟩ : api_Mut)).bind fun v1 =>
  (mut_Text (⟨1, 2, 1, ([(⟨5, 7⟩ : api_Pair)] : List api_Pair), (⟨0, 0⟩ : api_Span), 0⟩ : api_Mut)).bind fun v2 =>
  if (v2.toList == (⟨#[1, 2, 1, 1, 5, 14]⟩ : ByteArray).toList) = true then
    if (v1.length : Int) = 2 then
      if (0 : Int) ≤ 1 ∧ 1 < (v1.length : Int) then
        splicelaw04_awake.j1 ((((v1.getD 1 api_Span.z).Lo) == 9) && (((v1.getD 1 api_Span.z).Hi) == 10))
      else none
    else
      splicelaw04_awake.j1 false
  else
    splicelaw04_awake.j1 false

inductive splicelaw04_Ref.S where
  | l1 (x1_4 : Int) (x1_r3 : List spliceref04_Pair)

noncomputable def splicelaw04_Ref.l1 (a0 : api_Mut) (x1_4 : Int) (x1_r3 : List spliceref04_Pair) : Option (splicelaw04_Ref.S ⊕ spliceref04_Mut) :=
  if x1_4 < (a0.Pairs.length : Int) then
    if 0 ≤ x1_4 ∧ x1_4 < (a0.Pairs.length : Int) then
      if (x1_r3.length + 1) * 16 ≤ 140737488355328 then
        some (.inl (.l1 (IntKind.wrap .i64 (x1_4 + 1)) (x1_r3 ++ [(⟨(a0.Pairs.getD x1_4.toNat api_Pair.z).Key, (a0.Pairs.getD x1_4.toNat api_Pair.z).Val⟩ : spliceref04_Pair)])))
      else none
    else none
  else
    some (.inr (⟨a0.Client, a0.Seq, a0.Kind, x1_r3, (⟨a0.Over.Lo, a0.Over.Hi⟩ : spliceref03_Span), a0.Old⟩ : spliceref04_Mut))

noncomputable def splicelaw04_Ref.step (a0 : api_Mut) : splicelaw04_Ref.S → Option (splicelaw04_Ref.S ⊕ spliceref04_Mut)
  | .l1 x1_4 x1_r3 => splicelaw04_Ref.l1 a0 x1_4 x1_r3

noncomputable def splicelaw04_Ref (a0 : api_Mut) : Option spliceref04_Mut :=
  goLoop (splicelaw04_Ref.step a0) (.l1 0 ([] : List spliceref04_Pair))

noncomputable def spliceref03_One.j1 (y1_2 : Bool) : Bool :=
  y1_2

noncomputable def spliceref03_One (a0 : spliceref03_Span) : Bool :=
  if a0.Lo ≥ 0 then
    if a0.Lo < a0.Hi then
      spliceref03_One.j1 (decide (a0.Hi ≤ 4096))
    else
      spliceref03_One.j1 false
  else
    spliceref03_One.j1 false

noncomputable def spliceref04_value.j1 (y1_2 : Bool) : Bool :=
  y1_2

noncomputable def spliceref04_value (a0 : Int) : Bool :=
  if a0 ≥ (-1099511627776) then
    spliceref04_value.j1 (decide (a0 ≤ 1099511627776))
  else
    spliceref04_value.j1 false

inductive spliceref04_pairs.S where
  | l1 (x1_7 : Int)

noncomputable def spliceref04_pairs.j2 (x1_7 : Int) (y2_46 : Bool) : Option (spliceref04_pairs.S ⊕ Bool) :=
  if y2_46 = true then
    some (.inr false)
  else
    some (.inl (.l1 (IntKind.wrap .i64 (x1_7 + 1))))

noncomputable def spliceref04_pairs.l1 (a0 : List spliceref04_Pair) (x1_7 : Int) : Option (spliceref04_pairs.S ⊕ Bool) :=
  if x1_7 < (a0.length : Int) then
    if 0 ≤ x1_7 ∧ x1_7 < (a0.length : Int) then
      if ((a0.getD x1_7.toNat spliceref04_Pair.z).Key) < 0 then
        spliceref04_pairs.j2 x1_7 true
      else
        if ((a0.getD x1_7.toNat spliceref04_Pair.z).Key) > 4095 then
          spliceref04_pairs.j2 x1_7 true
        else
          spliceref04_pairs.j2 x1_7 (!(spliceref04_value ((a0.getD x1_7.toNat spliceref04_Pair.z).Val)))
    else none
  else
    some (.inr true)

noncomputable def spliceref04_pairs.step (a0 : List spliceref04_Pair) : spliceref04_pairs.S → Option (spliceref04_pairs.S ⊕ Bool)
  | .l1 x1_7 => spliceref04_pairs.l1 a0 x1_7

noncomputable def spliceref04_pairs.j1 (a0 : List spliceref04_Pair) (y1_17 : Bool) : Option Bool :=
  if y1_17 = true then
    some false
  else
    goLoop (spliceref04_pairs.step a0) (.l1 0)

noncomputable def spliceref04_pairs (a0 : List spliceref04_Pair) (a1 : Int) (a2 : Int) : Option Bool :=
  if (a0.length : Int) < a1 then
    spliceref04_pairs.j1 a0 true
  else
    spliceref04_pairs.j1 a0 (decide ((a0.length : Int) > a2))

noncomputable def spliceref04_Check.j2 (y2_2 : Bool) : Option Bool :=
  some y2_2

noncomputable def spliceref04_Check.j4 (y4_2 : Bool) : Option Bool :=
  some y4_2

inductive spliceref04_Check.S where
  | l1 (x1_3 : Int)

noncomputable def spliceref04_Check.l1 (a0 : spliceref04_Mut) (x1_3 : Int) : Option (spliceref04_Check.S ⊕ Bool) :=
  if x1_3 < (a0.Pairs.length : Int) then
    if 0 ≤ (IntKind.wrap .i64 (x1_3 - 1)) ∧ (IntKind.wrap .i64 (x1_3 - 1)) < (a0.Pairs.length : Int) then
      if 0 ≤ x1_3 ∧ x1_3 < (a0.Pairs.length : Int) then
        if ((a0.Pairs.getD ((IntKind.wrap .i64 (x1_3 - 1)).toNat) spliceref04_Pair.z).Key) ≥ ((a0.Pairs.getD x1_3.toNat spliceref04_Pair.z).Key) then
          some (.inr false)
        else
          some (.inl (.l1 (IntKind.wrap .i64 (x1_3 + 1))))
      else none
    else none
  else
    (spliceref04_pairs a0.Pairs 1 8).bind fun v2 =>
    some (.inr v2)

noncomputable def spliceref04_Check.step (a0 : spliceref04_Mut) : spliceref04_Check.S → Option (spliceref04_Check.S ⊕ Bool)
  | .l1 x1_3 => spliceref04_Check.l1 a0 x1_3

noncomputable def spliceref04_Check.j5 (y5_2 : Bool) : Option Bool :=
  some y5_2

noncomputable def spliceref04_Check.j3 (a0 : spliceref04_Mut) (y3_48 : Bool) : Option Bool :=
  if y3_48 = true then
    some false
  else
    if a0.Kind = 4 then
      (spliceref04_pairs a0.Pairs 1 1).bind fun v1 =>
      if v1 = true then
        if (spliceref04_value a0.Old) = true then
          spliceref04_Check.j4 true
        else
          spliceref04_Check.j4 (a0.Old == 1099511627777)
      else
        spliceref04_Check.j4 false
    else
      if a0.Old = 0 then
        if a0.Kind = 1 then
          goLoop (spliceref04_Check.step a0) (.l1 1)
        else
          if a0.Kind = 3 then
            (spliceref04_pairs a0.Pairs 1 1).bind fun v3 =>
            some v3
          else
            if a0.Kind = 5 then
              (spliceref04_pairs a0.Pairs 2 2).bind fun v4 =>
              if v4 = true then
                if (0 : Int) ≤ 0 ∧ 0 < (a0.Pairs.length : Int) then
                  if (0 : Int) ≤ 1 ∧ 1 < (a0.Pairs.length : Int) then
                    if ((a0.Pairs.getD 0 spliceref04_Pair.z).Key) = ((a0.Pairs.getD 1 spliceref04_Pair.z).Key) then
                      spliceref04_Check.j5 false
                    else
                      if ((a0.Pairs.getD 0 spliceref04_Pair.z).Val) = ((a0.Pairs.getD 1 spliceref04_Pair.z).Val) then
                        spliceref04_Check.j5 (decide (((a0.Pairs.getD 0 spliceref04_Pair.z).Val) ≥ 0))
                      else
                        spliceref04_Check.j5 false
                  else none
                else none
              else
                spliceref04_Check.j5 false
            else
              spliceref04_Check.j5 false
      else
        some false

noncomputable def spliceref04_Check.j1 (a0 : spliceref04_Mut) (y1_21 : Bool) : Option Bool :=
  if y1_21 = true then
    some false
  else
    if a0.Kind = 2 then
      if (a0.Pairs.length : Int) = 0 then
        if a0.Old = 0 then
          spliceref04_Check.j2 (spliceref03_One a0.Over)
        else
          spliceref04_Check.j2 false
      else
        spliceref04_Check.j2 false
    else
      if a0.Over.Lo = 0 then
        spliceref04_Check.j3 a0 (a0.Over.Hi != 0)
      else
        spliceref04_Check.j3 a0 true

noncomputable def spliceref04_Check (a0 : spliceref04_Mut) : Option Bool :=
  if a0.Client < 1 then
    spliceref04_Check.j1 a0 true
  else
    if a0.Client > 1048576 then
      spliceref04_Check.j1 a0 true
    else
      if a0.Seq < 1 then
        spliceref04_Check.j1 a0 true
      else
        spliceref04_Check.j1 a0 (decide (a0.Seq > 1073741824))

inductive spliceref01_Num.S where
  | l1 (x1_0 : Int) (x1_r0 : List Int)

noncomputable def spliceref01_Num.l1 (x1_0 : Int) (x1_r0 : List Int) : Option (spliceref01_Num.S ⊕ ByteArray) :=
  if x1_0 > 127 then
    if (x1_r0.length + 1) * 1 ≤ 140737488355328 then
      some (.inl (.l1 (IntKind.wrap .i64 (Int.tdiv x1_0 128)) (x1_r0 ++ [IntKind.wrap .u8 (IntKind.wrap .i64 (128 + (Int.tmod x1_0 128)))])))
    else none
  else
    if (x1_r0.length + 1) * 1 ≤ 140737488355328 then
      some (.inr (strB (x1_r0 ++ [IntKind.wrap .u8 x1_0])))
    else none

noncomputable def spliceref01_Num.step : spliceref01_Num.S → Option (spliceref01_Num.S ⊕ ByteArray)
  | .l1 x1_0 x1_r0 => spliceref01_Num.l1 x1_0 x1_r0

noncomputable def spliceref01_Num (a0 : Int) : Option ByteArray :=
  if a0 < 0 then
    some (⟨#[]⟩ : ByteArray)
  else
    goLoop (spliceref01_Num.step) (.l1 a0 ([] : List Int))

noncomputable def spliceref01_May.j1 (y1_2 : Bool) : Bool :=
  y1_2

noncomputable def spliceref01_May (a0 : Int) : Bool :=
  if a0 ≥ (-4611686018427387904) then
    spliceref01_May.j1 (decide (a0 ≤ 4611686018427387903))
  else
    spliceref01_May.j1 false

noncomputable def spliceref01_Whole (a0 : Int) : Option ByteArray :=
  if (spliceref01_May a0) = true then
    if a0 ≥ 0 then
      (spliceref01_Num (IntKind.wrap .i64 (a0 + a0))).bind fun v1 =>
      some v1
    else
      (spliceref01_Num (IntKind.wrap .i64 ((IntKind.wrap .i64 ((IntKind.wrap .i64 (0 - a0)) - a0)) - 1))).bind fun v2 =>
      some v2
  else
    some (⟨#[]⟩ : ByteArray)

inductive spliceref04_Text.S where
  | l1 (x1_3 : ByteArray) (x1_4 : Int)

noncomputable def spliceref04_Text.j2 (y2_3 : ByteArray) : Option (spliceref04_Text.S ⊕ ByteArray) :=
  some (.inr y2_3)

noncomputable def spliceref04_Text.j1 (a0 : spliceref04_Mut) (y1_3 : ByteArray) : Option (spliceref04_Text.S ⊕ ByteArray) :=
  if a0.Kind = 4 then
    (spliceref01_Whole a0.Old).bind fun v8 =>
    if ((y1_3.size + v8.size : Nat) : Int) ≤ 9223372036854775807 then
      spliceref04_Text.j2 (y1_3 ++ v8)
    else none
  else
    spliceref04_Text.j2 y1_3

noncomputable def spliceref04_Text.l1 (a0 : spliceref04_Mut) (x1_3 : ByteArray) (x1_4 : Int) : Option (spliceref04_Text.S ⊕ ByteArray) :=
  if x1_4 < (a0.Pairs.length : Int) then
    if 0 ≤ x1_4 ∧ x1_4 < (a0.Pairs.length : Int) then
      (spliceref01_Num ((a0.Pairs.getD x1_4.toNat spliceref04_Pair.z).Key)).bind fun v9 =>
      if ((x1_3.size + v9.size : Nat) : Int) ≤ 9223372036854775807 then
        (spliceref01_Whole ((a0.Pairs.getD x1_4.toNat spliceref04_Pair.z).Val)).bind fun v10 =>
        if (((x1_3 ++ v9).size + v10.size : Nat) : Int) ≤ 9223372036854775807 then
          some (.inl (.l1 ((x1_3 ++ v9) ++ v10) (IntKind.wrap .i64 (x1_4 + 1))))
        else none
      else none
    else none
  else
    if a0.Kind = 2 then
      (spliceref01_Num a0.Over.Lo).bind fun v6 =>
      if ((x1_3.size + v6.size : Nat) : Int) ≤ 9223372036854775807 then
        (spliceref01_Num a0.Over.Hi).bind fun v7 =>
        if (((x1_3 ++ v6).size + v7.size : Nat) : Int) ≤ 9223372036854775807 then
          spliceref04_Text.j1 a0 ((x1_3 ++ v6) ++ v7)
        else none
      else none
    else
      spliceref04_Text.j1 a0 x1_3

noncomputable def spliceref04_Text.step (a0 : spliceref04_Mut) : spliceref04_Text.S → Option (spliceref04_Text.S ⊕ ByteArray)
  | .l1 x1_3 x1_4 => spliceref04_Text.l1 a0 x1_3 x1_4

noncomputable def spliceref04_Text (a0 : spliceref04_Mut) : Option ByteArray :=
  (spliceref04_Check a0).bind fun v1 =>
  if v1 = true then
    (spliceref01_Num a0.Client).bind fun v2 =>
    (spliceref01_Num a0.Seq).bind fun v3 =>
    if ((v2.size + v3.size : Nat) : Int) ≤ 9223372036854775807 then
      (spliceref01_Num a0.Kind).bind fun v4 =>
      if (((v2 ++ v3).size + v4.size : Nat) : Int) ≤ 9223372036854775807 then
        (spliceref01_Num (a0.Pairs.length : Int)).bind fun v5 =>
        if ((((v2 ++ v3) ++ v4).size + v5.size : Nat) : Int) ≤ 9223372036854775807 then
          goLoop (spliceref04_Text.step a0) (.l1 (((v2 ++ v3) ++ v4) ++ v5) 0)
        else none
      else none
    else none
  else
    some (⟨#[]⟩ : ByteArray)

noncomputable def splicelaw04_MutTexts.j1 (y1_2 : Bool) : Option Bool :=
  some y1_2

noncomputable def splicelaw04_MutTexts (a0 : api_Mut) : Option Bool :=
  if (splicelaw04_few a0) = true then
    (splicelaw04_awake).bind fun v2 =>
    if v2 = true then
      (mut_Text a0).bind fun v3 =>
      (splicelaw04_Ref a0).bind fun v4 =>
      (spliceref04_Text v4).bind fun v5 =>
      splicelaw04_MutTexts.j1 (v3.toList == v5.toList)
    else
      splicelaw04_MutTexts.j1 false
  else
    (splicelaw04_awake).bind fun v1 =>
    some v1

noncomputable def mut_Alone.j1 (y1_2 : Bool) : Option Bool :=
  some y1_2

noncomputable def mut_Alone (a0 : api_Mut) : Option Bool :=
  (mut_Check a0).bind fun v1 =>
  if v1 = true then
    if a0.Kind = 3 then
      mut_Alone.j1 true
    else
      mut_Alone.j1 (a0.Kind == 4)
  else
    mut_Alone.j1 false

noncomputable def splicelaw04_MutChecks.j1 (y1_2 : Bool) : Option Bool :=
  some y1_2

noncomputable def splicelaw04_MutChecks (a0 : api_Mut) : Option Bool :=
  if (splicelaw04_few a0) = true then
    (splicelaw04_Ref a0).bind fun v2 =>
    (spliceref04_Check v2).bind fun v3 =>
    (splicelaw04_awake).bind fun v4 =>
    if v4 = true then
      (mut_Check a0).bind fun v5 =>
      if v5 = true then
        if v3 = true then
          (mut_Alone a0).bind fun v6 =>
          if a0.Kind = 3 then
            splicelaw04_MutChecks.j1 (v6 == true)
          else
            splicelaw04_MutChecks.j1 (v6 == (a0.Kind == 4))
        else
          splicelaw04_MutChecks.j1 false
      else
        if v3 = true then
          splicelaw04_MutChecks.j1 false
        else
          (mut_Alone a0).bind fun v7 =>
          splicelaw04_MutChecks.j1 (v7 == false)
    else
      splicelaw04_MutChecks.j1 false
  else
    (splicelaw04_awake).bind fun v1 =>
    some v1

inductive cmp_Or_int.S where
  | l1 (x1_8 : Int)

noncomputable def cmp_Or_int.l1 (a0 : List Int) (x1_8 : Int) : Option (cmp_Or_int.S ⊕ Int) :=
  if x1_8 < (a0.length : Int) then
    if 0 ≤ x1_8 ∧ x1_8 < (a0.length : Int) then
      if (a0.getD x1_8.toNat 0) = 0 then
        some (.inl (.l1 (IntKind.wrap .i64 (x1_8 + 1))))
      else
        some (.inr (a0.getD x1_8.toNat 0))
    else none
  else
    some (.inr 0)

noncomputable def cmp_Or_int.step (a0 : List Int) : cmp_Or_int.S → Option (cmp_Or_int.S ⊕ Int)
  | .l1 x1_8 => cmp_Or_int.l1 a0 x1_8

noncomputable def cmp_Or_int (a0 : List Int) : Option Int :=
  goLoop (cmp_Or_int.step a0) (.l1 0)

noncomputable def mut_Compare (a0 : api_Stamp) (a1 : api_Stamp) : Option Int :=
  (cmp_Or_int ([cmp_Compare_int a0.Time a1.Time, cmp_Compare_int a0.Client a1.Client, cmp_Compare_int a0.Seq a1.Seq] : List Int)).bind fun v1 =>
  some v1

noncomputable def splicelaw04_MutOrder.j1 (y1_6 : Bool) : Option Bool :=
  some y1_6

noncomputable def splicelaw04_MutOrder (a0 : api_Stamp) (a1 : api_Stamp) (a2 : api_Stamp) : Option Bool :=
  (mut_Compare a0 a1).bind fun v1 =>
  (mut_Compare a1 a0).bind fun v2 =>
  if v1 = (IntKind.wrap .i64 (0 - v2)) then
    (splicelaw04_awake).bind fun v3 =>
    if v3 = true then
      (mut_Compare a0 a1).bind fun v4 =>
      if v4 > 0 then
        splicelaw04_MutOrder.j1 true
      else
        (mut_Compare a1 a2).bind fun v5 =>
        if v5 > 0 then
          splicelaw04_MutOrder.j1 true
        else
          (mut_Compare a0 a2).bind fun v6 =>
          splicelaw04_MutOrder.j1 (decide (v6 ≤ 0))
    else
      splicelaw04_MutOrder.j1 false
  else
    some false

inductive spliceref04_Same.S where
  | l1 (x1_5 : Int)

noncomputable def spliceref04_Same.l1 (a0 : spliceref04_Mut) (a1 : spliceref04_Mut) (x1_5 : Int) : Option (spliceref04_Same.S ⊕ Bool) :=
  if x1_5 < (a0.Pairs.length : Int) then
    if 0 ≤ x1_5 ∧ x1_5 < (a0.Pairs.length : Int) then
      if 0 ≤ x1_5 ∧ x1_5 < (a1.Pairs.length : Int) then
        if ((a0.Pairs.getD x1_5.toNat spliceref04_Pair.z).Key) = ((a1.Pairs.getD x1_5.toNat spliceref04_Pair.z).Key) then
          if ((a0.Pairs.getD x1_5.toNat spliceref04_Pair.z).Val) = ((a1.Pairs.getD x1_5.toNat spliceref04_Pair.z).Val) then
            some (.inl (.l1 (IntKind.wrap .i64 (x1_5 + 1))))
          else
            some (.inr false)
        else
          if ((a0.Pairs.getD x1_5.toNat spliceref04_Pair.z).Val) = ((a1.Pairs.getD x1_5.toNat spliceref04_Pair.z).Val) then
            some (.inr false)
          else
            some (.inr false)
      else none
    else none
  else
    some (.inr true)

noncomputable def spliceref04_Same.step (a0 : spliceref04_Mut) (a1 : spliceref04_Mut) : spliceref04_Same.S → Option (spliceref04_Same.S ⊕ Bool)
  | .l1 x1_5 => spliceref04_Same.l1 a0 a1 x1_5

noncomputable def spliceref04_Same.j1 (a0 : spliceref04_Mut) (a1 : spliceref04_Mut) (y1_47 : Bool) : Option Bool :=
  if y1_47 = true then
    some false
  else
    goLoop (spliceref04_Same.step a0 a1) (.l1 0)

noncomputable def spliceref04_Same (a0 : spliceref04_Mut) (a1 : spliceref04_Mut) : Option Bool :=
  if a0.Client = a1.Client then
    if a0.Seq = a1.Seq then
      if a0.Kind = a1.Kind then
        if a0.Over.Lo = a1.Over.Lo then
          if a0.Over.Hi = a1.Over.Hi then
            if a0.Old = a1.Old then
              spliceref04_Same.j1 a0 a1 ((a0.Pairs.length : Int) != (a1.Pairs.length : Int))
            else
              spliceref04_Same.j1 a0 a1 true
          else
            spliceref04_Same.j1 a0 a1 true
        else
          if a0.Over.Hi = a1.Over.Hi then
            spliceref04_Same.j1 a0 a1 true
          else
            spliceref04_Same.j1 a0 a1 true
      else
        spliceref04_Same.j1 a0 a1 true
    else
      spliceref04_Same.j1 a0 a1 true
  else
    spliceref04_Same.j1 a0 a1 true

inductive slices_Equal_api_Pair.S where
  | l1 (x1_13 : Int)

noncomputable def slices_Equal_api_Pair.l1 (a0 : List api_Pair) (a1 : List api_Pair) (x1_13 : Int) : Option (slices_Equal_api_Pair.S ⊕ Bool) :=
  if x1_13 < (a0.length : Int) then
    if 0 ≤ x1_13 ∧ x1_13 < (a0.length : Int) then
      if 0 ≤ x1_13 ∧ x1_13 < (a1.length : Int) then
        if ((a0.getD x1_13.toNat api_Pair.z).Key) = ((a1.getD x1_13.toNat api_Pair.z).Key) then
          if ((a0.getD x1_13.toNat api_Pair.z).Val) = ((a1.getD x1_13.toNat api_Pair.z).Val) then
            some (.inl (.l1 (IntKind.wrap .i64 (x1_13 + 1))))
          else
            some (.inr false)
        else
          if ((a0.getD x1_13.toNat api_Pair.z).Val) = ((a1.getD x1_13.toNat api_Pair.z).Val) then
            some (.inr false)
          else
            some (.inr false)
      else none
    else none
  else
    some (.inr true)

noncomputable def slices_Equal_api_Pair.step (a0 : List api_Pair) (a1 : List api_Pair) : slices_Equal_api_Pair.S → Option (slices_Equal_api_Pair.S ⊕ Bool)
  | .l1 x1_13 => slices_Equal_api_Pair.l1 a0 a1 x1_13

noncomputable def slices_Equal_api_Pair (a0 : List api_Pair) (a1 : List api_Pair) : Option Bool :=
  if (a0.length : Int) = (a1.length : Int) then
    goLoop (slices_Equal_api_Pair.step a0 a1) (.l1 0)
  else
    some false

noncomputable def mut_Same.j1 (y1_4 : Bool) : Option Bool :=
  some y1_4

noncomputable def mut_Same (a0 : api_Mut) (a1 : api_Mut) : Option Bool :=
  if a0.Client = a1.Client then
    if a0.Seq = a1.Seq then
      if a0.Kind = a1.Kind then
        if a0.Over.Lo = a1.Over.Lo then
          if a0.Over.Hi = a1.Over.Hi then
            if a0.Old = a1.Old then
              (slices_Equal_api_Pair a0.Pairs a1.Pairs).bind fun v1 =>
              mut_Same.j1 v1
            else
              mut_Same.j1 false
          else
            mut_Same.j1 false
        else
          if a0.Over.Hi = a1.Over.Hi then
            mut_Same.j1 false
          else
            mut_Same.j1 false
      else
        mut_Same.j1 false
    else
      mut_Same.j1 false
  else
    mut_Same.j1 false

noncomputable def splicelaw04_MutApart.j4 (y4_4 : Bool) : Option Bool :=
  some y4_4

noncomputable def splicelaw04_MutApart.j3 (a0 : api_Mut) (a1 : api_Mut) (y2_5 : Bool) (y3_32 : Bool) : Option Bool :=
  if y3_32 = true then
    (splicelaw04_awake).bind fun v8 =>
    some v8
  else
    (splicelaw04_awake).bind fun v9 =>
    if v9 = true then
      (mut_Text a0).bind fun v10 =>
      (mut_Text a1).bind fun v11 =>
      splicelaw04_MutApart.j4 ((v10.toList == v11.toList) == y2_5)
    else
      splicelaw04_MutApart.j4 false

noncomputable def splicelaw04_MutApart.j2 (a0 : api_Mut) (a1 : api_Mut) (y2_5 : Bool) : Option Bool :=
  (mut_Check a0).bind fun v6 =>
  if v6 = true then
    (mut_Check a1).bind fun v7 =>
    splicelaw04_MutApart.j3 a0 a1 y2_5 (!v7)
  else
    splicelaw04_MutApart.j3 a0 a1 y2_5 true

noncomputable def splicelaw04_MutApart.j1 (a0 : api_Mut) (a1 : api_Mut) (y1_13 : Bool) : Option Bool :=
  if y1_13 = true then
    (splicelaw04_awake).bind fun v1 =>
    some v1
  else
    (splicelaw04_Ref a0).bind fun v2 =>
    (splicelaw04_Ref a1).bind fun v3 =>
    (spliceref04_Same v2 v3).bind fun v4 =>
    (mut_Same a0 a1).bind fun v5 =>
    if v5 = true then
      if v4 = true then
        splicelaw04_MutApart.j2 a0 a1 true
      else
        some false
    else
      if v4 = true then
        some false
      else
        splicelaw04_MutApart.j2 a0 a1 false

noncomputable def splicelaw04_MutApart (a0 : api_Mut) (a1 : api_Mut) : Option Bool :=
  if (splicelaw04_few a0) = true then
    splicelaw04_MutApart.j1 a0 a1 (!(splicelaw04_few a1))
  else
    splicelaw04_MutApart.j1 a0 a1 true

noncomputable def spliceref04_Ahead (a0 : spliceref04_Stamp) (a1 : spliceref04_Stamp) : Bool :=
  if a0.Time = a1.Time then
    if a0.Client = a1.Client then
      decide (a0.Seq < a1.Seq)
    else
      decide (a0.Client < a1.Client)
  else
    decide (a0.Time < a1.Time)

noncomputable def mut_Stamp (a0 : Int) (a1 : api_Mut) : api_Stamp :=
  (⟨a0, a1.Client, a1.Seq⟩ : api_Stamp)

noncomputable def splicelaw04_MutStamps.j2 (y2_6 : Bool) : Option Bool :=
  some y2_6

noncomputable def splicelaw04_MutStamps.j1 (a0 : api_Stamp) (a2 : api_Mut) (y1_40 : Bool) : Option Bool :=
  if y1_40 = true then
    some false
  else
    (splicelaw04_awake).bind fun v6 =>
    if v6 = true then
      splicelaw04_MutStamps.j2 ((((mut_Stamp a0.Time a2).Time) == a0.Time) && ((((mut_Stamp a0.Time a2).Client) == a2.Client) && (((mut_Stamp a0.Time a2).Seq) == a2.Seq)))
    else
      splicelaw04_MutStamps.j2 false

noncomputable def splicelaw04_MutStamps (a0 : api_Stamp) (a1 : api_Stamp) (a2 : api_Mut) : Option Bool :=
  if (splicelaw04_few a2) = true then
    (mut_Compare a0 a1).bind fun v2 =>
    bnd (spliceref04_Ahead (⟨a0.Time, a0.Client, a0.Seq⟩ : spliceref04_Stamp) (⟨a1.Time, a1.Client, a1.Seq⟩ : spliceref04_Stamp)) fun (v3 : Bool) =>
    if v2 = (-1) then
      if v3 = true then
        bnd (spliceref04_Ahead (⟨a1.Time, a1.Client, a1.Seq⟩ : spliceref04_Stamp) (⟨a0.Time, a0.Client, a0.Seq⟩ : spliceref04_Stamp)) fun (v4 : Bool) =>
        if v2 = 1 then
          if v4 = true then
            splicelaw04_MutStamps.j1 a0 a2 (!((v2 == 0) == ((a0.Time == a1.Time) && ((a0.Client == a1.Client) && (a0.Seq == a1.Seq)))))
          else
            splicelaw04_MutStamps.j1 a0 a2 true
        else
          if v4 = true then
            splicelaw04_MutStamps.j1 a0 a2 true
          else
            splicelaw04_MutStamps.j1 a0 a2 (!((v2 == 0) == ((a0.Time == a1.Time) && ((a0.Client == a1.Client) && (a0.Seq == a1.Seq)))))
      else
        splicelaw04_MutStamps.j1 a0 a2 true
    else
      if v3 = true then
        splicelaw04_MutStamps.j1 a0 a2 true
      else
        bnd (spliceref04_Ahead (⟨a1.Time, a1.Client, a1.Seq⟩ : spliceref04_Stamp) (⟨a0.Time, a0.Client, a0.Seq⟩ : spliceref04_Stamp)) fun (v5 : Bool) =>
        if v2 = 1 then
          if v5 = true then
            splicelaw04_MutStamps.j1 a0 a2 (!((v2 == 0) == ((a0.Time == a1.Time) && ((a0.Client == a1.Client) && (a0.Seq == a1.Seq)))))
          else
            splicelaw04_MutStamps.j1 a0 a2 true
        else
          if v5 = true then
            splicelaw04_MutStamps.j1 a0 a2 true
          else
            splicelaw04_MutStamps.j1 a0 a2 (!((v2 == 0) == ((a0.Time == a1.Time) && ((a0.Client == a1.Client) && (a0.Seq == a1.Seq)))))
  else
    (splicelaw04_awake).bind fun v1 =>
    some v1

noncomputable def splicelaw04_MutNear.j5 (y5_6 : Bool) : Option Bool :=
  some y5_6

noncomputable def splicelaw04_MutNear.j4 (a0 : Int) (a1 : api_Mut) (a2 : api_Mut) (y4_9 : Int) : Option Bool :=
  (splicelaw04_awake).bind fun v2 =>
  if v2 = true then
    (mut_Compare (⟨(mut_Stamp a0 a1).Time, (mut_Stamp a0 a1).Client, (mut_Stamp a0 a1).Seq⟩ : api_Stamp) (⟨(mut_Stamp a0 a2).Time, (mut_Stamp a0 a2).Client, (mut_Stamp a0 a2).Seq⟩ : api_Stamp)).bind fun v3 =>
    if v3 = y4_9 then
      (mut_Compare (⟨(mut_Stamp a0 a1).Time, (mut_Stamp a0 a1).Client, (mut_Stamp a0 a1).Seq⟩ : api_Stamp) (mut_Stamp (IntKind.wrap .i64 (a0 + 1)) a2)).bind fun v4 =>
      splicelaw04_MutNear.j5 (v4 == (-1))
    else
      splicelaw04_MutNear.j5 false
  else
    splicelaw04_MutNear.j5 false

noncomputable def splicelaw04_MutNear.j3 (a0 : Int) (a1 : api_Mut) (a2 : api_Mut) (y3_53 : Bool) : Option Bool :=
  if y3_53 = true then
    splicelaw04_MutNear.j4 a0 a1 a2 1
  else
    splicelaw04_MutNear.j4 a0 a1 a2 0

noncomputable def splicelaw04_MutNear.j2 (a0 : Int) (a1 : api_Mut) (a2 : api_Mut) (y2_33 : Bool) : Option Bool :=
  if y2_33 = true then
    splicelaw04_MutNear.j4 a0 a1 a2 (-1)
  else
    if a1.Client = a2.Client then
      splicelaw04_MutNear.j3 a0 a1 a2 (a1.Seq != a2.Seq)
    else
      splicelaw04_MutNear.j3 a0 a1 a2 true

noncomputable def splicelaw04_MutNear.j1 (a0 : Int) (a1 : api_Mut) (a2 : api_Mut) (y1_25 : Bool) : Option Bool :=
  if y1_25 = true then
    (splicelaw04_awake).bind fun v1 =>
    some v1
  else
    if a1.Client < a2.Client then
      splicelaw04_MutNear.j2 a0 a1 a2 true
    else
      if a1.Client = a2.Client then
        splicelaw04_MutNear.j2 a0 a1 a2 (decide (a1.Seq < a2.Seq))
      else
        splicelaw04_MutNear.j2 a0 a1 a2 false

noncomputable def splicelaw04_MutNear (a0 : Int) (a1 : api_Mut) (a2 : api_Mut) : Option Bool :=
  if (splicelaw04_few a1) = true then
    if (splicelaw04_few a2) = true then
      if a0 < 0 then
        splicelaw04_MutNear.j1 a0 a1 a2 true
      else
        splicelaw04_MutNear.j1 a0 a1 a2 (decide (a0 ≥ 1099511627775))
    else
      splicelaw04_MutNear.j1 a0 a1 a2 true
  else
    splicelaw04_MutNear.j1 a0 a1 a2 true

inductive span_Check.S where
  | l1 (x1_7 : Int)

noncomputable def span_Check.j1 (x1_7 : Int) (y1_29 : Bool) : Option (span_Check.S ⊕ Bool) :=
  if y1_29 = true then
    some (.inr false)
  else
    some (.inl (.l1 (IntKind.wrap .i64 (x1_7 + 1))))

noncomputable def span_Check.l1 (a0 : List api_Span) (x1_7 : Int) : Option (span_Check.S ⊕ Bool) :=
  if x1_7 < (a0.length : Int) then
    if 0 ≤ x1_7 ∧ x1_7 < (a0.length : Int) then
      if (span_One (a0.getD x1_7.toNat api_Span.z)) = true then
        if x1_7 > 0 then
          if 0 ≤ (IntKind.wrap .i64 (x1_7 - 1)) ∧ (IntKind.wrap .i64 (x1_7 - 1)) < (a0.length : Int) then
            span_Check.j1 x1_7 (decide (((a0.getD x1_7.toNat api_Span.z).Lo) ≤ ((a0.getD ((IntKind.wrap .i64 (x1_7 - 1)).toNat) api_Span.z).Hi)))
          else none
        else
          span_Check.j1 x1_7 false
      else
        span_Check.j1 x1_7 true
    else none
  else
    some (.inr (decide ((a0.length : Int) ≤ 64)))

noncomputable def span_Check.step (a0 : List api_Span) : span_Check.S → Option (span_Check.S ⊕ Bool)
  | .l1 x1_7 => span_Check.l1 a0 x1_7

noncomputable def span_Check (a0 : List api_Span) : Option Bool :=
  goLoop (span_Check.step a0) (.l1 0)

noncomputable def span_Has_1.j1 (y1_3 : Bool) : Bool :=
  y1_3

noncomputable def span_Has_1 (a0 : api_Span) (k0 : Int) : Bool :=
  if (span_One a0) = true then
    if k0 ≥ a0.Lo then
      span_Has_1.j1 (decide (k0 < a0.Hi))
    else
      span_Has_1.j1 false
  else
    span_Has_1.j1 false

noncomputable def span_Has (a0 : List api_Span) (a1 : Int) : Option Bool :=
  (slices_ContainsFunc_api_Span a0 (fun z0 => some (span_Has_1 z0 a1))).bind fun v1 =>
  some v1

noncomputable def spliceref04_Touches.j1 (y1_4 : Bool) : Option Bool :=
  some y1_4

inductive spliceref04_Touches.S where
  | l1 (x1_5 : Int)

noncomputable def spliceref04_Touches.l1 (a0 : spliceref04_Mut) (a1 : Int) (x1_5 : Int) : Option (spliceref04_Touches.S ⊕ Bool) :=
  if x1_5 < (a0.Pairs.length : Int) then
    if 0 ≤ x1_5 ∧ x1_5 < (a0.Pairs.length : Int) then
      if ((a0.Pairs.getD x1_5.toNat spliceref04_Pair.z).Key) = a1 then
        some (.inr true)
      else
        some (.inl (.l1 (IntKind.wrap .i64 (x1_5 + 1))))
    else none
  else
    some (.inr false)

noncomputable def spliceref04_Touches.step (a0 : spliceref04_Mut) (a1 : Int) : spliceref04_Touches.S → Option (spliceref04_Touches.S ⊕ Bool)
  | .l1 x1_5 => spliceref04_Touches.l1 a0 a1 x1_5

noncomputable def spliceref04_Touches (a0 : spliceref04_Mut) (a1 : Int) : Option Bool :=
  if a0.Kind = 2 then
    if a1 ≥ a0.Over.Lo then
      spliceref04_Touches.j1 (decide (a1 < a0.Over.Hi))
    else
      spliceref04_Touches.j1 false
  else
    goLoop (spliceref04_Touches.step a0 a1) (.l1 0)

inductive span_Count.S where
  | l1 (x1_3 : Int) (x1_11 : Int)

noncomputable def span_Count.l1 (a0 : List api_Span) (x1_3 : Int) (x1_11 : Int) : Option (span_Count.S ⊕ Int) :=
  if x1_11 < (a0.length : Int) then
    if 0 ≤ x1_11 ∧ x1_11 < (a0.length : Int) then
      bnd (IntKind.wrap .i64 (x1_3 + (IntKind.wrap .i64 (((a0.getD x1_11.toNat api_Span.z).Hi) - ((a0.getD x1_11.toNat api_Span.z).Lo))))) fun (v2 : Int) =>
      some (.inl (.l1 v2 (IntKind.wrap .i64 (x1_11 + 1))))
    else none
  else
    some (.inr x1_3)

noncomputable def span_Count.step (a0 : List api_Span) : span_Count.S → Option (span_Count.S ⊕ Int)
  | .l1 x1_3 x1_11 => span_Count.l1 a0 x1_3 x1_11

noncomputable def span_Count (a0 : List api_Span) : Option Int :=
  (span_Check a0).bind fun v1 =>
  if v1 = true then
    goLoop (span_Count.step a0) (.l1 0 0)
  else
    some 0

inductive splicelaw03_Refs.S where
  | l1 (x1_4 : Int) (x1_r0 : List spliceref03_Span)

noncomputable def splicelaw03_Refs.l1 (a0 : List api_Span) (x1_4 : Int) (x1_r0 : List spliceref03_Span) : Option (splicelaw03_Refs.S ⊕ (List spliceref03_Span)) :=
  if x1_4 < (a0.length : Int) then
    if 0 ≤ x1_4 ∧ x1_4 < (a0.length : Int) then
      if (x1_r0.length + 1) * 16 ≤ 140737488355328 then
        some (.inl (.l1 (IntKind.wrap .i64 (x1_4 + 1)) (x1_r0 ++ [(⟨(a0.getD x1_4.toNat api_Span.z).Lo, (a0.getD x1_4.toNat api_Span.z).Hi⟩ : spliceref03_Span)])))
      else none
    else none
  else
    some (.inr x1_r0)

noncomputable def splicelaw03_Refs.step (a0 : List api_Span) : splicelaw03_Refs.S → Option (splicelaw03_Refs.S ⊕ (List spliceref03_Span))
  | .l1 x1_4 x1_r0 => splicelaw03_Refs.l1 a0 x1_4 x1_r0

noncomputable def splicelaw03_Refs (a0 : List api_Span) : Option (List spliceref03_Span) :=
  goLoop (splicelaw03_Refs.step a0) (.l1 0 ([] : List spliceref03_Span))

inductive spliceref03_Keys.S where
  | l1 (x1_4 : Int) (x1_r0 : List Bool)
  | l2 (x2_5 : Int) (x2_r0 : List Bool)
  | l3 (x3_5 : Int) (x3_6 : Int) (x3_r0 : List Bool)

noncomputable def spliceref03_Keys.j1 (x3_5 : Int) (x3_6 : Int) (x3_r0 : List Bool) (y1_38 : Bool) : Option (spliceref03_Keys.S ⊕ (List Bool)) :=
  if y1_38 = true then
    if 0 ≤ x3_6 ∧ x3_6 < (x3_r0.length : Int) then
      some (.inl (.l3 x3_5 (IntKind.wrap .i64 (x3_6 + 1)) (x3_r0.set x3_6.toNat true)))
    else none
  else
    some (.inl (.l2 (IntKind.wrap .i64 (x3_5 + 1)) x3_r0))

noncomputable def spliceref03_Keys.l1 (x1_4 : Int) (x1_r0 : List Bool) : Option (spliceref03_Keys.S ⊕ (List Bool)) :=
  if x1_4 < 4096 then
    if (x1_r0.length + 1) * 1 ≤ 140737488355328 then
      some (.inl (.l1 (IntKind.wrap .i64 (x1_4 + 1)) (x1_r0 ++ [false])))
    else none
  else
    some (.inl (.l2 0 x1_r0))

noncomputable def spliceref03_Keys.l2 (a0 : List spliceref03_Span) (x2_5 : Int) (x2_r0 : List Bool) : Option (spliceref03_Keys.S ⊕ (List Bool)) :=
  if x2_5 < (a0.length : Int) then
    if 0 ≤ x2_5 ∧ x2_5 < (a0.length : Int) then
      some (.inl (.l3 x2_5 ((a0.getD x2_5.toNat spliceref03_Span.z).Lo) x2_r0))
    else none
  else
    some (.inr x2_r0)

noncomputable def spliceref03_Keys.l3 (a0 : List spliceref03_Span) (x3_5 : Int) (x3_6 : Int) (x3_r0 : List Bool) : Option (spliceref03_Keys.S ⊕ (List Bool)) :=
  if 0 ≤ x3_5 ∧ x3_5 < (a0.length : Int) then
    if (spliceref03_One (a0.getD x3_5.toNat spliceref03_Span.z)) = true then
      spliceref03_Keys.j1 x3_5 x3_6 x3_r0 (decide (x3_6 < ((a0.getD x3_5.toNat spliceref03_Span.z).Hi)))
    else
      spliceref03_Keys.j1 x3_5 x3_6 x3_r0 false
  else none

noncomputable def spliceref03_Keys.step (a0 : List spliceref03_Span) : spliceref03_Keys.S → Option (spliceref03_Keys.S ⊕ (List Bool))
  | .l1 x1_4 x1_r0 => spliceref03_Keys.l1 x1_4 x1_r0
  | .l2 x2_5 x2_r0 => spliceref03_Keys.l2 a0 x2_5 x2_r0
  | .l3 x3_5 x3_6 x3_r0 => spliceref03_Keys.l3 a0 x3_5 x3_6 x3_r0

noncomputable def spliceref03_Keys (a0 : List spliceref03_Span) : Option (List Bool) :=
  goLoop (spliceref03_Keys.step a0) (.l1 0 ([] : List Bool))

inductive spliceref03_Set.S where
  | l1 (x1_5 : Int) (x1_r0 : List spliceref03_Span)
  | l2 (x2_5 : Int) (x2_6 : Int) (x2_r0 : List spliceref03_Span)

noncomputable def spliceref03_Set.j1 (x2_5 : Int) (x2_6 : Int) (x2_r0 : List spliceref03_Span) (y1_21 : Bool) : Option (spliceref03_Set.S ⊕ ((List spliceref03_Span) × Int)) :=
  if y1_21 = true then
    some (.inl (.l2 (IntKind.wrap .i64 (x2_5 + 1)) x2_6 x2_r0))
  else
    if x2_5 > x2_6 then
      if (x2_r0.length + 1) * 16 ≤ 140737488355328 then
        some (.inl (.l1 x2_5 (x2_r0 ++ [(⟨x2_6, x2_5⟩ : spliceref03_Span)])))
      else none
    else
      some (.inl (.l1 (IntKind.wrap .i64 (x2_5 + 1)) x2_r0))

noncomputable def spliceref03_Set.l1 (a0 : List Bool) (x1_5 : Int) (x1_r0 : List spliceref03_Span) : Option (spliceref03_Set.S ⊕ ((List spliceref03_Span) × Int)) :=
  if x1_5 < (a0.length : Int) then
    some (.inl (.l2 x1_5 x1_5 x1_r0))
  else
    if (x1_r0.length : Int) > 64 then
      some (.inr (([] : List spliceref03_Span), 2))
    else
      some (.inr (x1_r0, 0))

noncomputable def spliceref03_Set.l2 (a0 : List Bool) (x2_5 : Int) (x2_6 : Int) (x2_r0 : List spliceref03_Span) : Option (spliceref03_Set.S ⊕ ((List spliceref03_Span) × Int)) :=
  if x2_5 < (a0.length : Int) then
    if 0 ≤ x2_5 ∧ x2_5 < (a0.length : Int) then
      spliceref03_Set.j1 x2_5 x2_6 x2_r0 (a0.getD x2_5.toNat false)
    else none
  else
    spliceref03_Set.j1 x2_5 x2_6 x2_r0 false

noncomputable def spliceref03_Set.step (a0 : List Bool) : spliceref03_Set.S → Option (spliceref03_Set.S ⊕ ((List spliceref03_Span) × Int))
  | .l1 x1_5 x1_r0 => spliceref03_Set.l1 a0 x1_5 x1_r0
  | .l2 x2_5 x2_6 x2_r0 => spliceref03_Set.l2 a0 x2_5 x2_6 x2_r0

noncomputable def spliceref03_Set (a0 : List Bool) : Option ((List spliceref03_Span) × Int) :=
  goLoop (spliceref03_Set.step a0) (.l1 0 ([] : List spliceref03_Span))

inductive spliceref03_Make.S where
  | l1 (x1_4 : Int)

noncomputable def spliceref03_Make.l1 (a0 : List spliceref03_Span) (x1_4 : Int) : Option (spliceref03_Make.S ⊕ ((List spliceref03_Span) × Int)) :=
  if x1_4 < (a0.length : Int) then
    if 0 ≤ x1_4 ∧ x1_4 < (a0.length : Int) then
      if (spliceref03_One (a0.getD x1_4.toNat spliceref03_Span.z)) = true then
        some (.inl (.l1 (IntKind.wrap .i64 (x1_4 + 1))))
      else
        some (.inr (([] : List spliceref03_Span), 1))
    else none
  else
    (spliceref03_Keys a0).bind fun v1 =>
    (spliceref03_Set v1).bind fun v2 =>
    some (.inr (v2.1, v2.2))

noncomputable def spliceref03_Make.step (a0 : List spliceref03_Span) : spliceref03_Make.S → Option (spliceref03_Make.S ⊕ ((List spliceref03_Span) × Int))
  | .l1 x1_4 => spliceref03_Make.l1 a0 x1_4

noncomputable def spliceref03_Make (a0 : List spliceref03_Span) : Option ((List spliceref03_Span) × Int) :=
  goLoop (spliceref03_Make.step a0) (.l1 0)

inductive spliceref04_Touch.S where
  | l1 (x1_4 : Int) (x1_r1 : List spliceref03_Span)

noncomputable def spliceref04_Touch.l1 (a0 : spliceref04_Mut) (x1_4 : Int) (x1_r1 : List spliceref03_Span) : Option (spliceref04_Touch.S ⊕ (List spliceref03_Span)) :=
  if x1_4 < (a0.Pairs.length : Int) then
    if 0 ≤ x1_4 ∧ x1_4 < (a0.Pairs.length : Int) then
      if (x1_r1.length + 1) * 16 ≤ 140737488355328 then
        some (.inl (.l1 (IntKind.wrap .i64 (x1_4 + 1)) (x1_r1 ++ [(⟨(a0.Pairs.getD x1_4.toNat spliceref04_Pair.z).Key, IntKind.wrap .i64 (((a0.Pairs.getD x1_4.toNat spliceref04_Pair.z).Key) + 1)⟩ : spliceref03_Span)])))
      else none
    else none
  else
    (spliceref03_Make x1_r1).bind fun v2 =>
    some (.inr v2.1)

noncomputable def spliceref04_Touch.step (a0 : spliceref04_Mut) : spliceref04_Touch.S → Option (spliceref04_Touch.S ⊕ (List spliceref03_Span))
  | .l1 x1_4 x1_r1 => spliceref04_Touch.l1 a0 x1_4 x1_r1

noncomputable def spliceref04_Touch (a0 : spliceref04_Mut) : Option (List spliceref03_Span) :=
  (spliceref04_Check a0).bind fun v1 =>
  if v1 = true then
    if a0.Kind = 2 then
      some ([a0.Over] : List spliceref03_Span)
    else
      goLoop (spliceref04_Touch.step a0) (.l1 0 ([] : List spliceref03_Span))
  else
    some ([] : List spliceref03_Span)

inductive spliceref03_Same.S where
  | l1 (x1_5 : Int)

noncomputable def spliceref03_Same.l1 (a0 : List spliceref03_Span) (a1 : List spliceref03_Span) (x1_5 : Int) : Option (spliceref03_Same.S ⊕ Bool) :=
  if x1_5 < (a0.length : Int) then
    if 0 ≤ x1_5 ∧ x1_5 < (a0.length : Int) then
      if 0 ≤ x1_5 ∧ x1_5 < (a1.length : Int) then
        if ((a0.getD x1_5.toNat spliceref03_Span.z).Lo) = ((a1.getD x1_5.toNat spliceref03_Span.z).Lo) then
          if ((a0.getD x1_5.toNat spliceref03_Span.z).Hi) = ((a1.getD x1_5.toNat spliceref03_Span.z).Hi) then
            some (.inl (.l1 (IntKind.wrap .i64 (x1_5 + 1))))
          else
            some (.inr false)
        else
          if ((a0.getD x1_5.toNat spliceref03_Span.z).Hi) = ((a1.getD x1_5.toNat spliceref03_Span.z).Hi) then
            some (.inr false)
          else
            some (.inr false)
      else none
    else none
  else
    some (.inr true)

noncomputable def spliceref03_Same.step (a0 : List spliceref03_Span) (a1 : List spliceref03_Span) : spliceref03_Same.S → Option (spliceref03_Same.S ⊕ Bool)
  | .l1 x1_5 => spliceref03_Same.l1 a0 a1 x1_5

noncomputable def spliceref03_Same (a0 : List spliceref03_Span) (a1 : List spliceref03_Span) : Option Bool :=
  if (a0.length : Int) = (a1.length : Int) then
    goLoop (spliceref03_Same.step a0 a1) (.l1 0)
  else
    some false

noncomputable def splicelaw04_MutTouches.j3 (y3_4 : Bool) : Option Bool :=
  some y3_4

noncomputable def splicelaw04_MutTouches.j2 (a0 : api_Mut) (v2 : List api_Span) (y2_43 : Bool) : Option Bool :=
  if y2_43 = true then
    some false
  else
    (splicelaw04_awake).bind fun v14 =>
    if v14 = true then
      (splicelaw03_Refs v2).bind fun v15 =>
      (splicelaw04_Ref a0).bind fun v16 =>
      (spliceref04_Touch v16).bind fun v17 =>
      (spliceref03_Same v15 v17).bind fun v18 =>
      splicelaw04_MutTouches.j3 v18
    else
      splicelaw04_MutTouches.j3 false

noncomputable def splicelaw04_MutTouches.j1 (y1_4 : Bool) : Option Bool :=
  some y1_4

noncomputable def splicelaw04_MutTouches (a0 : api_Mut) (a1 : Int) : Option Bool :=
  if (splicelaw04_few a0) = true then
    (mut_Touch a0).bind fun v2 =>
    (splicelaw04_Ref a0).bind fun v3 =>
    (spliceref04_Check v3).bind fun v4 =>
    if v4 = true then
      (span_Check v2).bind fun v6 =>
      if v6 = true then
        (span_Has v2 a1).bind fun v7 =>
        (splicelaw04_Ref a0).bind fun v8 =>
        (spliceref04_Touches v8 a1).bind fun v9 =>
        if v7 = true then
          if v9 = true then
            (mut_Alone a0).bind fun v10 =>
            if v10 = true then
              (span_Count v2).bind fun v11 =>
              splicelaw04_MutTouches.j2 a0 v2 (v11 != 1)
            else
              splicelaw04_MutTouches.j2 a0 v2 false
          else
            splicelaw04_MutTouches.j2 a0 v2 true
        else
          if v9 = true then
            splicelaw04_MutTouches.j2 a0 v2 true
          else
            (mut_Alone a0).bind fun v12 =>
            if v12 = true then
              (span_Count v2).bind fun v13 =>
              splicelaw04_MutTouches.j2 a0 v2 (v13 != 1)
            else
              splicelaw04_MutTouches.j2 a0 v2 false
      else
        splicelaw04_MutTouches.j2 a0 v2 true
    else
      (splicelaw04_awake).bind fun v5 =>
      if v5 = true then
        splicelaw04_MutTouches.j1 ((v2.length : Int) == 0)
      else
        splicelaw04_MutTouches.j1 false
  else
    (splicelaw04_awake).bind fun v1 =>
    some v1

noncomputable def vint_From (a0 : ByteArray) : vint_Reader :=
  (⟨a0, 0⟩ : vint_Reader)

noncomputable def vint_Reader_Err (a0 : vint_Reader) : Int :=
  a0.e_

inductive vint_whole.S where
  | l1 (x1_6 : Int)

noncomputable def vint_whole.j1 (x1_6 : Int) (y1_16 : Bool) : Option (vint_whole.S ⊕ Bool) :=
  if y1_16 = true then
    some (.inr true)
  else
    some (.inl (.l1 (IntKind.wrap .i64 (x1_6 + 1))))

noncomputable def vint_whole.l1 (a0 : ByteArray) (x1_6 : Int) : Option (vint_whole.S ⊕ Bool) :=
  if x1_6 < (a0.size : Int) then
    if x1_6 = 9 then
      vint_whole.j1 x1_6 true
    else
      if 0 ≤ x1_6 ∧ x1_6 < (a0.size : Int) then
        vint_whole.j1 x1_6 (decide ((byteAt a0 x1_6) < 128))
      else none
  else
    some (.inr false)

noncomputable def vint_whole.step (a0 : ByteArray) : vint_whole.S → Option (vint_whole.S ⊕ Bool)
  | .l1 x1_6 => vint_whole.l1 a0 x1_6

noncomputable def vint_whole (a0 : ByteArray) : Option Bool :=
  goLoop (vint_whole.step a0) (.l1 0)

noncomputable def vint_Reader_fail.j1 (y1_b0_0 : ByteArray) (y1_b0_1 : Int) : vint_Reader :=
  (⟨y1_b0_0, y1_b0_1⟩ : vint_Reader)

noncomputable def vint_Reader_fail (a0 : vint_Reader) (a1 : Int) : vint_Reader :=
  if a0.e_ = 0 then
    vint_Reader_fail.j1 (⟨#[]⟩ : ByteArray) a1
  else
    vint_Reader_fail.j1 a0.s a0.e_

inductive vint_Reader_Num.S where
  | l1 (x1_3 : Int) (x1_14 : Int)

noncomputable def vint_Reader_Num.j3 (y3_b0_0 : ByteArray) (y3_b0_1 : Int) : Option (vint_Reader_Num.S ⊕ (Int × vint_Reader)) :=
  bnd (vint_Reader_fail (⟨y3_b0_0, y3_b0_1⟩ : vint_Reader) 5) fun (v6 : vint_Reader) =>
  some (.inr (0, v6))

noncomputable def vint_Reader_Num.j2 (a0 : vint_Reader) (x1_3 : Int) (x1_14 : Int) (y2_23 : Bool) : Option (vint_Reader_Num.S ⊕ (Int × vint_Reader)) :=
  if y2_23 = true then
    (vint_whole a0.s).bind fun v4 =>
    if v4 = true then
      bnd (vint_Reader_fail a0 3) fun (v5 : vint_Reader) =>
      vint_Reader_Num.j3 v5.s v5.e_
    else
      vint_Reader_Num.j3 a0.s a0.e_
  else
    if (byteAt a0.s x1_14) < 128 then
      if 0 ≤ (IntKind.wrap .i64 (x1_14 + 1)) ∧ (IntKind.wrap .i64 (x1_14 + 1)) ≤ (a0.s.size : Int) ∧ (a0.s.size : Int) ≤ (a0.s.size : Int) then
        if 0 ≤ (IntKind.wrap .i64 (7 * x1_14)) then
          bnd (bOr .i64 x1_3 (IntKind.wrap .i64 ((IntKind.wrap .i64 (byteAt a0.s x1_14)) * 2 ^ (min (IntKind.wrap .i64 (7 * x1_14)).toNat 64)))) fun (v7 : Int) =>
          some (.inr (v7, (⟨a0.s.extract ((IntKind.wrap .i64 (x1_14 + 1)).toNat) a0.s.size, a0.e_⟩ : vint_Reader)))
        else none
      else none
    else
      if 0 ≤ (IntKind.wrap .i64 (7 * x1_14)) then
        bnd (bOr .i64 x1_3 (IntKind.wrap .i64 ((IntKind.wrap .i64 (bAnd .u8 (byteAt a0.s x1_14) 127)) * 2 ^ (min (IntKind.wrap .i64 (7 * x1_14)).toNat 64)))) fun (v8 : Int) =>
        some (.inl (.l1 v8 (IntKind.wrap .i64 (x1_14 + 1))))
      else none

noncomputable def vint_Reader_Num.j1 (y1_b0_0 : ByteArray) (y1_b0_1 : Int) : Option (vint_Reader_Num.S ⊕ (Int × vint_Reader)) :=
  bnd (vint_Reader_fail (⟨y1_b0_0, y1_b0_1⟩ : vint_Reader) 5) fun (v3 : vint_Reader) =>
  some (.inr (0, v3))

noncomputable def vint_Reader_Num.l1 (a0 : vint_Reader) (x1_3 : Int) (x1_14 : Int) : Option (vint_Reader_Num.S ⊕ (Int × vint_Reader)) :=
  if x1_14 < (a0.s.size : Int) then
    if 0 ≤ x1_14 ∧ x1_14 < (a0.s.size : Int) then
      if x1_14 = 9 then
        vint_Reader_Num.j2 a0 x1_3 x1_14 true
      else
        if x1_14 > 0 then
          vint_Reader_Num.j2 a0 x1_3 x1_14 ((byteAt a0.s x1_14) == 0)
        else
          vint_Reader_Num.j2 a0 x1_3 x1_14 false
    else none
  else
    (vint_whole a0.s).bind fun v1 =>
    if v1 = true then
      bnd (vint_Reader_fail a0 3) fun (v2 : vint_Reader) =>
      vint_Reader_Num.j1 v2.s v2.e_
    else
      vint_Reader_Num.j1 a0.s a0.e_

noncomputable def vint_Reader_Num.step (a0 : vint_Reader) : vint_Reader_Num.S → Option (vint_Reader_Num.S ⊕ (Int × vint_Reader))
  | .l1 x1_3 x1_14 => vint_Reader_Num.l1 a0 x1_3 x1_14

noncomputable def vint_Reader_Num (a0 : vint_Reader) : Option (Int × vint_Reader) :=
  if (vint_Reader_Err a0) = 0 then
    goLoop (vint_Reader_Num.step a0) (.l1 0 0)
  else
    some (0, a0)

noncomputable def vint_Reader_Whole (a0 : vint_Reader) : Option (Int × vint_Reader) :=
  (vint_Reader_Num a0).bind fun v1 =>
  if (bAnd .i64 v1.1 1) = 1 then
    bnd (IntKind.wrap .i64 ((IntKind.wrap .i64 (0 - (Int.fdiv v1.1 2))) - 1)) fun (v2 : Int) =>
    some (v2, v1.2)
  else
    some (Int.fdiv v1.1 2, v1.2)

noncomputable def vint_Reader_End.j1 (a0 : vint_Reader) (y1_12 : Bool) : Int :=
  if y1_12 = true then
    2
  else
    vint_Reader_Err a0

noncomputable def vint_Reader_End (a0 : vint_Reader) : Int :=
  if (vint_Reader_Err a0) = 0 then
    vint_Reader_End.j1 a0 (!(a0.s.toList == (⟨#[]⟩ : ByteArray).toList))
  else
    vint_Reader_End.j1 a0 false

inductive mut_Read.S where
  | l1 (x1_6 : Int) (x1_b1_0 : ByteArray) (x1_b1_1 : Int) (x1_r3 : List api_Pair)

noncomputable def mut_Read.j2 (v2 : Int × vint_Reader) (v3 : Int × vint_Reader) (v4 : Int × vint_Reader) (x1_r3 : List api_Pair) (y2_b1_0 : ByteArray) (y2_b1_1 : Int) (y2_b2_4 : Int) (y2_b2_5 : Int) (y2_b2_6 : Int) : Option (mut_Read.S ⊕ (api_Mut × Int)) :=
  if (vint_Reader_End (⟨y2_b1_0, y2_b1_1⟩ : vint_Reader)) = 0 then
    (mut_Check (⟨v2.1, v3.1, v4.1, x1_r3, (⟨y2_b2_4, y2_b2_5⟩ : api_Span), y2_b2_6⟩ : api_Mut)).bind fun v9 =>
    if v9 = true then
      some (.inr ((⟨v2.1, v3.1, v4.1, x1_r3, (⟨y2_b2_4, y2_b2_5⟩ : api_Span), y2_b2_6⟩ : api_Mut), 0))
    else
      some (.inr ((⟨0, 0, 0, ([] : List api_Pair), (⟨0, 0⟩ : api_Span), 0⟩ : api_Mut), 3))
  else
    some (.inr ((⟨0, 0, 0, ([] : List api_Pair), (⟨0, 0⟩ : api_Span), 0⟩ : api_Mut), vint_Reader_End (⟨y2_b1_0, y2_b1_1⟩ : vint_Reader)))

noncomputable def mut_Read.j1 (v2 : Int × vint_Reader) (v3 : Int × vint_Reader) (v4 : Int × vint_Reader) (x1_6 : Int) (x1_b1_0 : ByteArray) (x1_b1_1 : Int) (x1_r3 : List api_Pair) (y1_27 : Bool) : Option (mut_Read.S ⊕ (api_Mut × Int)) :=
  if y1_27 = true then
    (vint_Reader_Num (⟨x1_b1_0, x1_b1_1⟩ : vint_Reader)).bind fun v10 =>
    (vint_Reader_Whole v10.2).bind fun v11 =>
    if (x1_r3.length + 1) * 16 ≤ 140737488355328 then
      some (.inl (.l1 (IntKind.wrap .i64 (x1_6 + 1)) v11.2.s v11.2.e_ (x1_r3 ++ [(⟨v10.1, v11.1⟩ : api_Pair)])))
    else none
  else
    if v4.1 = 2 then
      (vint_Reader_Num (⟨x1_b1_0, x1_b1_1⟩ : vint_Reader)).bind fun v6 =>
      (vint_Reader_Num v6.2).bind fun v7 =>
      mut_Read.j2 v2 v3 v4 x1_r3 v7.2.s v7.2.e_ v6.1 v7.1 0
    else
      if v4.1 = 4 then
        (vint_Reader_Whole (⟨x1_b1_0, x1_b1_1⟩ : vint_Reader)).bind fun v8 =>
        mut_Read.j2 v2 v3 v4 x1_r3 v8.2.s v8.2.e_ 0 0 v8.1
      else
        mut_Read.j2 v2 v3 v4 x1_r3 x1_b1_0 x1_b1_1 0 0 0

noncomputable def mut_Read.l1 (v2 : Int × vint_Reader) (v3 : Int × vint_Reader) (v4 : Int × vint_Reader) (v5 : Int × vint_Reader) (x1_6 : Int) (x1_b1_0 : ByteArray) (x1_b1_1 : Int) (x1_r3 : List api_Pair) : Option (mut_Read.S ⊕ (api_Mut × Int)) :=
  if x1_6 < v5.1 then
    mut_Read.j1 v2 v3 v4 x1_6 x1_b1_0 x1_b1_1 x1_r3 ((vint_Reader_Err (⟨x1_b1_0, x1_b1_1⟩ : vint_Reader)) == 0)
  else
    mut_Read.j1 v2 v3 v4 x1_6 x1_b1_0 x1_b1_1 x1_r3 false

noncomputable def mut_Read.step (v2 : Int × vint_Reader) (v3 : Int × vint_Reader) (v4 : Int × vint_Reader) (v5 : Int × vint_Reader) : mut_Read.S → Option (mut_Read.S ⊕ (api_Mut × Int))
  | .l1 x1_6 x1_b1_0 x1_b1_1 x1_r3 => mut_Read.l1 v2 v3 v4 v5 x1_6 x1_b1_0 x1_b1_1 x1_r3

noncomputable def mut_Read (a0 : ByteArray) : Option (api_Mut × Int) :=
  bnd (vint_From a0) fun (v1 : vint_Reader) =>
  (vint_Reader_Num v1).bind fun v2 =>
  (vint_Reader_Num v2.2).bind fun v3 =>
  (vint_Reader_Num v3.2).bind fun v4 =>
  (vint_Reader_Num v4.2).bind fun v5 =>
  goLoop (mut_Read.step v2 v3 v4 v5) (.l1 0 v5.2.s v5.2.e_ ([] : List api_Pair))

noncomputable def spliceref01_fail (a0 : Int) : spliceref01_Reader :=
  (⟨(⟨#[]⟩ : ByteArray), a0⟩ : spliceref01_Reader)

inductive spliceref01_Reader_Num.S where
  | l1 (x1_4 : Int)
  | l2 (x2_4 : Int) (x2_5 : Int) (x2_6 : Int)

noncomputable def spliceref01_Reader_Num.j2 (x1_4 : Int) (y2_47 : Bool) : Option (spliceref01_Reader_Num.S ⊕ (spliceref01_Reader × Int)) :=
  if y2_47 = true then
    bnd (spliceref01_fail 3) fun (v2 : spliceref01_Reader) =>
    some (.inr (v2, 0))
  else
    some (.inl (.l2 x1_4 0 x1_4))

noncomputable def spliceref01_Reader_Num.j1 (a0 : spliceref01_Reader) (x1_4 : Int) (y1_26 : Bool) : Option (spliceref01_Reader_Num.S ⊕ (spliceref01_Reader × Int)) :=
  if y1_26 = true then
    some (.inl (.l1 (IntKind.wrap .i64 (x1_4 + 1))))
  else
    if x1_4 = (a0.S.size : Int) then
      bnd (spliceref01_fail 5) fun (v1 : spliceref01_Reader) =>
      some (.inr (v1, 0))
    else
      if x1_4 = 9 then
        spliceref01_Reader_Num.j2 x1_4 true
      else
        if x1_4 > 0 then
          if 0 ≤ x1_4 ∧ x1_4 < (a0.S.size : Int) then
            spliceref01_Reader_Num.j2 x1_4 ((byteAt a0.S x1_4) == 0)
          else none
        else
          spliceref01_Reader_Num.j2 x1_4 false

noncomputable def spliceref01_Reader_Num.l1 (a0 : spliceref01_Reader) (x1_4 : Int) : Option (spliceref01_Reader_Num.S ⊕ (spliceref01_Reader × Int)) :=
  if x1_4 < (a0.S.size : Int) then
    if x1_4 < 9 then
      if 0 ≤ x1_4 ∧ x1_4 < (a0.S.size : Int) then
        spliceref01_Reader_Num.j1 a0 x1_4 (decide ((byteAt a0.S x1_4) > 127))
      else none
    else
      spliceref01_Reader_Num.j1 a0 x1_4 false
  else
    spliceref01_Reader_Num.j1 a0 x1_4 false

noncomputable def spliceref01_Reader_Num.l2 (a0 : spliceref01_Reader) (x2_4 : Int) (x2_5 : Int) (x2_6 : Int) : Option (spliceref01_Reader_Num.S ⊕ (spliceref01_Reader × Int)) :=
  if x2_6 ≥ 0 then
    if 0 ≤ x2_6 ∧ x2_6 < (a0.S.size : Int) then
      bnd (IntKind.wrap .i64 ((IntKind.wrap .i64 (128 * x2_5)) + (Int.tmod (IntKind.wrap .i64 (byteAt a0.S x2_6)) 128))) fun (v3 : Int) =>
      some (.inl (.l2 x2_4 v3 (IntKind.wrap .i64 (x2_6 - 1))))
    else none
  else
    if 0 ≤ (IntKind.wrap .i64 (x2_4 + 1)) ∧ (IntKind.wrap .i64 (x2_4 + 1)) ≤ (a0.S.size : Int) ∧ (a0.S.size : Int) ≤ (a0.S.size : Int) then
      some (.inr ((⟨a0.S.extract ((IntKind.wrap .i64 (x2_4 + 1)).toNat) a0.S.size, 0⟩ : spliceref01_Reader), x2_5))
    else none

noncomputable def spliceref01_Reader_Num.step (a0 : spliceref01_Reader) : spliceref01_Reader_Num.S → Option (spliceref01_Reader_Num.S ⊕ (spliceref01_Reader × Int))
  | .l1 x1_4 => spliceref01_Reader_Num.l1 a0 x1_4
  | .l2 x2_4 x2_5 x2_6 => spliceref01_Reader_Num.l2 a0 x2_4 x2_5 x2_6

noncomputable def spliceref01_Reader_Num (a0 : spliceref01_Reader) : Option (spliceref01_Reader × Int) :=
  if a0.E = 0 then
    goLoop (spliceref01_Reader_Num.step a0) (.l1 0)
  else
    some (a0, 0)

noncomputable def spliceref01_Reader_Whole (a0 : spliceref01_Reader) : Option (spliceref01_Reader × Int) :=
  (spliceref01_Reader_Num a0).bind fun v1 =>
  if (Int.tmod v1.2 2) = 1 then
    bnd (IntKind.wrap .i64 ((IntKind.wrap .i64 (0 - (IntKind.wrap .i64 (Int.tdiv v1.2 2)))) - 1)) fun (v2 : Int) =>
    some (v1.1, v2)
  else
    some (v1.1, IntKind.wrap .i64 (Int.tdiv v1.2 2))

noncomputable def spliceref01_Reader_End.j1 (a0 : spliceref01_Reader) (y1_10 : Bool) : Int :=
  if y1_10 = true then
    2
  else
    a0.E

noncomputable def spliceref01_Reader_End (a0 : spliceref01_Reader) : Int :=
  if a0.E = 0 then
    spliceref01_Reader_End.j1 a0 (!(a0.S.toList == (⟨#[]⟩ : ByteArray).toList))
  else
    spliceref01_Reader_End.j1 a0 false

inductive spliceref04_Read.S where
  | l1 (x1_13 : Int) (x1_r2 : List spliceref04_Pair) (x1_b3_0 : ByteArray) (x1_b3_1 : Int)

noncomputable def spliceref04_Read.j3 (v1 : spliceref01_Reader × Int) (v2 : spliceref01_Reader × Int) (v3 : spliceref01_Reader × Int) (x1_r2 : List spliceref04_Pair) (y2_b1_4 : Int) (y2_b1_5 : Int) (y3_b1_6 : Int) (y3_b3_0 : ByteArray) (y3_b3_1 : Int) : Option (spliceref04_Read.S ⊕ (spliceref04_Mut × Int)) :=
  if (spliceref01_Reader_End (⟨y3_b3_0, y3_b3_1⟩ : spliceref01_Reader)) = 0 then
    (spliceref04_Check (⟨v1.2, v2.2, v3.2, x1_r2, (⟨y2_b1_4, y2_b1_5⟩ : spliceref03_Span), y3_b1_6⟩ : spliceref04_Mut)).bind fun v9 =>
    if v9 = true then
      some (.inr ((⟨v1.2, v2.2, v3.2, x1_r2, (⟨y2_b1_4, y2_b1_5⟩ : spliceref03_Span), y3_b1_6⟩ : spliceref04_Mut), 0))
    else
      some (.inr ((⟨0, 0, 0, ([] : List spliceref04_Pair), (⟨0, 0⟩ : spliceref03_Span), 0⟩ : spliceref04_Mut), 3))
  else
    bnd (spliceref01_Reader_End (⟨y3_b3_0, y3_b3_1⟩ : spliceref01_Reader)) fun (v8 : Int) =>
    some (.inr ((⟨0, 0, 0, ([] : List spliceref04_Pair), (⟨0, 0⟩ : spliceref03_Span), 0⟩ : spliceref04_Mut), v8))

noncomputable def spliceref04_Read.j2 (v1 : spliceref01_Reader × Int) (v2 : spliceref01_Reader × Int) (v3 : spliceref01_Reader × Int) (x1_r2 : List spliceref04_Pair) (y2_b1_4 : Int) (y2_b1_5 : Int) (y2_b3_0 : ByteArray) (y2_b3_1 : Int) : Option (spliceref04_Read.S ⊕ (spliceref04_Mut × Int)) :=
  if v3.2 = 4 then
    (spliceref01_Reader_Whole (⟨y2_b3_0, y2_b3_1⟩ : spliceref01_Reader)).bind fun v7 =>
    spliceref04_Read.j3 v1 v2 v3 x1_r2 y2_b1_4 y2_b1_5 v7.2 v7.1.S v7.1.E
  else
    spliceref04_Read.j3 v1 v2 v3 x1_r2 y2_b1_4 y2_b1_5 0 y2_b3_0 y2_b3_1

noncomputable def spliceref04_Read.j1 (v1 : spliceref01_Reader × Int) (v2 : spliceref01_Reader × Int) (v3 : spliceref01_Reader × Int) (x1_13 : Int) (x1_r2 : List spliceref04_Pair) (x1_b3_0 : ByteArray) (x1_b3_1 : Int) (y1_60 : Bool) : Option (spliceref04_Read.S ⊕ (spliceref04_Mut × Int)) :=
  if y1_60 = true then
    (spliceref01_Reader_Num (⟨x1_b3_0, x1_b3_1⟩ : spliceref01_Reader)).bind fun v10 =>
    (spliceref01_Reader_Whole v10.1).bind fun v11 =>
    if (x1_r2.length + 1) * 16 ≤ 140737488355328 then
      some (.inl (.l1 (IntKind.wrap .i64 (x1_13 + 1)) (x1_r2 ++ [(⟨v10.2, v11.2⟩ : spliceref04_Pair)]) v11.1.S v11.1.E))
    else none
  else
    if v3.2 = 2 then
      (spliceref01_Reader_Num (⟨x1_b3_0, x1_b3_1⟩ : spliceref01_Reader)).bind fun v5 =>
      (spliceref01_Reader_Num v5.1).bind fun v6 =>
      spliceref04_Read.j2 v1 v2 v3 x1_r2 v5.2 v6.2 v6.1.S v6.1.E
    else
      spliceref04_Read.j2 v1 v2 v3 x1_r2 0 0 x1_b3_0 x1_b3_1

noncomputable def spliceref04_Read.l1 (v1 : spliceref01_Reader × Int) (v2 : spliceref01_Reader × Int) (v3 : spliceref01_Reader × Int) (v4 : spliceref01_Reader × Int) (x1_13 : Int) (x1_r2 : List spliceref04_Pair) (x1_b3_0 : ByteArray) (x1_b3_1 : Int) : Option (spliceref04_Read.S ⊕ (spliceref04_Mut × Int)) :=
  if x1_13 < v4.2 then
    spliceref04_Read.j1 v1 v2 v3 x1_13 x1_r2 x1_b3_0 x1_b3_1 (x1_b3_1 == 0)
  else
    spliceref04_Read.j1 v1 v2 v3 x1_13 x1_r2 x1_b3_0 x1_b3_1 false

noncomputable def spliceref04_Read.step (v1 : spliceref01_Reader × Int) (v2 : spliceref01_Reader × Int) (v3 : spliceref01_Reader × Int) (v4 : spliceref01_Reader × Int) : spliceref04_Read.S → Option (spliceref04_Read.S ⊕ (spliceref04_Mut × Int))
  | .l1 x1_13 x1_r2 x1_b3_0 x1_b3_1 => spliceref04_Read.l1 v1 v2 v3 v4 x1_13 x1_r2 x1_b3_0 x1_b3_1

noncomputable def spliceref04_Read (a0 : ByteArray) : Option (spliceref04_Mut × Int) :=
  (spliceref01_Reader_Num (⟨a0, 0⟩ : spliceref01_Reader)).bind fun v1 =>
  (spliceref01_Reader_Num v1.1).bind fun v2 =>
  (spliceref01_Reader_Num v2.1).bind fun v3 =>
  (spliceref01_Reader_Num v3.1).bind fun v4 =>
  goLoop (spliceref04_Read.step v1 v2 v3 v4) (.l1 0 ([] : List spliceref04_Pair) v4.1.S v4.1.E)

noncomputable def splicelaw04_MutReads.j1 (y1_2 : Bool) : Option Bool :=
  some y1_2

noncomputable def splicelaw04_MutReads (a0 : ByteArray) : Option Bool :=
  if (a0.size : Int) > 5000 then
    (splicelaw04_awake).bind fun v1 =>
    some v1
  else
    (mut_Read a0).bind fun v2 =>
    (spliceref04_Read a0).bind fun v3 =>
    (splicelaw04_awake).bind fun v4 =>
    if v4 = true then
      (splicelaw04_Ref v2.1).bind fun v5 =>
      (spliceref04_Same v5 v3.1).bind fun v6 =>
      if v6 = true then
        splicelaw04_MutReads.j1 (v2.2 == v3.2)
      else
        splicelaw04_MutReads.j1 false
    else
      splicelaw04_MutReads.j1 false

noncomputable def splicelaw04_MutBack.j4 (y4_4 : Bool) : Option Bool :=
  some y4_4

noncomputable def splicelaw04_MutBack.j3 (a1 : ByteArray) : Option Bool :=
  (mut_Read a1).bind fun v6 =>
  (splicelaw04_awake).bind fun v7 =>
  if v7 = true then
    if v6.2 = 0 then
      (mut_Check v6.1).bind fun v8 =>
      if v8 = true then
        (mut_Text v6.1).bind fun v9 =>
        splicelaw04_MutBack.j4 (v9.toList == a1.toList)
      else
        splicelaw04_MutBack.j4 false
    else
      (splicelaw04_Ref v6.1).bind fun v10 =>
      (spliceref04_Same v10 (⟨0, 0, 0, [], (⟨0, 0⟩ : spliceref03_Span), 0⟩ : spliceref04_Mut)).bind fun v11 =>
      if v11 = true then
        splicelaw04_MutBack.j4 true
      else
        splicelaw04_MutBack.j4 false
  else
    splicelaw04_MutBack.j4 false

noncomputable def splicelaw04_MutBack.j2 (a1 : ByteArray) (y2_33 : Bool) : Option Bool :=
  if y2_33 = true then
    some false
  else
    splicelaw04_MutBack.j3 a1

noncomputable def splicelaw04_MutBack.j1 (a0 : api_Mut) (a1 : ByteArray) (y1_16 : Bool) : Option Bool :=
  if y1_16 = true then
    (splicelaw04_awake).bind fun v1 =>
    some v1
  else
    (mut_Check a0).bind fun v2 =>
    if v2 = true then
      (mut_Text a0).bind fun v3 =>
      (mut_Read v3).bind fun v4 =>
      if v4.2 = 0 then
        (mut_Same v4.1 a0).bind fun v5 =>
        splicelaw04_MutBack.j2 a1 (!v5)
      else
        splicelaw04_MutBack.j2 a1 true
    else
      splicelaw04_MutBack.j3 a1

noncomputable def splicelaw04_MutBack (a0 : api_Mut) (a1 : ByteArray) : Option Bool :=
  if (splicelaw04_few a0) = true then
    splicelaw04_MutBack.j1 a0 a1 (decide ((a1.size : Int) > 5000))
  else
    splicelaw04_MutBack.j1 a0 a1 true
end Go.SyP
