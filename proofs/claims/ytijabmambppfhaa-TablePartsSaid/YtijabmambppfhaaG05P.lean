/- Plain functions, printed by gen.py. -/
import Derived.Test.YtijabmambppfhaaSyY
set_option linter.unusedVariables false
namespace Go.SyP
open Go Go.Sy

structure api_Pair where
  Key : Int
  Val : Int
def api_Pair.z : api_Pair := ⟨0, 0⟩
structure api_Span where
  Lo : Int
  Hi : Int
def api_Span.z : api_Span := ⟨0, 0⟩
structure api_Mut where
  Client : Int
  Seq : Int
  Kind : Int
  Pairs : List api_Pair
  Over : api_Span
  Old : Int
def api_Mut.z : api_Mut := ⟨0, 0, 0, [], api_Span.z, 0⟩
structure spliceref04_Pair where
  Key : Int
  Val : Int
def spliceref04_Pair.z : spliceref04_Pair := ⟨0, 0⟩
structure spliceref03_Span where
  Lo : Int
  Hi : Int
def spliceref03_Span.z : spliceref03_Span := ⟨0, 0⟩
structure spliceref04_Mut where
  Client : Int
  Seq : Int
  Kind : Int
  Pairs : List spliceref04_Pair
  Over : spliceref03_Span
  Old : Int
def spliceref04_Mut.z : spliceref04_Mut := ⟨0, 0, 0, [], spliceref03_Span.z, 0⟩
structure spliceref05_Cell where
  Val : Int
  Some : Bool
def spliceref05_Cell.z : spliceref05_Cell := ⟨0, false⟩
structure splicelaw05_Two where
  A : List api_Pair
  B : List api_Pair
def splicelaw05_Two.z : splicelaw05_Two := ⟨[], []⟩

noncomputable def splicelaw05_few.j1 (y1_6 : Bool) : Bool :=
  y1_6

noncomputable def splicelaw05_few (a0 : List api_Pair) (a1 : api_Mut) (a2 : List api_Span) : Bool :=
  if (a0.length : Int) ≤ 200 then
    if (a1.Pairs.length : Int) ≤ 100 then
      splicelaw05_few.j1 (decide ((a2.length : Int) ≤ 100))
    else
      splicelaw05_few.j1 false
  else
    splicelaw05_few.j1 false

inductive table_Check.S where
  | l1 (x1_7 : Int)

noncomputable def table_Check.j1 (x1_7 : Int) (y1_44 : Bool) : Option (table_Check.S ⊕ Bool) :=
  if y1_44 = true then
    some (.inr false)
  else
    some (.inl (.l1 (IntKind.wrap .i64 (x1_7 + 1))))

noncomputable def table_Check.l1 (a0 : List api_Pair) (x1_7 : Int) : Option (table_Check.S ⊕ Bool) :=
  if x1_7 < (a0.length : Int) then
    if 0 ≤ x1_7 ∧ x1_7 < (a0.length : Int) then
      if ((a0.getD x1_7.toNat api_Pair.z).Key) < 0 then
        table_Check.j1 x1_7 true
      else
        if ((a0.getD x1_7.toNat api_Pair.z).Key) ≥ 4096 then
          table_Check.j1 x1_7 true
        else
          if ((a0.getD x1_7.toNat api_Pair.z).Val) < (-1099511627776) then
            table_Check.j1 x1_7 true
          else
            if ((a0.getD x1_7.toNat api_Pair.z).Val) > 1099511627776 then
              table_Check.j1 x1_7 true
            else
              if x1_7 > 0 then
                if 0 ≤ (IntKind.wrap .i64 (x1_7 - 1)) ∧ (IntKind.wrap .i64 (x1_7 - 1)) < (a0.length : Int) then
                  table_Check.j1 x1_7 (decide (((a0.getD ((IntKind.wrap .i64 (x1_7 - 1)).toNat) api_Pair.z).Key) ≥ ((a0.getD x1_7.toNat api_Pair.z).Key)))
                else none
              else
                table_Check.j1 x1_7 false
    else none
  else
    some (.inr true)

noncomputable def table_Check.step (a0 : List api_Pair) : table_Check.S → Option (table_Check.S ⊕ Bool)
  | .l1 x1_7 => table_Check.l1 a0 x1_7

noncomputable def table_Check (a0 : List api_Pair) : Option Bool :=
  goLoop (table_Check.step a0) (.l1 0)

inductive slices_IndexFunc_api_Pair.S where
  | l1 (x1_8 : Int)

noncomputable def slices_IndexFunc_api_Pair.l1 (a0 : List api_Pair) (p1 : api_Pair → Option Bool) (x1_8 : Int) : Option (slices_IndexFunc_api_Pair.S ⊕ Int) :=
  if x1_8 < (a0.length : Int) then
    if 0 ≤ x1_8 ∧ x1_8 < (a0.length : Int) then
      (p1 (a0.getD x1_8.toNat api_Pair.z)).bind fun v1 =>
      if v1 = true then
        some (.inr x1_8)
      else
        some (.inl (.l1 (IntKind.wrap .i64 (x1_8 + 1))))
    else none
  else
    some (.inr (-1))

noncomputable def slices_IndexFunc_api_Pair.step (a0 : List api_Pair) (p1 : api_Pair → Option Bool) : slices_IndexFunc_api_Pair.S → Option (slices_IndexFunc_api_Pair.S ⊕ Int)
  | .l1 x1_8 => slices_IndexFunc_api_Pair.l1 a0 p1 x1_8

noncomputable def slices_IndexFunc_api_Pair (a0 : List api_Pair) (p1 : api_Pair → Option Bool) : Option Int :=
  goLoop (slices_IndexFunc_api_Pair.step a0 p1) (.l1 0)

noncomputable def slices_ContainsFunc_api_Pair (a0 : List api_Pair) (p1 : api_Pair → Option Bool) : Option Bool :=
  (slices_IndexFunc_api_Pair a0 p1).bind fun v1 =>
  some (decide (v1 ≥ 0))

noncomputable def mut_value.j1 (y1_2 : Bool) : Bool :=
  y1_2

noncomputable def mut_value (a0 : Int) : Bool :=
  if a0 ≥ (-1099511627776) then
    mut_value.j1 (decide (a0 ≤ 1099511627776))
  else
    mut_value.j1 false

noncomputable def mut_pair.j1 (y1_2 : Bool) : Bool :=
  y1_2

noncomputable def mut_pair (a0 : api_Pair) : Bool :=
  if a0.Key ≥ 0 then
    if a0.Key < 4096 then
      mut_pair.j1 (mut_value a0.Val)
    else
      mut_pair.j1 false
  else
    mut_pair.j1 false

noncomputable def mut_pairs_1 (a0 : api_Pair) : Bool :=
  (!(mut_pair a0))

noncomputable def mut_pairs.j1 (y1_6 : Bool) : Option Bool :=
  some y1_6

noncomputable def mut_pairs (a0 : api_Mut) (a1 : Int) (a2 : Int) : Option Bool :=
  if (a0.Pairs.length : Int) ≥ a1 then
    if (a0.Pairs.length : Int) ≤ a2 then
      (slices_ContainsFunc_api_Pair a0.Pairs (fun z0 => some (mut_pairs_1 z0))).bind fun v1 =>
      mut_pairs.j1 (!v1)
    else
      mut_pairs.j1 false
  else
    mut_pairs.j1 false

inductive mut_rising.S where
  | l1 (x1_3 : Int)

noncomputable def mut_rising.l1 (a0 : List api_Pair) (x1_3 : Int) : Option (mut_rising.S ⊕ Bool) :=
  if x1_3 < (a0.length : Int) then
    if 0 ≤ (IntKind.wrap .i64 (x1_3 - 1)) ∧ (IntKind.wrap .i64 (x1_3 - 1)) < (a0.length : Int) then
      if 0 ≤ x1_3 ∧ x1_3 < (a0.length : Int) then
        if ((a0.getD ((IntKind.wrap .i64 (x1_3 - 1)).toNat) api_Pair.z).Key) ≥ ((a0.getD x1_3.toNat api_Pair.z).Key) then
          some (.inr false)
        else
          some (.inl (.l1 (IntKind.wrap .i64 (x1_3 + 1))))
      else none
    else none
  else
    some (.inr true)

noncomputable def mut_rising.step (a0 : List api_Pair) : mut_rising.S → Option (mut_rising.S ⊕ Bool)
  | .l1 x1_3 => mut_rising.l1 a0 x1_3

noncomputable def mut_rising (a0 : List api_Pair) : Option Bool :=
  goLoop (mut_rising.step a0) (.l1 1)

noncomputable def span_One.j1 (y1_2 : Bool) : Bool :=
  y1_2

noncomputable def span_One (a0 : api_Span) : Bool :=
  if a0.Lo ≥ 0 then
    if a0.Lo < a0.Hi then
      span_One.j1 (decide (a0.Hi ≤ 4096))
    else
      span_One.j1 false
  else
    span_One.j1 false

noncomputable def mut_kind.j2 (y2_2 : Bool) : Option Bool :=
  some y2_2

noncomputable def mut_kind.j3 (y3_2 : Bool) : Option Bool :=
  some y3_2

noncomputable def mut_kind.j4 (y4_2 : Bool) : Option Bool :=
  some y4_2

noncomputable def mut_kind.j5 (y5_2 : Bool) : Option Bool :=
  some y5_2

noncomputable def mut_kind.j1 (a0 : api_Mut) (y1_23 : Bool) : Option Bool :=
  if y1_23 = true then
    some false
  else
    if a0.Kind = 1 then
      (mut_pairs a0 1 8).bind fun v1 =>
      if v1 = true then
        (mut_rising a0.Pairs).bind fun v2 =>
        mut_kind.j2 v2
      else
        mut_kind.j2 false
    else
      if a0.Kind = 2 then
        if (a0.Pairs.length : Int) = 0 then
          mut_kind.j3 (span_One a0.Over)
        else
          mut_kind.j3 false
      else
        if a0.Kind = 3 then
          (mut_pairs a0 1 1).bind fun v3 =>
          some v3
        else
          if a0.Kind = 4 then
            (mut_pairs a0 1 1).bind fun v4 =>
            if v4 = true then
              if (mut_value a0.Old) = true then
                mut_kind.j4 true
              else
                mut_kind.j4 (a0.Old == 1099511627777)
            else
              mut_kind.j4 false
          else
            if a0.Kind = 5 then
              (mut_pairs a0 2 2).bind fun v5 =>
              if v5 = true then
                if (0 : Int) ≤ 0 ∧ 0 < (a0.Pairs.length : Int) then
                  if (0 : Int) ≤ 1 ∧ 1 < (a0.Pairs.length : Int) then
                    if ((a0.Pairs.getD 0 api_Pair.z).Key) = ((a0.Pairs.getD 1 api_Pair.z).Key) then
                      mut_kind.j5 false
                    else
                      if ((a0.Pairs.getD 0 api_Pair.z).Val) = ((a0.Pairs.getD 1 api_Pair.z).Val) then
                        mut_kind.j5 (decide (((a0.Pairs.getD 0 api_Pair.z).Val) ≥ 0))
                      else
                        mut_kind.j5 false
                  else none
                else none
              else
                mut_kind.j5 false
            else
              some false

noncomputable def mut_kind (a0 : api_Mut) : Option Bool :=
  if a0.Kind = 2 then
    if a0.Kind = 4 then
      mut_kind.j1 a0 false
    else
      mut_kind.j1 a0 (a0.Old != 0)
  else
    if a0.Over.Lo = 0 then
      if a0.Over.Hi = 0 then
        if a0.Kind = 4 then
          mut_kind.j1 a0 false
        else
          mut_kind.j1 a0 (a0.Old != 0)
      else
        mut_kind.j1 a0 true
    else
      if a0.Over.Hi = 0 then
        mut_kind.j1 a0 true
      else
        mut_kind.j1 a0 true

noncomputable def mut_Check.j1 (y1_2 : Bool) : Option Bool :=
  some y1_2

noncomputable def mut_Check (a0 : api_Mut) : Option Bool :=
  if a0.Client ≥ 1 then
    if a0.Client ≤ 1048576 then
      if a0.Seq ≥ 1 then
        if a0.Seq ≤ 1073741824 then
          (mut_kind a0).bind fun v1 =>
          mut_Check.j1 v1
        else
          mut_Check.j1 false
      else
        mut_Check.j1 false
    else
      mut_Check.j1 false
  else
    mut_Check.j1 false

inductive span_Check.S where
  | l1 (x1_7 : Int)

noncomputable def span_Check.j1 (x1_7 : Int) (y1_29 : Bool) : Option (span_Check.S ⊕ Bool) :=
  if y1_29 = true then
    some (.inr false)
  else
    some (.inl (.l1 (IntKind.wrap .i64 (x1_7 + 1))))

noncomputable def span_Check.l1 (a0 : List api_Span) (x1_7 : Int) : Option (span_Check.S ⊕ Bool) :=
  if x1_7 < (a0.length : Int) then
    if 0 ≤ x1_7 ∧ x1_7 < (a0.length : Int) then
      if (span_One (a0.getD x1_7.toNat api_Span.z)) = true then
        if x1_7 > 0 then
          if 0 ≤ (IntKind.wrap .i64 (x1_7 - 1)) ∧ (IntKind.wrap .i64 (x1_7 - 1)) < (a0.length : Int) then
            span_Check.j1 x1_7 (decide (((a0.getD x1_7.toNat api_Span.z).Lo) ≤ ((a0.getD ((IntKind.wrap .i64 (x1_7 - 1)).toNat) api_Span.z).Hi)))
          else none
        else
          span_Check.j1 x1_7 false
      else
        span_Check.j1 x1_7 true
    else none
  else
    some (.inr (decide ((a0.length : Int) ≤ 64)))

noncomputable def span_Check.step (a0 : List api_Span) : span_Check.S → Option (span_Check.S ⊕ Bool)
  | .l1 x1_7 => span_Check.l1 a0 x1_7

noncomputable def span_Check (a0 : List api_Span) : Option Bool :=
  goLoop (span_Check.step a0) (.l1 0)

inductive slices_DeleteFunc_api_Pair.S where
  | l1 (x1_5 : Int) (x1_6 : Int) (x1_r1 : List api_Pair)

noncomputable def slices_DeleteFunc_api_Pair.j1 (x1_6 : Int) (y1_5 : Int) (y1_r1 : List api_Pair) : Option (slices_DeleteFunc_api_Pair.S ⊕ (List api_Pair)) :=
  some (.inl (.l1 y1_5 (IntKind.wrap .i64 (x1_6 + 1)) y1_r1))

noncomputable def slices_DeleteFunc_api_Pair.l1 (p1 : api_Pair → Option Bool) (x1_5 : Int) (x1_6 : Int) (x1_r1 : List api_Pair) : Option (slices_DeleteFunc_api_Pair.S ⊕ (List api_Pair)) :=
  if x1_6 < (x1_r1.length : Int) then
    if 0 ≤ x1_6 ∧ x1_6 < (x1_r1.length : Int) then
      (p1 (x1_r1.getD x1_6.toNat api_Pair.z)).bind fun v2 =>
      if v2 = true then
        slices_DeleteFunc_api_Pair.j1 x1_6 x1_5 x1_r1
      else
        if 0 ≤ x1_5 ∧ x1_5 < (x1_r1.length : Int) then
          slices_DeleteFunc_api_Pair.j1 x1_6 (IntKind.wrap .i64 (x1_5 + 1)) (x1_r1.set x1_5.toNat (x1_r1.getD x1_6.toNat api_Pair.z))
        else none
    else none
  else
    if 0 ≤ x1_5 ∧ x1_5 ≤ (x1_r1.length : Int) then
      some (.inr (x1_r1.take x1_5.toNat))
    else none

noncomputable def slices_DeleteFunc_api_Pair.step (p1 : api_Pair → Option Bool) : slices_DeleteFunc_api_Pair.S → Option (slices_DeleteFunc_api_Pair.S ⊕ (List api_Pair))
  | .l1 x1_5 x1_6 x1_r1 => slices_DeleteFunc_api_Pair.l1 p1 x1_5 x1_6 x1_r1

noncomputable def slices_DeleteFunc_api_Pair (a0 : List api_Pair) (p1 : api_Pair → Option Bool) : Option (List api_Pair) :=
  (slices_IndexFunc_api_Pair a0 p1).bind fun v1 =>
  if v1 = (-1) then
    some a0
  else
    goLoop (slices_DeleteFunc_api_Pair.step p1) (.l1 v1 (IntKind.wrap .i64 (v1 + 1)) a0)

inductive slices_IndexFunc_api_Span.S where
  | l1 (x1_8 : Int)

noncomputable def slices_IndexFunc_api_Span.l1 (a0 : List api_Span) (p1 : api_Span → Option Bool) (x1_8 : Int) : Option (slices_IndexFunc_api_Span.S ⊕ Int) :=
  if x1_8 < (a0.length : Int) then
    if 0 ≤ x1_8 ∧ x1_8 < (a0.length : Int) then
      (p1 (a0.getD x1_8.toNat api_Span.z)).bind fun v1 =>
      if v1 = true then
        some (.inr x1_8)
      else
        some (.inl (.l1 (IntKind.wrap .i64 (x1_8 + 1))))
    else none
  else
    some (.inr (-1))

noncomputable def slices_IndexFunc_api_Span.step (a0 : List api_Span) (p1 : api_Span → Option Bool) : slices_IndexFunc_api_Span.S → Option (slices_IndexFunc_api_Span.S ⊕ Int)
  | .l1 x1_8 => slices_IndexFunc_api_Span.l1 a0 p1 x1_8

noncomputable def slices_IndexFunc_api_Span (a0 : List api_Span) (p1 : api_Span → Option Bool) : Option Int :=
  goLoop (slices_IndexFunc_api_Span.step a0 p1) (.l1 0)

noncomputable def slices_ContainsFunc_api_Span (a0 : List api_Span) (p1 : api_Span → Option Bool) : Option Bool :=
  (slices_IndexFunc_api_Span a0 p1).bind fun v1 =>
  some (decide (v1 ≥ 0))

noncomputable def span_Has_1.j1 (y1_3 : Bool) : Bool :=
  y1_3

noncomputable def span_Has_1 (a0 : api_Span) (k0 : Int) : Bool :=
  if (span_One a0) = true then
    if k0 ≥ a0.Lo then
      span_Has_1.j1 (decide (k0 < a0.Hi))
    else
      span_Has_1.j1 false
  else
    span_Has_1.j1 false

noncomputable def span_Has (a0 : List api_Span) (a1 : Int) : Option Bool :=
  (slices_ContainsFunc_api_Span a0 (fun z0 => some (span_Has_1 z0 a1))).bind fun v1 =>
  some v1

noncomputable def table_cut_1.j1 (y1_4 : Bool) : Option Bool :=
  some y1_4

noncomputable def table_cut_1 (a0 : api_Pair) (k0 : api_Span) (k1 : List api_Span) : Option Bool :=
  if a0.Key ≥ k0.Lo then
    if a0.Key < k0.Hi then
      (span_Has k1 a0.Key).bind fun v1 =>
      table_cut_1.j1 v1
    else
      table_cut_1.j1 false
  else
    table_cut_1.j1 false

noncomputable def table_cut (a0 : List api_Pair) (a1 : api_Span) (a2 : List api_Span) : Option (List api_Pair) :=
  (slices_DeleteFunc_api_Pair a0 (fun z0 => table_cut_1 z0 a1 a2)).bind fun v1 =>
  some v1

noncomputable def mut_Alone.j1 (y1_2 : Bool) : Option Bool :=
  some y1_2

noncomputable def mut_Alone (a0 : api_Mut) : Option Bool :=
  (mut_Check a0).bind fun v1 =>
  if v1 = true then
    if a0.Kind = 3 then
      mut_Alone.j1 true
    else
      mut_Alone.j1 (a0.Kind == 4)
  else
    mut_Alone.j1 false

inductive slices_BinarySearchFunc_int.S where
  | l1 (x1_9 : Int) (x1_10 : Int)

noncomputable def slices_BinarySearchFunc_int.j1 (x1_9 : Int) (y1_7 : Bool) : Option (slices_BinarySearchFunc_int.S ⊕ (Int × Bool)) :=
  some (.inr (x1_9, y1_7))

noncomputable def slices_BinarySearchFunc_int.l1 (a0 : List api_Pair) (a1 : Int) (p2 : api_Pair → Int → Option Int) (x1_9 : Int) (x1_10 : Int) : Option (slices_BinarySearchFunc_int.S ⊕ (Int × Bool)) :=
  if x1_9 < x1_10 then
    bnd (IntKind.wrap .i64 (Int.fdiv (IntKind.wrap .u64 (IntKind.wrap .i64 (x1_9 + x1_10))) 2)) fun (v2 : Int) =>
    if 0 ≤ v2 ∧ v2 < (a0.length : Int) then
      (p2 (a0.getD v2.toNat api_Pair.z) a1).bind fun v3 =>
      if v3 < 0 then
        some (.inl (.l1 (IntKind.wrap .i64 (v2 + 1)) x1_10))
      else
        some (.inl (.l1 x1_9 v2))
    else none
  else
    if x1_9 < (a0.length : Int) then
      if 0 ≤ x1_9 ∧ x1_9 < (a0.length : Int) then
        (p2 (a0.getD x1_9.toNat api_Pair.z) a1).bind fun v1 =>
        slices_BinarySearchFunc_int.j1 x1_9 (v1 == 0)
      else none
    else
      slices_BinarySearchFunc_int.j1 x1_9 false

noncomputable def slices_BinarySearchFunc_int.step (a0 : List api_Pair) (a1 : Int) (p2 : api_Pair → Int → Option Int) : slices_BinarySearchFunc_int.S → Option (slices_BinarySearchFunc_int.S ⊕ (Int × Bool))
  | .l1 x1_9 x1_10 => slices_BinarySearchFunc_int.l1 a0 a1 p2 x1_9 x1_10

noncomputable def slices_BinarySearchFunc_int (a0 : List api_Pair) (a1 : Int) (p2 : api_Pair → Int → Option Int) : Option (Int × Bool) :=
  goLoop (slices_BinarySearchFunc_int.step a0 a1 p2) (.l1 0 (a0.length : Int))

noncomputable def cmp_isNaN_int (a0 : Int) : Bool :=
  (a0 != a0)

noncomputable def cmp_Compare_int (a0 : Int) (a1 : Int) : Int :=
  if (cmp_isNaN_int a0) = true then
    if (cmp_isNaN_int a1) = true then
      0
    else
      (-1)
  else
    if (cmp_isNaN_int a1) = true then
      1
    else
      if a0 < a1 then
        (-1)
      else
        if a0 > a1 then
          1
        else
          0

noncomputable def table_find_1 (a0 : api_Pair) (a1 : Int) : Int :=
  cmp_Compare_int a0.Key a1

noncomputable def table_find (a0 : List api_Pair) (a1 : Int) : Option (Int × Bool) :=
  (slices_BinarySearchFunc_int a0 a1 (fun z0 z1 => some (table_find_1 z0 z1))).bind fun v1 =>
  some (v1.1, v1.2)

noncomputable def table_get (a0 : List api_Pair) (a1 : Int) : Option (Int × Bool) :=
  (table_find a0 a1).bind fun v1 =>
  if v1.2 = true then
    if 0 ≤ v1.1 ∧ v1.1 < (a0.length : Int) then
      some ((a0.getD v1.1.toNat api_Pair.z).Val, true)
    else none
  else
    some (0, false)

noncomputable def table_put (a0 : List api_Pair) (a1 : Int) (a2 : Int) : Option (List api_Pair) :=
  (table_find a0 a1).bind fun v1 =>
  if v1.2 = true then
    if 0 ≤ v1.1 ∧ v1.1 < (a0.length : Int) then
      some (a0.set v1.1.toNat (⟨(a0.getD v1.1.toNat api_Pair.z).Key, a2⟩ : api_Pair))
    else none
  else
    if (0 ≤ v1.1 ∧ v1.1 ≤ (a0.length : Int)) ∧ (a0.length + 1) * 16 ≤ 140737488355328 then
      some (a0.take v1.1.toNat ++ (⟨a1, a2⟩ : api_Pair) :: a0.drop v1.1.toNat)
    else none

noncomputable def table_alone.j1 (a0 : List api_Pair) (a1 : api_Mut) (v1 : Int × Bool) (y1_34 : Bool) : Option ((List api_Pair) × Bool) :=
  if y1_34 = true then
    some (a0, false)
  else
    (table_put a0 ((a1.Pairs.getD 0 api_Pair.z).Key) (IntKind.wrap .i64 (v1.1 + ((a1.Pairs.getD 0 api_Pair.z).Val)))).bind fun v2 =>
    some (v2, true)

noncomputable def table_alone.j2 (a0 : List api_Pair) (a1 : api_Mut) (y2_7 : Int) : Option ((List api_Pair) × Bool) :=
  if y2_7 = a1.Old then
    (table_put a0 ((a1.Pairs.getD 0 api_Pair.z).Key) ((a1.Pairs.getD 0 api_Pair.z).Val)).bind fun v3 =>
    some (v3, true)
  else
    some (a0, false)

noncomputable def table_alone (a0 : List api_Pair) (a1 : api_Mut) : Option ((List api_Pair) × Bool) :=
  if (0 : Int) ≤ 0 ∧ 0 < (a1.Pairs.length : Int) then
    (table_get a0 ((a1.Pairs.getD 0 api_Pair.z).Key)).bind fun v1 =>
    if a1.Kind = 3 then
      if (IntKind.wrap .i64 (v1.1 + ((a1.Pairs.getD 0 api_Pair.z).Val))) < 0 then
        table_alone.j1 a0 a1 v1 true
      else
        table_alone.j1 a0 a1 v1 (decide ((IntKind.wrap .i64 (v1.1 + ((a1.Pairs.getD 0 api_Pair.z).Val))) > 1099511627776))
    else
      if v1.2 = true then
        table_alone.j2 a0 a1 v1.1
      else
        table_alone.j2 a0 a1 1099511627777
  else none

noncomputable def table_move (a0 : List api_Pair) (a1 : Int) (a2 : Int) : Option (List api_Pair) :=
  (table_get a0 a1).bind fun v1 =>
  (table_put a0 a1 (iMin (iMax (IntKind.wrap .i64 (v1.1 + a2)) (-1099511627776)) 1099511627776)).bind fun v2 =>
  some v2

inductive table_Apply.S where
  | l1 (x1_54 : Int) (x1_r1 : List api_Pair)

noncomputable def table_Apply.j2 (x1_54 : Int) (y2_r1 : List api_Pair) : Option (table_Apply.S ⊕ ((List api_Pair) × Bool)) :=
  some (.inl (.l1 (IntKind.wrap .i64 (x1_54 + 1)) y2_r1))

noncomputable def table_Apply.l1 (a1 : api_Mut) (a2 : List api_Span) (x1_54 : Int) (x1_r1 : List api_Pair) : Option (table_Apply.S ⊕ ((List api_Pair) × Bool)) :=
  if x1_54 < (a1.Pairs.length : Int) then
    if 0 ≤ x1_54 ∧ x1_54 < (a1.Pairs.length : Int) then
      (span_Has a2 ((a1.Pairs.getD x1_54.toNat api_Pair.z).Key)).bind fun v8 =>
      if v8 = true then
        if a1.Kind = 1 then
          (table_put x1_r1 ((a1.Pairs.getD x1_54.toNat api_Pair.z).Key) ((a1.Pairs.getD x1_54.toNat api_Pair.z).Val)).bind fun v9 =>
          table_Apply.j2 x1_54 v9
        else
          if x1_54 = 0 then
            (table_move x1_r1 ((a1.Pairs.getD x1_54.toNat api_Pair.z).Key) (IntKind.wrap .i64 (0 - ((a1.Pairs.getD x1_54.toNat api_Pair.z).Val)))).bind fun v10 =>
            table_Apply.j2 x1_54 v10
          else
            (table_move x1_r1 ((a1.Pairs.getD x1_54.toNat api_Pair.z).Key) ((a1.Pairs.getD x1_54.toNat api_Pair.z).Val)).bind fun v11 =>
            table_Apply.j2 x1_54 v11
      else
        table_Apply.j2 x1_54 x1_r1
    else none
  else
    some (.inr (x1_r1, true))

noncomputable def table_Apply.step (a1 : api_Mut) (a2 : List api_Span) : table_Apply.S → Option (table_Apply.S ⊕ ((List api_Pair) × Bool))
  | .l1 x1_54 x1_r1 => table_Apply.l1 a1 a2 x1_54 x1_r1

noncomputable def table_Apply.j1 (a0 : List api_Pair) (a1 : api_Mut) (a2 : List api_Span) (y1_22 : Bool) : Option ((List api_Pair) × Bool) :=
  if y1_22 = true then
    some (([] : List api_Pair), false)
  else
    if a0.length * 16 ≤ 140737488355328 then
      if a1.Kind = 2 then
        (table_cut a0 a1.Over a2).bind fun v4 =>
        some (v4, true)
      else
        (mut_Alone a1).bind fun v5 =>
        if v5 = true then
          if (0 : Int) ≤ 0 ∧ 0 < (a1.Pairs.length : Int) then
            (span_Has a2 ((a1.Pairs.getD 0 api_Pair.z).Key)).bind fun v6 =>
            if v6 = true then
              (table_alone a0 a1).bind fun v7 =>
              some (v7.1, v7.2)
            else
              some (a0, true)
          else none
        else
          goLoop (table_Apply.step a1 a2) (.l1 0 a0)
    else none

noncomputable def table_Apply (a0 : List api_Pair) (a1 : api_Mut) (a2 : List api_Span) : Option ((List api_Pair) × Bool) :=
  (table_Check a0).bind fun v1 =>
  if v1 = true then
    (mut_Check a1).bind fun v2 =>
    if v2 = true then
      (span_Check a2).bind fun v3 =>
      table_Apply.j1 a0 a1 a2 (!v3)
    else
      table_Apply.j1 a0 a1 a2 true
  else
    table_Apply.j1 a0 a1 a2 true

noncomputable def splicelaw05_awake.j1 (y1_0 : Bool) : Option Bool :=
  some y1_0

noncomputable def splicelaw05_awake : Option Bool :=
  (table_Apply ([(⟨5, 7⟩ : api_Pair)] : List api_Pair) (⟨1, 1, 3, ([(⟨5, 3⟩ : api_Pair)] : List api_Pair), (⟨0, 0⟩ : api_Span), 0⟩ : api_Mut) ([(⟨0, 4096⟩ : api_Span)] : List api_Span)).bind fun v1 =>
  (table_Apply ([(⟨5, 7⟩ : api_Pair)] : List api_Pair) (⟨1, 1, 5, ([(⟨5, 4⟩ : api_Pair), (⟨9, 4⟩ : api_Pair)] : List api_Pair), (⟨0, 0⟩ : api_Span), 0⟩ : api_Mut) ([(⟨9, 10⟩ : api_Span)] : List api_Span)).bind fun v2 =>
  if v1.2 = true then
    if (v1.1.length : Int) = 1 then
      if (0 : Int) ≤ 0 ∧ 0 < (v1.1.length : Int) then
        if ((v1.1.getD 0 api_Pair.z).Val) = 10 then
          if v2.2 = true then
            if (v2.1.length : Int) = 2 then
              if (0 : Int) ≤ 0 ∧ 0 < (v2.1.length : Int) then
                if ((v2.1.getD 0 api_Pair.z).Val) = 7 then
                  if (0 : Int) ≤ 1 ∧ 1 < (v2.1.length : Int) then
                    splicelaw05_awake.j1 ((((v2.1.getD 1 api_Pair.z).Key) == 9) && (((v2.1.getD 1 api_Pair.z).Val) == 4))
                  else none
                else
                  splicelaw05_awake.j1 false
              else none
            else
              splicelaw05_awake.j1 false
          else
            splicelaw05_awake.j1 false
        else
          splicelaw05_awake.j1 false
      else none
    else
      splicelaw05_awake.j1 false
  else
    splicelaw05_awake.j1 false

inductive splicelaw05_Refs.S where
  | l1 (x1_4 : Int) (x1_r0 : List spliceref04_Pair)

noncomputable def splicelaw05_Refs.l1 (a0 : List api_Pair) (x1_4 : Int) (x1_r0 : List spliceref04_Pair) : Option (splicelaw05_Refs.S ⊕ (List spliceref04_Pair)) :=
  if x1_4 < (a0.length : Int) then
    if 0 ≤ x1_4 ∧ x1_4 < (a0.length : Int) then
      if (x1_r0.length + 1) * 16 ≤ 140737488355328 then
        some (.inl (.l1 (IntKind.wrap .i64 (x1_4 + 1)) (x1_r0 ++ [(⟨(a0.getD x1_4.toNat api_Pair.z).Key, (a0.getD x1_4.toNat api_Pair.z).Val⟩ : spliceref04_Pair)])))
      else none
    else none
  else
    some (.inr x1_r0)

noncomputable def splicelaw05_Refs.step (a0 : List api_Pair) : splicelaw05_Refs.S → Option (splicelaw05_Refs.S ⊕ (List spliceref04_Pair))
  | .l1 x1_4 x1_r0 => splicelaw05_Refs.l1 a0 x1_4 x1_r0

noncomputable def splicelaw05_Refs (a0 : List api_Pair) : Option (List spliceref04_Pair) :=
  goLoop (splicelaw05_Refs.step a0) (.l1 0 ([] : List spliceref04_Pair))

inductive splicelaw04_Ref.S where
  | l1 (x1_4 : Int) (x1_r3 : List spliceref04_Pair)

noncomputable def splicelaw04_Ref.l1 (a0 : api_Mut) (x1_4 : Int) (x1_r3 : List spliceref04_Pair) : Option (splicelaw04_Ref.S ⊕ spliceref04_Mut) :=
  if x1_4 < (a0.Pairs.length : Int) then
    if 0 ≤ x1_4 ∧ x1_4 < (a0.Pairs.length : Int) then
      if (x1_r3.length + 1) * 16 ≤ 140737488355328 then
        some (.inl (.l1 (IntKind.wrap .i64 (x1_4 + 1)) (x1_r3 ++ [(⟨(a0.Pairs.getD x1_4.toNat api_Pair.z).Key, (a0.Pairs.getD x1_4.toNat api_Pair.z).Val⟩ : spliceref04_Pair)])))
      else none
    else none
  else
    some (.inr (⟨a0.Client, a0.Seq, a0.Kind, x1_r3, (⟨a0.Over.Lo, a0.Over.Hi⟩ : spliceref03_Span), a0.Old⟩ : spliceref04_Mut))

noncomputable def splicelaw04_Ref.step (a0 : api_Mut) : splicelaw04_Ref.S → Option (splicelaw04_Ref.S ⊕ spliceref04_Mut)
  | .l1 x1_4 x1_r3 => splicelaw04_Ref.l1 a0 x1_4 x1_r3

noncomputable def splicelaw04_Ref (a0 : api_Mut) : Option spliceref04_Mut :=
  goLoop (splicelaw04_Ref.step a0) (.l1 0 ([] : List spliceref04_Pair))

inductive splicelaw03_Refs.S where
  | l1 (x1_4 : Int) (x1_r0 : List spliceref03_Span)

noncomputable def splicelaw03_Refs.l1 (a0 : List api_Span) (x1_4 : Int) (x1_r0 : List spliceref03_Span) : Option (splicelaw03_Refs.S ⊕ (List spliceref03_Span)) :=
  if x1_4 < (a0.length : Int) then
    if 0 ≤ x1_4 ∧ x1_4 < (a0.length : Int) then
      if (x1_r0.length + 1) * 16 ≤ 140737488355328 then
        some (.inl (.l1 (IntKind.wrap .i64 (x1_4 + 1)) (x1_r0 ++ [(⟨(a0.getD x1_4.toNat api_Span.z).Lo, (a0.getD x1_4.toNat api_Span.z).Hi⟩ : spliceref03_Span)])))
      else none
    else none
  else
    some (.inr x1_r0)

noncomputable def splicelaw03_Refs.step (a0 : List api_Span) : splicelaw03_Refs.S → Option (splicelaw03_Refs.S ⊕ (List spliceref03_Span))
  | .l1 x1_4 x1_r0 => splicelaw03_Refs.l1 a0 x1_4 x1_r0

noncomputable def splicelaw03_Refs (a0 : List api_Span) : Option (List spliceref03_Span) :=
  goLoop (splicelaw03_Refs.step a0) (.l1 0 ([] : List spliceref03_Span))

inductive spliceref05_Check.S where
  | l1 (x1_3 : Int)

noncomputable def spliceref05_Check.j2 (x1_3 : Int) (y2_55 : Bool) : Option (spliceref05_Check.S ⊕ Bool) :=
  if y2_55 = true then
    some (.inr false)
  else
    some (.inl (.l1 (IntKind.wrap .i64 (x1_3 + 1))))

noncomputable def spliceref05_Check.j1 (a0 : List spliceref04_Pair) (x1_3 : Int) (y1_39 : Bool) : Option (spliceref05_Check.S ⊕ Bool) :=
  if y1_39 = true then
    some (.inr false)
  else
    if x1_3 > 0 then
      if 0 ≤ (IntKind.wrap .i64 (x1_3 - 1)) ∧ (IntKind.wrap .i64 (x1_3 - 1)) < (a0.length : Int) then
        spliceref05_Check.j2 x1_3 (decide (((a0.getD x1_3.toNat spliceref04_Pair.z).Key) ≤ ((a0.getD ((IntKind.wrap .i64 (x1_3 - 1)).toNat) spliceref04_Pair.z).Key)))
      else none
    else
      spliceref05_Check.j2 x1_3 false

noncomputable def spliceref05_Check.l1 (a0 : List spliceref04_Pair) (x1_3 : Int) : Option (spliceref05_Check.S ⊕ Bool) :=
  if x1_3 < (a0.length : Int) then
    if 0 ≤ x1_3 ∧ x1_3 < (a0.length : Int) then
      if ((a0.getD x1_3.toNat spliceref04_Pair.z).Key) < 0 then
        spliceref05_Check.j1 a0 x1_3 true
      else
        if ((a0.getD x1_3.toNat spliceref04_Pair.z).Key) > 4095 then
          spliceref05_Check.j1 a0 x1_3 true
        else
          if ((a0.getD x1_3.toNat spliceref04_Pair.z).Val) < (-1099511627776) then
            spliceref05_Check.j1 a0 x1_3 true
          else
            spliceref05_Check.j1 a0 x1_3 (decide (((a0.getD x1_3.toNat spliceref04_Pair.z).Val) > 1099511627776))
    else none
  else
    some (.inr true)

noncomputable def spliceref05_Check.step (a0 : List spliceref04_Pair) : spliceref05_Check.S → Option (spliceref05_Check.S ⊕ Bool)
  | .l1 x1_3 => spliceref05_Check.l1 a0 x1_3

noncomputable def spliceref05_Check (a0 : List spliceref04_Pair) : Option Bool :=
  goLoop (spliceref05_Check.step a0) (.l1 0)

noncomputable def spliceref03_One.j1 (y1_2 : Bool) : Bool :=
  y1_2

noncomputable def spliceref03_One (a0 : spliceref03_Span) : Bool :=
  if a0.Lo ≥ 0 then
    if a0.Lo < a0.Hi then
      spliceref03_One.j1 (decide (a0.Hi ≤ 4096))
    else
      spliceref03_One.j1 false
  else
    spliceref03_One.j1 false

noncomputable def spliceref04_value.j1 (y1_2 : Bool) : Bool :=
  y1_2

noncomputable def spliceref04_value (a0 : Int) : Bool :=
  if a0 ≥ (-1099511627776) then
    spliceref04_value.j1 (decide (a0 ≤ 1099511627776))
  else
    spliceref04_value.j1 false

inductive spliceref04_pairs.S where
  | l1 (x1_7 : Int)

noncomputable def spliceref04_pairs.j2 (x1_7 : Int) (y2_46 : Bool) : Option (spliceref04_pairs.S ⊕ Bool) :=
  if y2_46 = true then
    some (.inr false)
  else
    some (.inl (.l1 (IntKind.wrap .i64 (x1_7 + 1))))

noncomputable def spliceref04_pairs.l1 (a0 : List spliceref04_Pair) (x1_7 : Int) : Option (spliceref04_pairs.S ⊕ Bool) :=
  if x1_7 < (a0.length : Int) then
    if 0 ≤ x1_7 ∧ x1_7 < (a0.length : Int) then
      if ((a0.getD x1_7.toNat spliceref04_Pair.z).Key) < 0 then
        spliceref04_pairs.j2 x1_7 true
      else
        if ((a0.getD x1_7.toNat spliceref04_Pair.z).Key) > 4095 then
          spliceref04_pairs.j2 x1_7 true
        else
          spliceref04_pairs.j2 x1_7 (!(spliceref04_value ((a0.getD x1_7.toNat spliceref04_Pair.z).Val)))
    else none
  else
    some (.inr true)

noncomputable def spliceref04_pairs.step (a0 : List spliceref04_Pair) : spliceref04_pairs.S → Option (spliceref04_pairs.S ⊕ Bool)
  | .l1 x1_7 => spliceref04_pairs.l1 a0 x1_7

noncomputable def spliceref04_pairs.j1 (a0 : List spliceref04_Pair) (y1_17 : Bool) : Option Bool :=
  if y1_17 = true then
    some false
  else
    goLoop (spliceref04_pairs.step a0) (.l1 0)

noncomputable def spliceref04_pairs (a0 : List spliceref04_Pair) (a1 : Int) (a2 : Int) : Option Bool :=
  if (a0.length : Int) < a1 then
    spliceref04_pairs.j1 a0 true
  else
    spliceref04_pairs.j1 a0 (decide ((a0.length : Int) > a2))

noncomputable def spliceref04_Check.j2 (y2_2 : Bool) : Option Bool :=
  some y2_2

noncomputable def spliceref04_Check.j4 (y4_2 : Bool) : Option Bool :=
  some y4_2

inductive spliceref04_Check.S where
  | l1 (x1_3 : Int)

noncomputable def spliceref04_Check.l1 (a0 : spliceref04_Mut) (x1_3 : Int) : Option (spliceref04_Check.S ⊕ Bool) :=
  if x1_3 < (a0.Pairs.length : Int) then
    if 0 ≤ (IntKind.wrap .i64 (x1_3 - 1)) ∧ (IntKind.wrap .i64 (x1_3 - 1)) < (a0.Pairs.length : Int) then
      if 0 ≤ x1_3 ∧ x1_3 < (a0.Pairs.length : Int) then
        if ((a0.Pairs.getD ((IntKind.wrap .i64 (x1_3 - 1)).toNat) spliceref04_Pair.z).Key) ≥ ((a0.Pairs.getD x1_3.toNat spliceref04_Pair.z).Key) then
          some (.inr false)
        else
          some (.inl (.l1 (IntKind.wrap .i64 (x1_3 + 1))))
      else none
    else none
  else
    (spliceref04_pairs a0.Pairs 1 8).bind fun v2 =>
    some (.inr v2)

noncomputable def spliceref04_Check.step (a0 : spliceref04_Mut) : spliceref04_Check.S → Option (spliceref04_Check.S ⊕ Bool)
  | .l1 x1_3 => spliceref04_Check.l1 a0 x1_3

noncomputable def spliceref04_Check.j5 (y5_2 : Bool) : Option Bool :=
  some y5_2

noncomputable def spliceref04_Check.j3 (a0 : spliceref04_Mut) (y3_48 : Bool) : Option Bool :=
  if y3_48 = true then
    some false
  else
    if a0.Kind = 4 then
      (spliceref04_pairs a0.Pairs 1 1).bind fun v1 =>
      if v1 = true then
        if (spliceref04_value a0.Old) = true then
          spliceref04_Check.j4 true
        else
          spliceref04_Check.j4 (a0.Old == 1099511627777)
      else
        spliceref04_Check.j4 false
    else
      if a0.Old = 0 then
        if a0.Kind = 1 then
          goLoop (spliceref04_Check.step a0) (.l1 1)
        else
          if a0.Kind = 3 then
            (spliceref04_pairs a0.Pairs 1 1).bind fun v3 =>
            some v3
          else
            if a0.Kind = 5 then
              (spliceref04_pairs a0.Pairs 2 2).bind fun v4 =>
              if v4 = true then
                if (0 : Int) ≤ 0 ∧ 0 < (a0.Pairs.length : Int) then
                  if (0 : Int) ≤ 1 ∧ 1 < (a0.Pairs.length : Int) then
                    if ((a0.Pairs.getD 0 spliceref04_Pair.z).Key) = ((a0.Pairs.getD 1 spliceref04_Pair.z).Key) then
                      spliceref04_Check.j5 false
                    else
                      if ((a0.Pairs.getD 0 spliceref04_Pair.z).Val) = ((a0.Pairs.getD 1 spliceref04_Pair.z).Val) then
                        spliceref04_Check.j5 (decide (((a0.Pairs.getD 0 spliceref04_Pair.z).Val) ≥ 0))
                      else
                        spliceref04_Check.j5 false
                  else none
                else none
              else
                spliceref04_Check.j5 false
            else
              spliceref04_Check.j5 false
      else
        some false

noncomputable def spliceref04_Check.j1 (a0 : spliceref04_Mut) (y1_21 : Bool) : Option Bool :=
  if y1_21 = true then
    some false
  else
    if a0.Kind = 2 then
      if (a0.Pairs.length : Int) = 0 then
        if a0.Old = 0 then
          spliceref04_Check.j2 (spliceref03_One a0.Over)
        else
          spliceref04_Check.j2 false
      else
        spliceref04_Check.j2 false
    else
      if a0.Over.Lo = 0 then
        spliceref04_Check.j3 a0 (a0.Over.Hi != 0)
      else
        spliceref04_Check.j3 a0 true

noncomputable def spliceref04_Check (a0 : spliceref04_Mut) : Option Bool :=
  if a0.Client < 1 then
    spliceref04_Check.j1 a0 true
  else
    if a0.Client > 1048576 then
      spliceref04_Check.j1 a0 true
    else
      if a0.Seq < 1 then
        spliceref04_Check.j1 a0 true
      else
        spliceref04_Check.j1 a0 (decide (a0.Seq > 1073741824))

inductive spliceref03_Check.S where
  | l1 (x1_3 : Int)

noncomputable def spliceref03_Check.j1 (x1_3 : Int) (y1_33 : Bool) : Option (spliceref03_Check.S ⊕ Bool) :=
  if y1_33 = true then
    some (.inr false)
  else
    some (.inl (.l1 (IntKind.wrap .i64 (x1_3 + 1))))

noncomputable def spliceref03_Check.l1 (a0 : List spliceref03_Span) (x1_3 : Int) : Option (spliceref03_Check.S ⊕ Bool) :=
  if x1_3 < (a0.length : Int) then
    if 0 ≤ x1_3 ∧ x1_3 < (a0.length : Int) then
      if (spliceref03_One (a0.getD x1_3.toNat spliceref03_Span.z)) = true then
        if x1_3 > 0 then
          if 0 ≤ (IntKind.wrap .i64 (x1_3 - 1)) ∧ (IntKind.wrap .i64 (x1_3 - 1)) < (a0.length : Int) then
            spliceref03_Check.j1 x1_3 (decide (((a0.getD x1_3.toNat spliceref03_Span.z).Lo) ≤ ((a0.getD ((IntKind.wrap .i64 (x1_3 - 1)).toNat) spliceref03_Span.z).Hi)))
          else none
        else
          spliceref03_Check.j1 x1_3 false
      else
        spliceref03_Check.j1 x1_3 true
    else none
  else
    some (.inr (decide ((a0.length : Int) ≤ 64)))

noncomputable def spliceref03_Check.step (a0 : List spliceref03_Span) : spliceref03_Check.S → Option (spliceref03_Check.S ⊕ Bool)
  | .l1 x1_3 => spliceref03_Check.l1 a0 x1_3

noncomputable def spliceref03_Check (a0 : List spliceref03_Span) : Option Bool :=
  goLoop (spliceref03_Check.step a0) (.l1 0)

inductive spliceref05_more.S where
  | l1 (x1_6 : Bool) (x1_7 : Int) (x1_r0 : List Int)

noncomputable def spliceref05_more.j4 (a0 : List Int) (x1_7 : Int) (y4_6 : Bool) (y4_r0 : List Int) : Option (spliceref05_more.S ⊕ (List Int)) :=
  if (y4_r0.length + 1) * 8 ≤ 140737488355328 then
    some (.inl (.l1 y4_6 (IntKind.wrap .i64 (x1_7 + 1)) (y4_r0 ++ [a0.getD x1_7.toNat 0])))
  else none

noncomputable def spliceref05_more.j3 (a0 : List Int) (a1 : Int) (x1_7 : Int) (x1_r0 : List Int) (y3_6 : Bool) (y3_29 : Bool) : Option (spliceref05_more.S ⊕ (List Int)) :=
  if y3_29 = true then
    if (x1_r0.length + 1) * 8 ≤ 140737488355328 then
      spliceref05_more.j4 a0 x1_7 true (x1_r0 ++ [a1])
    else none
  else
    spliceref05_more.j4 a0 x1_7 y3_6 x1_r0

noncomputable def spliceref05_more.j2 (a0 : List Int) (a1 : Int) (x1_7 : Int) (x1_r0 : List Int) (y2_6 : Bool) : Option (spliceref05_more.S ⊕ (List Int)) :=
  if y2_6 = true then
    spliceref05_more.j3 a0 a1 x1_7 x1_r0 true false
  else
    spliceref05_more.j3 a0 a1 x1_7 x1_r0 false (decide ((a0.getD x1_7.toNat 0) > a1))

noncomputable def spliceref05_more.j1 (y1_r0 : List Int) : Option (spliceref05_more.S ⊕ (List Int)) :=
  some (.inr y1_r0)

noncomputable def spliceref05_more.l1 (a0 : List Int) (a1 : Int) (x1_6 : Bool) (x1_7 : Int) (x1_r0 : List Int) : Option (spliceref05_more.S ⊕ (List Int)) :=
  if x1_7 < (a0.length : Int) then
    if 0 ≤ x1_7 ∧ x1_7 < (a0.length : Int) then
      if (a0.getD x1_7.toNat 0) = a1 then
        spliceref05_more.j2 a0 a1 x1_7 x1_r0 true
      else
        spliceref05_more.j2 a0 a1 x1_7 x1_r0 x1_6
    else none
  else
    if x1_6 = true then
      spliceref05_more.j1 x1_r0
    else
      if (x1_r0.length + 1) * 8 ≤ 140737488355328 then
        spliceref05_more.j1 (x1_r0 ++ [a1])
      else none

noncomputable def spliceref05_more.step (a0 : List Int) (a1 : Int) : spliceref05_more.S → Option (spliceref05_more.S ⊕ (List Int))
  | .l1 x1_6 x1_7 x1_r0 => spliceref05_more.l1 a0 a1 x1_6 x1_7 x1_r0

noncomputable def spliceref05_more (a0 : List Int) (a1 : Int) : Option (List Int) :=
  goLoop (spliceref05_more.step a0 a1) (.l1 false 0 ([] : List Int))

inductive spliceref05_keys.S where
  | l1 (x1_6 : Int) (x1_r1 : List Int)
  | l2 (x2_7 : Int) (x2_r1 : List Int)

noncomputable def spliceref05_keys.l1 (a0 : List spliceref04_Pair) (x1_6 : Int) (x1_r1 : List Int) : Option (spliceref05_keys.S ⊕ (List Int)) :=
  if x1_6 < (a0.length : Int) then
    if 0 ≤ x1_6 ∧ x1_6 < (a0.length : Int) then
      (spliceref05_more x1_r1 ((a0.getD x1_6.toNat spliceref04_Pair.z).Key)).bind fun v1 =>
      some (.inl (.l1 (IntKind.wrap .i64 (x1_6 + 1)) v1))
    else none
  else
    some (.inl (.l2 0 x1_r1))

noncomputable def spliceref05_keys.l2 (a1 : spliceref04_Mut) (x2_7 : Int) (x2_r1 : List Int) : Option (spliceref05_keys.S ⊕ (List Int)) :=
  if x2_7 < (a1.Pairs.length : Int) then
    if 0 ≤ x2_7 ∧ x2_7 < (a1.Pairs.length : Int) then
      (spliceref05_more x2_r1 ((a1.Pairs.getD x2_7.toNat spliceref04_Pair.z).Key)).bind fun v2 =>
      some (.inl (.l2 (IntKind.wrap .i64 (x2_7 + 1)) v2))
    else none
  else
    some (.inr x2_r1)

noncomputable def spliceref05_keys.step (a0 : List spliceref04_Pair) (a1 : spliceref04_Mut) : spliceref05_keys.S → Option (spliceref05_keys.S ⊕ (List Int))
  | .l1 x1_6 x1_r1 => spliceref05_keys.l1 a0 x1_6 x1_r1
  | .l2 x2_7 x2_r1 => spliceref05_keys.l2 a1 x2_7 x2_r1

noncomputable def spliceref05_keys (a0 : List spliceref04_Pair) (a1 : spliceref04_Mut) : Option (List Int) :=
  goLoop (spliceref05_keys.step a0 a1) (.l1 0 ([] : List Int))

inductive spliceref05_Get.S where
  | l1 (x1_5 : Int)

noncomputable def spliceref05_Get.l1 (a0 : List spliceref04_Pair) (a1 : Int) (x1_5 : Int) : Option (spliceref05_Get.S ⊕ spliceref05_Cell) :=
  if x1_5 < (a0.length : Int) then
    if 0 ≤ x1_5 ∧ x1_5 < (a0.length : Int) then
      if ((a0.getD x1_5.toNat spliceref04_Pair.z).Key) = a1 then
        some (.inr (⟨(a0.getD x1_5.toNat spliceref04_Pair.z).Val, true⟩ : spliceref05_Cell))
      else
        some (.inl (.l1 (IntKind.wrap .i64 (x1_5 + 1))))
    else none
  else
    some (.inr (⟨0, false⟩ : spliceref05_Cell))

noncomputable def spliceref05_Get.step (a0 : List spliceref04_Pair) (a1 : Int) : spliceref05_Get.S → Option (spliceref05_Get.S ⊕ spliceref05_Cell)
  | .l1 x1_5 => spliceref05_Get.l1 a0 a1 x1_5

noncomputable def spliceref05_Get (a0 : List spliceref04_Pair) (a1 : Int) : Option spliceref05_Cell :=
  goLoop (spliceref05_Get.step a0 a1) (.l1 0)

noncomputable def spliceref04_Touches.j1 (y1_4 : Bool) : Option Bool :=
  some y1_4

inductive spliceref04_Touches.S where
  | l1 (x1_5 : Int)

noncomputable def spliceref04_Touches.l1 (a0 : spliceref04_Mut) (a1 : Int) (x1_5 : Int) : Option (spliceref04_Touches.S ⊕ Bool) :=
  if x1_5 < (a0.Pairs.length : Int) then
    if 0 ≤ x1_5 ∧ x1_5 < (a0.Pairs.length : Int) then
      if ((a0.Pairs.getD x1_5.toNat spliceref04_Pair.z).Key) = a1 then
        some (.inr true)
      else
        some (.inl (.l1 (IntKind.wrap .i64 (x1_5 + 1))))
    else none
  else
    some (.inr false)

noncomputable def spliceref04_Touches.step (a0 : spliceref04_Mut) (a1 : Int) : spliceref04_Touches.S → Option (spliceref04_Touches.S ⊕ Bool)
  | .l1 x1_5 => spliceref04_Touches.l1 a0 a1 x1_5

noncomputable def spliceref04_Touches (a0 : spliceref04_Mut) (a1 : Int) : Option Bool :=
  if a0.Kind = 2 then
    if a1 ≥ a0.Over.Lo then
      spliceref04_Touches.j1 (decide (a1 < a0.Over.Hi))
    else
      spliceref04_Touches.j1 false
  else
    goLoop (spliceref04_Touches.step a0 a1) (.l1 0)

inductive spliceref03_Has.S where
  | l1 (x1_5 : Int)

noncomputable def spliceref03_Has.j1 (x1_5 : Int) (y1_34 : Bool) : Option (spliceref03_Has.S ⊕ Bool) :=
  if y1_34 = true then
    some (.inr true)
  else
    some (.inl (.l1 (IntKind.wrap .i64 (x1_5 + 1))))

noncomputable def spliceref03_Has.l1 (a0 : List spliceref03_Span) (a1 : Int) (x1_5 : Int) : Option (spliceref03_Has.S ⊕ Bool) :=
  if x1_5 < (a0.length : Int) then
    if 0 ≤ x1_5 ∧ x1_5 < (a0.length : Int) then
      if (spliceref03_One (a0.getD x1_5.toNat spliceref03_Span.z)) = true then
        if a1 ≥ ((a0.getD x1_5.toNat spliceref03_Span.z).Lo) then
          spliceref03_Has.j1 x1_5 (decide (a1 < ((a0.getD x1_5.toNat spliceref03_Span.z).Hi)))
        else
          spliceref03_Has.j1 x1_5 false
      else
        spliceref03_Has.j1 x1_5 false
    else none
  else
    some (.inr false)

noncomputable def spliceref03_Has.step (a0 : List spliceref03_Span) (a1 : Int) : spliceref03_Has.S → Option (spliceref03_Has.S ⊕ Bool)
  | .l1 x1_5 => spliceref03_Has.l1 a0 a1 x1_5

noncomputable def spliceref03_Has (a0 : List spliceref03_Span) (a1 : Int) : Option Bool :=
  goLoop (spliceref03_Has.step a0 a1) (.l1 0)

noncomputable def spliceref05_within (a0 : Int) : Int :=
  if a0 > 1099511627776 then
    1099511627776
  else
    if a0 < (-1099511627776) then
      (-1099511627776)
    else
      a0

noncomputable def spliceref05_Cells.j1 (a0 : spliceref05_Cell) (v1 : Int) (y1_30 : Bool) : Option (spliceref05_Cell × Bool) :=
  if y1_30 = true then
    some (a0, false)
  else
    some ((⟨v1, true⟩ : spliceref05_Cell), true)

noncomputable def spliceref05_Cells.j2 (a0 : spliceref05_Cell) (a1 : spliceref04_Mut) (y2_55 : Bool) : Option (spliceref05_Cell × Bool) :=
  if y2_55 = true then
    some (a0, false)
  else
    if (0 : Int) ≤ 0 ∧ 0 < (a1.Pairs.length : Int) then
      some ((⟨(a1.Pairs.getD 0 spliceref04_Pair.z).Val, true⟩ : spliceref05_Cell), true)
    else none

inductive spliceref05_Cells.S where
  | l1 (x1_9 : Int)

noncomputable def spliceref05_Cells.l1 (a0 : spliceref05_Cell) (a1 : spliceref04_Mut) (a2 : Int) (x1_9 : Int) : Option (spliceref05_Cells.S ⊕ (spliceref05_Cell × Bool)) :=
  if x1_9 < (a1.Pairs.length : Int) then
    if 0 ≤ x1_9 ∧ x1_9 < (a1.Pairs.length : Int) then
      if ((a1.Pairs.getD x1_9.toNat spliceref04_Pair.z).Key) = a2 then
        some (.inr ((⟨(a1.Pairs.getD x1_9.toNat spliceref04_Pair.z).Val, true⟩ : spliceref05_Cell), true))
      else
        some (.inl (.l1 (IntKind.wrap .i64 (x1_9 + 1))))
    else none
  else
    some (.inr (a0, true))

noncomputable def spliceref05_Cells.step (a0 : spliceref05_Cell) (a1 : spliceref04_Mut) (a2 : Int) : spliceref05_Cells.S → Option (spliceref05_Cells.S ⊕ (spliceref05_Cell × Bool))
  | .l1 x1_9 => spliceref05_Cells.l1 a0 a1 a2 x1_9

noncomputable def spliceref05_Cells (a0 : spliceref05_Cell) (a1 : spliceref04_Mut) (a2 : Int) : Option (spliceref05_Cell × Bool) :=
  if a1.Kind = 2 then
    some ((⟨0, false⟩ : spliceref05_Cell), true)
  else
    if a1.Kind = 3 then
      if (0 : Int) ≤ 0 ∧ 0 < (a1.Pairs.length : Int) then
        bnd (IntKind.wrap .i64 (a0.Val + ((a1.Pairs.getD 0 spliceref04_Pair.z).Val))) fun (v1 : Int) =>
        if v1 < 0 then
          spliceref05_Cells.j1 a0 v1 true
        else
          spliceref05_Cells.j1 a0 v1 (decide (v1 > 1099511627776))
      else none
    else
      if a1.Kind = 4 then
        if a0.Some = true then
          if a0.Val = a1.Old then
            spliceref05_Cells.j2 a0 a1 false
          else
            spliceref05_Cells.j2 a0 a1 true
        else
          spliceref05_Cells.j2 a0 a1 (a1.Old != 1099511627777)
      else
        if a1.Kind = 5 then
          if (0 : Int) ≤ 0 ∧ 0 < (a1.Pairs.length : Int) then
            if a2 = ((a1.Pairs.getD 0 spliceref04_Pair.z).Key) then
              bnd (spliceref05_within (IntKind.wrap .i64 (a0.Val - ((a1.Pairs.getD 0 spliceref04_Pair.z).Val)))) fun (v2 : Int) =>
              some ((⟨v2, true⟩ : spliceref05_Cell), true)
            else
              bnd (spliceref05_within (IntKind.wrap .i64 (a0.Val + ((a1.Pairs.getD 0 spliceref04_Pair.z).Val)))) fun (v3 : Int) =>
              some ((⟨v3, true⟩ : spliceref05_Cell), true)
          else none
        else
          goLoop (spliceref05_Cells.step a0 a1 a2) (.l1 0)

inductive spliceref05_Apply.S where
  | l1 (x1_10 : Int) (x1_r2 : List spliceref04_Pair)

noncomputable def spliceref05_Apply.j4 (x1_10 : Int) (y4_r2 : List spliceref04_Pair) : Option (spliceref05_Apply.S ⊕ ((List spliceref04_Pair) × Bool)) :=
  some (.inl (.l1 (IntKind.wrap .i64 (x1_10 + 1)) y4_r2))

noncomputable def spliceref05_Apply.j3 (v4 : List Int) (x1_10 : Int) (x1_r2 : List spliceref04_Pair) (y3_b3_0 : Int) (y3_b3_1 : Bool) : Option (spliceref05_Apply.S ⊕ ((List spliceref04_Pair) × Bool)) :=
  if y3_b3_1 = true then
    if (x1_r2.length + 1) * 16 ≤ 140737488355328 then
      spliceref05_Apply.j4 x1_10 (x1_r2 ++ [(⟨v4.getD x1_10.toNat 0, y3_b3_0⟩ : spliceref04_Pair)])
    else none
  else
    spliceref05_Apply.j4 x1_10 x1_r2

noncomputable def spliceref05_Apply.j2 (a0 : List spliceref04_Pair) (a1 : spliceref04_Mut) (v4 : List Int) (x1_10 : Int) (x1_r2 : List spliceref04_Pair) (v5 : spliceref05_Cell) (y2_55 : Bool) : Option (spliceref05_Apply.S ⊕ ((List spliceref04_Pair) × Bool)) :=
  if y2_55 = true then
    (spliceref05_Cells v5 a1 (v4.getD x1_10.toNat 0)).bind fun v8 =>
    if v8.2 = true then
      spliceref05_Apply.j3 v4 x1_10 x1_r2 v8.1.Val v8.1.Some
    else
      some (.inr (a0, false))
  else
    spliceref05_Apply.j3 v4 x1_10 x1_r2 v5.Val v5.Some

noncomputable def spliceref05_Apply.l1 (a0 : List spliceref04_Pair) (a1 : spliceref04_Mut) (a2 : List spliceref03_Span) (v4 : List Int) (x1_10 : Int) (x1_r2 : List spliceref04_Pair) : Option (spliceref05_Apply.S ⊕ ((List spliceref04_Pair) × Bool)) :=
  if x1_10 < (v4.length : Int) then
    if 0 ≤ x1_10 ∧ x1_10 < (v4.length : Int) then
      (spliceref05_Get a0 (v4.getD x1_10.toNat 0)).bind fun v5 =>
      (spliceref04_Touches a1 (v4.getD x1_10.toNat 0)).bind fun v6 =>
      if v6 = true then
        (spliceref03_Has a2 (v4.getD x1_10.toNat 0)).bind fun v7 =>
        spliceref05_Apply.j2 a0 a1 v4 x1_10 x1_r2 v5 v7
      else
        spliceref05_Apply.j2 a0 a1 v4 x1_10 x1_r2 v5 false
    else none
  else
    some (.inr (x1_r2, true))

noncomputable def spliceref05_Apply.step (a0 : List spliceref04_Pair) (a1 : spliceref04_Mut) (a2 : List spliceref03_Span) (v4 : List Int) : spliceref05_Apply.S → Option (spliceref05_Apply.S ⊕ ((List spliceref04_Pair) × Bool))
  | .l1 x1_10 x1_r2 => spliceref05_Apply.l1 a0 a1 a2 v4 x1_10 x1_r2

noncomputable def spliceref05_Apply.j1 (a0 : List spliceref04_Pair) (a1 : spliceref04_Mut) (a2 : List spliceref03_Span) (y1_26 : Bool) : Option ((List spliceref04_Pair) × Bool) :=
  if y1_26 = true then
    some (([] : List spliceref04_Pair), false)
  else
    (spliceref05_keys a0 a1).bind fun v4 =>
    goLoop (spliceref05_Apply.step a0 a1 a2 v4) (.l1 0 ([] : List spliceref04_Pair))

noncomputable def spliceref05_Apply (a0 : List spliceref04_Pair) (a1 : spliceref04_Mut) (a2 : List spliceref03_Span) : Option ((List spliceref04_Pair) × Bool) :=
  (spliceref05_Check a0).bind fun v1 =>
  if v1 = true then
    (spliceref04_Check a1).bind fun v2 =>
    if v2 = true then
      (spliceref03_Check a2).bind fun v3 =>
      spliceref05_Apply.j1 a0 a1 a2 (!v3)
    else
      spliceref05_Apply.j1 a0 a1 a2 true
  else
    spliceref05_Apply.j1 a0 a1 a2 true

inductive spliceref05_Same.S where
  | l1 (x1_5 : Int)

noncomputable def spliceref05_Same.l1 (a0 : List spliceref04_Pair) (a1 : List spliceref04_Pair) (x1_5 : Int) : Option (spliceref05_Same.S ⊕ Bool) :=
  if x1_5 < (a0.length : Int) then
    if 0 ≤ x1_5 ∧ x1_5 < (a0.length : Int) then
      if 0 ≤ x1_5 ∧ x1_5 < (a1.length : Int) then
        if ((a0.getD x1_5.toNat spliceref04_Pair.z).Key) = ((a1.getD x1_5.toNat spliceref04_Pair.z).Key) then
          if ((a0.getD x1_5.toNat spliceref04_Pair.z).Val) = ((a1.getD x1_5.toNat spliceref04_Pair.z).Val) then
            some (.inl (.l1 (IntKind.wrap .i64 (x1_5 + 1))))
          else
            some (.inr false)
        else
          if ((a0.getD x1_5.toNat spliceref04_Pair.z).Val) = ((a1.getD x1_5.toNat spliceref04_Pair.z).Val) then
            some (.inr false)
          else
            some (.inr false)
      else none
    else none
  else
    some (.inr true)

noncomputable def spliceref05_Same.step (a0 : List spliceref04_Pair) (a1 : List spliceref04_Pair) : spliceref05_Same.S → Option (spliceref05_Same.S ⊕ Bool)
  | .l1 x1_5 => spliceref05_Same.l1 a0 a1 x1_5

noncomputable def spliceref05_Same (a0 : List spliceref04_Pair) (a1 : List spliceref04_Pair) : Option Bool :=
  if (a0.length : Int) = (a1.length : Int) then
    goLoop (spliceref05_Same.step a0 a1) (.l1 0)
  else
    some false

noncomputable def splicelaw05_TableApplies.j1 (y1_6 : Bool) : Option Bool :=
  some y1_6

noncomputable def splicelaw05_TableApplies (a0 : List api_Pair) (a1 : api_Mut) (a2 : List api_Span) : Option Bool :=
  if (splicelaw05_few a0 a1 a2) = true then
    (table_Apply a0 a1 a2).bind fun v2 =>
    (splicelaw05_Refs a0).bind fun v3 =>
    (splicelaw04_Ref a1).bind fun v4 =>
    (splicelaw03_Refs a2).bind fun v5 =>
    (spliceref05_Apply v3 v4 v5).bind fun v6 =>
    (splicelaw05_awake).bind fun v7 =>
    if v7 = true then
      (splicelaw05_Refs v2.1).bind fun v8 =>
      (spliceref05_Same v8 v6.1).bind fun v9 =>
      if v9 = true then
        splicelaw05_TableApplies.j1 (v2.2 == v6.2)
      else
        splicelaw05_TableApplies.j1 false
    else
      splicelaw05_TableApplies.j1 false
  else
    (splicelaw05_awake).bind fun v1 =>
    some v1

noncomputable def splicelaw05_TableTwice.j3 (y3_6 : Bool) : Option Bool :=
  some y3_6

noncomputable def splicelaw05_TableTwice.j5 (y5_6 : Bool) : Option Bool :=
  some y5_6

noncomputable def splicelaw05_TableTwice.j4 (v6 : (List api_Pair) × Bool) (v7 : (List api_Pair) × Bool) (y4_93 : Bool) : Option Bool :=
  if y4_93 = true then
    (splicelaw05_awake).bind fun v13 =>
    if v13 = true then
      if v7.2 = true then
        splicelaw05_TableTwice.j5 false
      else
        (splicelaw05_Refs v6.1).bind fun v14 =>
        (splicelaw05_Refs v7.1).bind fun v15 =>
        (spliceref05_Same v14 v15).bind fun v16 =>
        splicelaw05_TableTwice.j5 v16
    else
      splicelaw05_TableTwice.j5 false
  else
    (splicelaw05_awake).bind fun v17 =>
    some v17

noncomputable def splicelaw05_TableTwice.j2 (a1 : api_Mut) (a2 : List api_Span) (v6 : (List api_Pair) × Bool) (v7 : (List api_Pair) × Bool) (y2_54 : Bool) : Option Bool :=
  if y2_54 = true then
    (splicelaw05_awake).bind fun v8 =>
    if v8 = true then
      if v6.2 = true then
        if v7.2 = true then
          (splicelaw05_Refs v6.1).bind fun v9 =>
          (splicelaw05_Refs v7.1).bind fun v10 =>
          (spliceref05_Same v9 v10).bind fun v11 =>
          splicelaw05_TableTwice.j3 v11
        else
          splicelaw05_TableTwice.j3 false
      else
        splicelaw05_TableTwice.j3 false
    else
      splicelaw05_TableTwice.j3 false
  else
    if a1.Kind = 4 then
      if v6.2 = true then
        if (0 : Int) ≤ 0 ∧ 0 < (a1.Pairs.length : Int) then
          if ((a1.Pairs.getD 0 api_Pair.z).Val) = a1.Old then
            splicelaw05_TableTwice.j4 v6 v7 false
          else
            (span_Has a2 ((a1.Pairs.getD 0 api_Pair.z).Key)).bind fun v12 =>
            splicelaw05_TableTwice.j4 v6 v7 v12
        else none
      else
        splicelaw05_TableTwice.j4 v6 v7 false
    else
      splicelaw05_TableTwice.j4 v6 v7 false

noncomputable def splicelaw05_TableTwice.j1 (a0 : List api_Pair) (a1 : api_Mut) (a2 : List api_Span) (y1_31 : Bool) : Option Bool :=
  if y1_31 = true then
    (splicelaw05_awake).bind fun v5 =>
    some v5
  else
    (table_Apply a0 a1 a2).bind fun v6 =>
    (table_Apply v6.1 a1 a2).bind fun v7 =>
    if a1.Kind = 1 then
      splicelaw05_TableTwice.j2 a1 a2 v6 v7 true
    else
      splicelaw05_TableTwice.j2 a1 a2 v6 v7 (a1.Kind == 2)

noncomputable def splicelaw05_TableTwice (a0 : List api_Pair) (a1 : api_Mut) (a2 : List api_Span) : Option Bool :=
  if (splicelaw05_few a0 a1 a2) = true then
    (table_Check a0).bind fun v1 =>
    if v1 = true then
      (mut_Check a1).bind fun v2 =>
      if v2 = true then
        (splicelaw03_Refs a2).bind fun v3 =>
        (spliceref03_Check v3).bind fun v4 =>
        splicelaw05_TableTwice.j1 a0 a1 a2 (!v4)
      else
        splicelaw05_TableTwice.j1 a0 a1 a2 true
    else
      splicelaw05_TableTwice.j1 a0 a1 a2 true
  else
    splicelaw05_TableTwice.j1 a0 a1 a2 true

noncomputable def table_Get (a0 : List api_Pair) (a1 : Int) : Option (Int × Bool) :=
  (table_Check a0).bind fun v1 =>
  if v1 = true then
    (table_get a0 a1).bind fun v2 =>
    some (v2.1, v2.2)
  else
    some (0, false)

noncomputable def splicelaw05_TableChecks.j2 (y2_4 : Bool) : Option Bool :=
  some y2_4

noncomputable def splicelaw05_TableChecks.j1 (a0 : List api_Pair) (v3 : Int × Bool) (y1_8 : Bool) (y1_b0_0 : Int) (y1_b0_1 : Bool) : Option Bool :=
  (splicelaw05_awake).bind fun v8 =>
  if v8 = true then
    (table_Check a0).bind fun v9 =>
    if v9 = true then
      if y1_8 = true then
        if v3.1 = y1_b0_0 then
          splicelaw05_TableChecks.j2 (v3.2 == y1_b0_1)
        else
          splicelaw05_TableChecks.j2 false
      else
        splicelaw05_TableChecks.j2 false
    else
      if y1_8 = true then
        splicelaw05_TableChecks.j2 false
      else
        if v3.1 = y1_b0_0 then
          splicelaw05_TableChecks.j2 (v3.2 == y1_b0_1)
        else
          splicelaw05_TableChecks.j2 false
  else
    splicelaw05_TableChecks.j2 false

noncomputable def splicelaw05_TableChecks (a0 : List api_Pair) (a1 : Int) : Option Bool :=
  bnd (splicelaw05_few a0 (⟨0, 0, 0, [], (⟨0, 0⟩ : api_Span), 0⟩ : api_Mut) ([] : List api_Span)) fun (v1 : Bool) =>
  if v1 = true then
    (table_Get a0 a1).bind fun v3 =>
    (splicelaw05_Refs a0).bind fun v4 =>
    (spliceref05_Get v4 a1).bind fun v5 =>
    (splicelaw05_Refs a0).bind fun v6 =>
    (spliceref05_Check v6).bind fun v7 =>
    if v7 = true then
      splicelaw05_TableChecks.j1 a0 v3 true v5.Val v5.Some
    else
      splicelaw05_TableChecks.j1 a0 v3 false 0 false
  else
    (splicelaw05_awake).bind fun v2 =>
    some v2

noncomputable def splicelaw05_TableKeys.j3 (y3_6 : Bool) : Option Bool :=
  some y3_6

noncomputable def splicelaw05_TableKeys.j2 (a0 : splicelaw05_Two) (a1 : api_Mut) (a2 : Int) (y2_84 : Bool) : Option Bool :=
  if y2_84 = true then
    (splicelaw05_awake).bind fun v7 =>
    some v7
  else
    (table_Apply a0.A a1 ([(⟨a2, IntKind.wrap .i64 (a2 + 1)⟩ : api_Span)] : List api_Span)).bind fun v8 =>
    (table_Apply a0.B a1 ([(⟨a2, IntKind.wrap .i64 (a2 + 1)⟩ : api_Span)] : List api_Span)).bind fun v9 =>
    (table_Get v8.1 a2).bind fun v10 =>
    (table_Get v9.1 a2).bind fun v11 =>
    (splicelaw05_awake).bind fun v12 =>
    if v12 = true then
      if v8.2 = true then
        if v9.2 = true then
          if v10.1 = v11.1 then
            splicelaw05_TableKeys.j3 (v10.2 == v11.2)
          else
            splicelaw05_TableKeys.j3 false
        else
          splicelaw05_TableKeys.j3 false
      else
        if v9.2 = true then
          splicelaw05_TableKeys.j3 false
        else
          if v10.1 = v11.1 then
            splicelaw05_TableKeys.j3 (v10.2 == v11.2)
          else
            splicelaw05_TableKeys.j3 false
    else
      splicelaw05_TableKeys.j3 false

noncomputable def splicelaw05_TableKeys.j1 (a0 : splicelaw05_Two) (a1 : api_Mut) (a2 : Int) (y1_58 : Bool) : Option Bool :=
  if y1_58 = true then
    (splicelaw05_awake).bind fun v4 =>
    some v4
  else
    (table_Get a0.A a2).bind fun v5 =>
    (table_Get a0.B a2).bind fun v6 =>
    if v5.1 = v6.1 then
      splicelaw05_TableKeys.j2 a0 a1 a2 (!(v5.2 == v6.2))
    else
      splicelaw05_TableKeys.j2 a0 a1 a2 true

noncomputable def splicelaw05_TableKeys (a0 : splicelaw05_Two) (a1 : api_Mut) (a2 : Int) : Option Bool :=
  if (splicelaw05_few a0.A a1 ([] : List api_Span)) = true then
    if (splicelaw05_few a0.B a1 ([] : List api_Span)) = true then
      (table_Check a0.A).bind fun v1 =>
      if v1 = true then
        (table_Check a0.B).bind fun v2 =>
        if v2 = true then
          (mut_Check a1).bind fun v3 =>
          if v3 = true then
            if a2 < 0 then
              splicelaw05_TableKeys.j1 a0 a1 a2 true
            else
              splicelaw05_TableKeys.j1 a0 a1 a2 (decide (a2 ≥ 4096))
          else
            splicelaw05_TableKeys.j1 a0 a1 a2 true
        else
          splicelaw05_TableKeys.j1 a0 a1 a2 true
      else
        splicelaw05_TableKeys.j1 a0 a1 a2 true
    else
      splicelaw05_TableKeys.j1 a0 a1 a2 true
  else
    splicelaw05_TableKeys.j1 a0 a1 a2 true

noncomputable def splicelaw05_TableFails.j3 (y3_6 : Bool) : Option Bool :=
  some y3_6

noncomputable def splicelaw05_TableFails.j2 (a0 : List api_Pair) (a1 : api_Mut) (a2 : Int) (v4 : (List api_Pair) × Bool) (y2_51 : Bool) : Option Bool :=
  if y2_51 = true then
    some false
  else
    (table_Get a0 a2).bind fun v9 =>
    (table_Get v4.1 a2).bind fun v10 =>
    (splicelaw04_Ref a1).bind fun v11 =>
    (spliceref04_Touches v11 a2).bind fun v12 =>
    (splicelaw05_awake).bind fun v13 =>
    if v13 = true then
      (table_Check v4.1).bind fun v14 =>
      if v14 = true then
        if v12 = true then
          splicelaw05_TableFails.j3 true
        else
          if v9.1 = v10.1 then
            splicelaw05_TableFails.j3 (v9.2 == v10.2)
          else
            splicelaw05_TableFails.j3 false
      else
        splicelaw05_TableFails.j3 false
    else
      splicelaw05_TableFails.j3 false

noncomputable def splicelaw05_TableFails.j1 (a0 : List api_Pair) (a1 : api_Mut) (a2 : Int) (y1_27 : Bool) : Option Bool :=
  if y1_27 = true then
    (splicelaw05_awake).bind fun v3 =>
    some v3
  else
    (table_Apply a0 a1 ([(⟨0, 4096⟩ : api_Span)] : List api_Span)).bind fun v4 =>
    if v4.2 = true then
      splicelaw05_TableFails.j2 a0 a1 a2 v4 false
    else
      (mut_Alone a1).bind fun v5 =>
      if v5 = true then
        (splicelaw05_Refs v4.1).bind fun v6 =>
        (splicelaw05_Refs a0).bind fun v7 =>
        (spliceref05_Same v6 v7).bind fun v8 =>
        splicelaw05_TableFails.j2 a0 a1 a2 v4 (!v8)
      else
        splicelaw05_TableFails.j2 a0 a1 a2 v4 true

noncomputable def splicelaw05_TableFails (a0 : List api_Pair) (a1 : api_Mut) (a2 : Int) : Option Bool :=
  if (splicelaw05_few a0 a1 ([] : List api_Span)) = true then
    (table_Check a0).bind fun v1 =>
    if v1 = true then
      (mut_Check a1).bind fun v2 =>
      splicelaw05_TableFails.j1 a0 a1 a2 (!v2)
    else
      splicelaw05_TableFails.j1 a0 a1 a2 true
  else
    splicelaw05_TableFails.j1 a0 a1 a2 true

inductive slices_Concat_api_Pair.S where
  | l1 (x1_3 : Int) (x1_11 : Int)
  | l2 (x2_27 : Int) (x2_r0 : List api_Pair)

noncomputable def slices_Concat_api_Pair.l1 (a0 : List (List api_Pair)) (x1_3 : Int) (x1_11 : Int) : Option (slices_Concat_api_Pair.S ⊕ (List api_Pair)) :=
  if x1_11 < (a0.length : Int) then
    if 0 ≤ x1_11 ∧ x1_11 < (a0.length : Int) then
      bnd (IntKind.wrap .i64 (x1_3 + ((a0.getD x1_11.toNat []).length : Int))) fun (v1 : Int) =>
      if v1 < 0 then
        none
      else
        some (.inl (.l1 v1 (IntKind.wrap .i64 (x1_11 + 1))))
    else none
  else
    if 0 ≤ x1_3 ∧ x1_3 * 16 ≤ 140737488355328 then
      some (.inl (.l2 0 ([] : List api_Pair)))
    else none

noncomputable def slices_Concat_api_Pair.l2 (a0 : List (List api_Pair)) (x2_27 : Int) (x2_r0 : List api_Pair) : Option (slices_Concat_api_Pair.S ⊕ (List api_Pair)) :=
  if x2_27 < (a0.length : Int) then
    if 0 ≤ x2_27 ∧ x2_27 < (a0.length : Int) then
      if (x2_r0.length + (a0.getD x2_27.toNat []).length) * 16 ≤ 140737488355328 then
        some (.inl (.l2 (IntKind.wrap .i64 (x2_27 + 1)) (x2_r0 ++ (a0.getD x2_27.toNat []))))
      else none
    else none
  else
    some (.inr x2_r0)

noncomputable def slices_Concat_api_Pair.step (a0 : List (List api_Pair)) : slices_Concat_api_Pair.S → Option (slices_Concat_api_Pair.S ⊕ (List api_Pair))
  | .l1 x1_3 x1_11 => slices_Concat_api_Pair.l1 a0 x1_3 x1_11
  | .l2 x2_27 x2_r0 => slices_Concat_api_Pair.l2 a0 x2_27 x2_r0

noncomputable def slices_Concat_api_Pair (a0 : List (List api_Pair)) : Option (List api_Pair) :=
  goLoop (slices_Concat_api_Pair.step a0) (.l1 0 0)

noncomputable def table_Join_1 (a0 : api_Pair) (a1 : api_Pair) : Int :=
  cmp_Compare_int a0.Key a1.Key

noncomputable def table_Join.j1 (a0 : List api_Pair) (a1 : List api_Pair) (y1_14 : Bool) : Option ((List api_Pair) × Int) :=
  if y1_14 = true then
    some (([] : List api_Pair), 1)
  else
    (slices_Concat_api_Pair ([a0, a1] : List (List api_Pair))).bind fun v3 =>
    if v3.length * 16 ≤ 140737488355328 then
      (table_Check (sortL api_Pair.z table_Join_1 v3)).bind fun v4 =>
      if v4 = true then
        some (sortL api_Pair.z table_Join_1 v3, 0)
      else
        some (([] : List api_Pair), 7)
    else none

noncomputable def table_Join (a0 : List api_Pair) (a1 : List api_Pair) : Option ((List api_Pair) × Int) :=
  (table_Check a0).bind fun v1 =>
  if v1 = true then
    (table_Check a1).bind fun v2 =>
    table_Join.j1 a0 a1 (!v2)
  else
    table_Join.j1 a0 a1 true

inductive spliceref05_Join.S where
  | l1 (x1_7 : Int) (x1_8 : Int) (x1_r0 : List spliceref04_Pair)

noncomputable def spliceref05_Join.j4 (a0 : List spliceref04_Pair) (a1 : List spliceref04_Pair) (x1_7 : Int) (x1_8 : Int) (x1_r0 : List spliceref04_Pair) (y4_72 : Bool) : Option (spliceref05_Join.S ⊕ ((List spliceref04_Pair) × Int)) :=
  if y4_72 = true then
    if 0 ≤ x1_7 ∧ x1_7 < (a0.length : Int) then
      if (x1_r0.length + 1) * 16 ≤ 140737488355328 then
        some (.inl (.l1 (IntKind.wrap .i64 (x1_7 + 1)) x1_8 (x1_r0 ++ [a0.getD x1_7.toNat spliceref04_Pair.z])))
      else none
    else none
  else
    if 0 ≤ x1_8 ∧ x1_8 < (a1.length : Int) then
      if (x1_r0.length + 1) * 16 ≤ 140737488355328 then
        some (.inl (.l1 x1_7 (IntKind.wrap .i64 (x1_8 + 1)) (x1_r0 ++ [a1.getD x1_8.toNat spliceref04_Pair.z])))
      else none
    else none

noncomputable def spliceref05_Join.j3 (a0 : List spliceref04_Pair) (a1 : List spliceref04_Pair) (x1_7 : Int) (x1_8 : Int) (x1_r0 : List spliceref04_Pair) (y3_49 : Bool) : Option (spliceref05_Join.S ⊕ ((List spliceref04_Pair) × Int)) :=
  if y3_49 = true then
    some (.inr (([] : List spliceref04_Pair), 7))
  else
    if x1_8 = (a1.length : Int) then
      spliceref05_Join.j4 a0 a1 x1_7 x1_8 x1_r0 true
    else
      if x1_7 < (a0.length : Int) then
        if 0 ≤ x1_7 ∧ x1_7 < (a0.length : Int) then
          if 0 ≤ x1_8 ∧ x1_8 < (a1.length : Int) then
            spliceref05_Join.j4 a0 a1 x1_7 x1_8 x1_r0 (decide (((a0.getD x1_7.toNat spliceref04_Pair.z).Key) < ((a1.getD x1_8.toNat spliceref04_Pair.z).Key)))
          else none
        else none
      else
        spliceref05_Join.j4 a0 a1 x1_7 x1_8 x1_r0 false

noncomputable def spliceref05_Join.j2 (a0 : List spliceref04_Pair) (a1 : List spliceref04_Pair) (x1_7 : Int) (x1_8 : Int) (x1_r0 : List spliceref04_Pair) (y2_26 : Bool) : Option (spliceref05_Join.S ⊕ ((List spliceref04_Pair) × Int)) :=
  if y2_26 = true then
    if x1_7 < (a0.length : Int) then
      if x1_8 < (a1.length : Int) then
        if 0 ≤ x1_7 ∧ x1_7 < (a0.length : Int) then
          if 0 ≤ x1_8 ∧ x1_8 < (a1.length : Int) then
            spliceref05_Join.j3 a0 a1 x1_7 x1_8 x1_r0 (((a0.getD x1_7.toNat spliceref04_Pair.z).Key) == ((a1.getD x1_8.toNat spliceref04_Pair.z).Key))
          else none
        else none
      else
        spliceref05_Join.j3 a0 a1 x1_7 x1_8 x1_r0 false
    else
      spliceref05_Join.j3 a0 a1 x1_7 x1_8 x1_r0 false
  else
    some (.inr (x1_r0, 0))

noncomputable def spliceref05_Join.l1 (a0 : List spliceref04_Pair) (a1 : List spliceref04_Pair) (x1_7 : Int) (x1_8 : Int) (x1_r0 : List spliceref04_Pair) : Option (spliceref05_Join.S ⊕ ((List spliceref04_Pair) × Int)) :=
  if x1_7 < (a0.length : Int) then
    spliceref05_Join.j2 a0 a1 x1_7 x1_8 x1_r0 true
  else
    spliceref05_Join.j2 a0 a1 x1_7 x1_8 x1_r0 (decide (x1_8 < (a1.length : Int)))

noncomputable def spliceref05_Join.step (a0 : List spliceref04_Pair) (a1 : List spliceref04_Pair) : spliceref05_Join.S → Option (spliceref05_Join.S ⊕ ((List spliceref04_Pair) × Int))
  | .l1 x1_7 x1_8 x1_r0 => spliceref05_Join.l1 a0 a1 x1_7 x1_8 x1_r0

noncomputable def spliceref05_Join.j1 (a0 : List spliceref04_Pair) (a1 : List spliceref04_Pair) (y1_16 : Bool) : Option ((List spliceref04_Pair) × Int) :=
  if y1_16 = true then
    some (([] : List spliceref04_Pair), 1)
  else
    goLoop (spliceref05_Join.step a0 a1) (.l1 0 0 ([] : List spliceref04_Pair))

noncomputable def spliceref05_Join (a0 : List spliceref04_Pair) (a1 : List spliceref04_Pair) : Option ((List spliceref04_Pair) × Int) :=
  (spliceref05_Check a0).bind fun v1 =>
  if v1 = true then
    (spliceref05_Check a1).bind fun v2 =>
    spliceref05_Join.j1 a0 a1 (!v2)
  else
    spliceref05_Join.j1 a0 a1 true

inductive table_Clip.S where
  | l1 (x1_18 : Int) (x1_r0 : List api_Pair)

noncomputable def table_Clip.j2 (x1_18 : Int) (y2_r0 : List api_Pair) : Option (table_Clip.S ⊕ (List api_Pair)) :=
  some (.inl (.l1 (IntKind.wrap .i64 (x1_18 + 1)) y2_r0))

noncomputable def table_Clip.l1 (a0 : List api_Pair) (a1 : List api_Span) (x1_18 : Int) (x1_r0 : List api_Pair) : Option (table_Clip.S ⊕ (List api_Pair)) :=
  if x1_18 < (a0.length : Int) then
    if 0 ≤ x1_18 ∧ x1_18 < (a0.length : Int) then
      (span_Has a1 ((a0.getD x1_18.toNat api_Pair.z).Key)).bind fun v3 =>
      if v3 = true then
        if (x1_r0.length + 1) * 16 ≤ 140737488355328 then
          table_Clip.j2 x1_18 (x1_r0 ++ [(a0.getD x1_18.toNat api_Pair.z)])
        else none
      else
        table_Clip.j2 x1_18 x1_r0
    else none
  else
    some (.inr x1_r0)

noncomputable def table_Clip.step (a0 : List api_Pair) (a1 : List api_Span) : table_Clip.S → Option (table_Clip.S ⊕ (List api_Pair))
  | .l1 x1_18 x1_r0 => table_Clip.l1 a0 a1 x1_18 x1_r0

noncomputable def table_Clip.j1 (a0 : List api_Pair) (a1 : List api_Span) (y1_15 : Bool) : Option (List api_Pair) :=
  if y1_15 = true then
    some ([] : List api_Pair)
  else
    goLoop (table_Clip.step a0 a1) (.l1 0 ([] : List api_Pair))

noncomputable def table_Clip (a0 : List api_Pair) (a1 : List api_Span) : Option (List api_Pair) :=
  (table_Check a0).bind fun v1 =>
  if v1 = true then
    (span_Check a1).bind fun v2 =>
    table_Clip.j1 a0 a1 (!v2)
  else
    table_Clip.j1 a0 a1 true

inductive spliceref05_Clip.S where
  | l1 (x1_6 : Int) (x1_r0 : List spliceref04_Pair)

noncomputable def spliceref05_Clip.j2 (x1_6 : Int) (y2_r0 : List spliceref04_Pair) : Option (spliceref05_Clip.S ⊕ (List spliceref04_Pair)) :=
  some (.inl (.l1 (IntKind.wrap .i64 (x1_6 + 1)) y2_r0))

noncomputable def spliceref05_Clip.j1 (a0 : List spliceref04_Pair) (x1_6 : Int) (x1_r0 : List spliceref04_Pair) (y1_27 : Bool) : Option (spliceref05_Clip.S ⊕ (List spliceref04_Pair)) :=
  if y1_27 = true then
    if 0 ≤ x1_6 ∧ x1_6 < (a0.length : Int) then
      if (x1_r0.length + 1) * 16 ≤ 140737488355328 then
        spliceref05_Clip.j2 x1_6 (x1_r0 ++ [a0.getD x1_6.toNat spliceref04_Pair.z])
      else none
    else none
  else
    spliceref05_Clip.j2 x1_6 x1_r0

noncomputable def spliceref05_Clip.l1 (a0 : List spliceref04_Pair) (a1 : List spliceref03_Span) (x1_6 : Int) (x1_r0 : List spliceref04_Pair) : Option (spliceref05_Clip.S ⊕ (List spliceref04_Pair)) :=
  if x1_6 < (a0.length : Int) then
    (spliceref05_Check a0).bind fun v1 =>
    if v1 = true then
      (spliceref03_Check a1).bind fun v2 =>
      if v2 = true then
        if 0 ≤ x1_6 ∧ x1_6 < (a0.length : Int) then
          (spliceref03_Has a1 ((a0.getD x1_6.toNat spliceref04_Pair.z).Key)).bind fun v3 =>
          spliceref05_Clip.j1 a0 x1_6 x1_r0 v3
        else none
      else
        spliceref05_Clip.j1 a0 x1_6 x1_r0 false
    else
      spliceref05_Clip.j1 a0 x1_6 x1_r0 false
  else
    some (.inr x1_r0)

noncomputable def spliceref05_Clip.step (a0 : List spliceref04_Pair) (a1 : List spliceref03_Span) : spliceref05_Clip.S → Option (spliceref05_Clip.S ⊕ (List spliceref04_Pair))
  | .l1 x1_6 x1_r0 => spliceref05_Clip.l1 a0 a1 x1_6 x1_r0

noncomputable def spliceref05_Clip (a0 : List spliceref04_Pair) (a1 : List spliceref03_Span) : Option (List spliceref04_Pair) :=
  goLoop (spliceref05_Clip.step a0 a1) (.l1 0 ([] : List spliceref04_Pair))

noncomputable def splicelaw05_TableClips.j2 (y2_6 : Bool) : Option Bool :=
  some y2_6

noncomputable def splicelaw05_TableClips.j1 (a0 : List api_Pair) (a1 : List api_Pair) (a2 : List api_Span) (y1_21 : Bool) : Option Bool :=
  if y1_21 = true then
    (splicelaw05_awake).bind fun v3 =>
    some v3
  else
    (table_Join a0 a1).bind fun v4 =>
    (splicelaw05_Refs a0).bind fun v5 =>
    (splicelaw05_Refs a1).bind fun v6 =>
    (spliceref05_Join v5 v6).bind fun v7 =>
    (splicelaw05_awake).bind fun v8 =>
    if v8 = true then
      (table_Clip a0 a2).bind fun v9 =>
      (splicelaw05_Refs v9).bind fun v10 =>
      (splicelaw05_Refs a0).bind fun v11 =>
      (splicelaw03_Refs a2).bind fun v12 =>
      (spliceref05_Clip v11 v12).bind fun v13 =>
      (spliceref05_Same v10 v13).bind fun v14 =>
      if v14 = true then
        (splicelaw05_Refs v4.1).bind fun v15 =>
        (spliceref05_Same v15 v7.1).bind fun v16 =>
        if v16 = true then
          splicelaw05_TableClips.j2 (v4.2 == v7.2)
        else
          splicelaw05_TableClips.j2 false
      else
        splicelaw05_TableClips.j2 false
    else
      splicelaw05_TableClips.j2 false

noncomputable def splicelaw05_TableClips (a0 : List api_Pair) (a1 : List api_Pair) (a2 : List api_Span) : Option Bool :=
  bnd (splicelaw05_few a0 (⟨0, 0, 0, [], (⟨0, 0⟩ : api_Span), 0⟩ : api_Mut) a2) fun (v1 : Bool) =>
  if v1 = true then
    bnd (splicelaw05_few a1 (⟨0, 0, 0, [], (⟨0, 0⟩ : api_Span), 0⟩ : api_Mut) ([] : List api_Span)) fun (v2 : Bool) =>
    splicelaw05_TableClips.j1 a0 a1 a2 (!v2)
  else
    splicelaw05_TableClips.j1 a0 a1 a2 true

noncomputable def span_odd (a0 : api_Span) : Bool :=
  (!(span_One a0))

noncomputable def span_Make_1 (a0 : api_Span) (a1 : api_Span) : Int :=
  cmp_Compare_int a0.Lo a1.Lo

noncomputable def span_limited (a0 : List api_Span) : (List api_Span) × Int :=
  if (a0.length : Int) > 64 then
    (([] : List api_Span), 2)
  else
    (a0, 0)

inductive span_Make.S where
  | l1 (x1_16 : Int) (x1_r0 : List api_Span)

noncomputable def span_Make.j1 (a0 : List api_Span) (x1_16 : Int) (x1_r0 : List api_Span) (y1_34 : Bool) : Option (span_Make.S ⊕ ((List api_Span) × Int)) :=
  if y1_34 = true then
    if 0 ≤ (IntKind.wrap .i64 ((x1_r0.length : Int) - 1)) ∧ (IntKind.wrap .i64 ((x1_r0.length : Int) - 1)) < (x1_r0.length : Int) then
      some (.inl (.l1 (IntKind.wrap .i64 (x1_16 + 1)) (x1_r0.set ((IntKind.wrap .i64 ((x1_r0.length : Int) - 1)).toNat) (⟨(x1_r0.getD ((IntKind.wrap .i64 ((x1_r0.length : Int) - 1)).toNat) api_Span.z).Lo, iMax ((x1_r0.getD ((IntKind.wrap .i64 ((x1_r0.length : Int) - 1)).toNat) api_Span.z).Hi) (((sortL api_Span.z span_Make_1 a0).getD x1_16.toNat api_Span.z).Hi)⟩ : api_Span))))
    else none
  else
    if (x1_r0.length + 1) * 16 ≤ 140737488355328 then
      some (.inl (.l1 (IntKind.wrap .i64 (x1_16 + 1)) (x1_r0 ++ [((sortL api_Span.z span_Make_1 a0).getD x1_16.toNat api_Span.z)])))
    else none

noncomputable def span_Make.l1 (a0 : List api_Span) (x1_16 : Int) (x1_r0 : List api_Span) : Option (span_Make.S ⊕ ((List api_Span) × Int)) :=
  if x1_16 < ((sortL api_Span.z span_Make_1 a0).length : Int) then
    if 0 ≤ x1_16 ∧ x1_16 < ((sortL api_Span.z span_Make_1 a0).length : Int) then
      if (IntKind.wrap .i64 ((x1_r0.length : Int) - 1)) ≥ 0 then
        if 0 ≤ (IntKind.wrap .i64 ((x1_r0.length : Int) - 1)) ∧ (IntKind.wrap .i64 ((x1_r0.length : Int) - 1)) < (x1_r0.length : Int) then
          span_Make.j1 a0 x1_16 x1_r0 (decide ((((sortL api_Span.z span_Make_1 a0).getD x1_16.toNat api_Span.z).Lo) ≤ ((x1_r0.getD ((IntKind.wrap .i64 ((x1_r0.length : Int) - 1)).toNat) api_Span.z).Hi)))
        else none
      else
        span_Make.j1 a0 x1_16 x1_r0 false
    else none
  else
    bnd (span_limited x1_r0) fun (v2 : (List api_Span) × Int) =>
    some (.inr (v2.1, v2.2))

noncomputable def span_Make.step (a0 : List api_Span) : span_Make.S → Option (span_Make.S ⊕ ((List api_Span) × Int))
  | .l1 x1_16 x1_r0 => span_Make.l1 a0 x1_16 x1_r0

noncomputable def span_Make (a0 : List api_Span) : Option ((List api_Span) × Int) :=
  (slices_ContainsFunc_api_Span a0 (fun z0 => some (span_odd z0))).bind fun v1 =>
  if v1 = true then
    some (([] : List api_Span), 1)
  else
    if a0.length * 16 ≤ 140737488355328 then
      goLoop (span_Make.step a0) (.l1 0 ([] : List api_Span))
    else none

inductive mut_Touch.S where
  | l1 (x1_20 : Int) (x1_r0 : List api_Span)

noncomputable def mut_Touch.l1 (a0 : api_Mut) (x1_20 : Int) (x1_r0 : List api_Span) : Option (mut_Touch.S ⊕ (List api_Span)) :=
  if x1_20 < (a0.Pairs.length : Int) then
    if 0 ≤ x1_20 ∧ x1_20 < (a0.Pairs.length : Int) then
      if (x1_r0.length + 1) * 16 ≤ 140737488355328 then
        some (.inl (.l1 (IntKind.wrap .i64 (x1_20 + 1)) (x1_r0 ++ [(⟨(a0.Pairs.getD x1_20.toNat api_Pair.z).Key, IntKind.wrap .i64 (((a0.Pairs.getD x1_20.toNat api_Pair.z).Key) + 1)⟩ : api_Span)])))
      else none
    else none
  else
    (span_Make x1_r0).bind fun v2 =>
    some (.inr v2.1)

noncomputable def mut_Touch.step (a0 : api_Mut) : mut_Touch.S → Option (mut_Touch.S ⊕ (List api_Span))
  | .l1 x1_20 x1_r0 => mut_Touch.l1 a0 x1_20 x1_r0

noncomputable def mut_Touch (a0 : api_Mut) : Option (List api_Span) :=
  (mut_Check a0).bind fun v1 =>
  if v1 = true then
    if a0.Kind = 2 then
      some ([a0.Over] : List api_Span)
    else
      goLoop (mut_Touch.step a0) (.l1 0 ([] : List api_Span))
  else
    some ([] : List api_Span)

inductive span_both.S where
  | l1 (x1_13 : Int) (x1_r0 : List api_Span)
  | l2 (x2_13 : Int) (x2_19 : Int) (x2_r0 : List api_Span) (x2_b1_0 : Int) (x2_b1_1 : Int)

noncomputable def span_both.j1 (x2_13 : Int) (x2_19 : Int) (x2_b1_0 : Int) (x2_b1_1 : Int) (y1_r0 : List api_Span) : Option (span_both.S ⊕ (List api_Span)) :=
  some (.inl (.l2 x2_13 (IntKind.wrap .i64 (x2_19 + 1)) y1_r0 x2_b1_0 x2_b1_1))

noncomputable def span_both.l1 (a0 : List api_Span) (x1_13 : Int) (x1_r0 : List api_Span) : Option (span_both.S ⊕ (List api_Span)) :=
  if x1_13 < (a0.length : Int) then
    if 0 ≤ x1_13 ∧ x1_13 < (a0.length : Int) then
      some (.inl (.l2 x1_13 0 x1_r0 ((a0.getD x1_13.toNat api_Span.z).Lo) ((a0.getD x1_13.toNat api_Span.z).Hi)))
    else none
  else
    some (.inr x1_r0)

noncomputable def span_both.l2 (a1 : List api_Span) (x2_13 : Int) (x2_19 : Int) (x2_r0 : List api_Span) (x2_b1_0 : Int) (x2_b1_1 : Int) : Option (span_both.S ⊕ (List api_Span)) :=
  if x2_19 < (a1.length : Int) then
    if 0 ≤ x2_19 ∧ x2_19 < (a1.length : Int) then
      if (iMax x2_b1_0 ((a1.getD x2_19.toNat api_Span.z).Lo)) < (iMin x2_b1_1 ((a1.getD x2_19.toNat api_Span.z).Hi)) then
        if (x2_r0.length + 1) * 16 ≤ 140737488355328 then
          span_both.j1 x2_13 x2_19 x2_b1_0 x2_b1_1 (x2_r0 ++ [(⟨iMax x2_b1_0 ((a1.getD x2_19.toNat api_Span.z).Lo), iMin x2_b1_1 ((a1.getD x2_19.toNat api_Span.z).Hi)⟩ : api_Span)])
        else none
      else
        span_both.j1 x2_13 x2_19 x2_b1_0 x2_b1_1 x2_r0
    else none
  else
    some (.inl (.l1 (IntKind.wrap .i64 (x2_13 + 1)) x2_r0))

noncomputable def span_both.step (a0 : List api_Span) (a1 : List api_Span) : span_both.S → Option (span_both.S ⊕ (List api_Span))
  | .l1 x1_13 x1_r0 => span_both.l1 a0 x1_13 x1_r0
  | .l2 x2_13 x2_19 x2_r0 x2_b1_0 x2_b1_1 => span_both.l2 a1 x2_13 x2_19 x2_r0 x2_b1_0 x2_b1_1

noncomputable def span_both (a0 : List api_Span) (a1 : List api_Span) : Option (List api_Span) :=
  goLoop (span_both.step a0 a1) (.l1 0 ([] : List api_Span))

noncomputable def span_Touch.j1 (y1_4 : Bool) : Option Bool :=
  some y1_4

noncomputable def span_Touch (a0 : List api_Span) (a1 : List api_Span) : Option Bool :=
  (span_Check a0).bind fun v1 =>
  if v1 = true then
    (span_Check a1).bind fun v2 =>
    if v2 = true then
      (span_both a0 a1).bind fun v3 =>
      span_Touch.j1 (decide ((v3.length : Int) > 0))
    else
      span_Touch.j1 false
  else
    span_Touch.j1 false

noncomputable def splicelaw05_TableNone.j2 (y2_6 : Bool) : Option Bool :=
  some y2_6

noncomputable def splicelaw05_TableNone.j1 (a0 : List api_Pair) (a1 : api_Mut) (a2 : List api_Span) (y1_35 : Bool) : Option Bool :=
  if y1_35 = true then
    (splicelaw05_awake).bind fun v7 =>
    some v7
  else
    (table_Apply a0 a1 a2).bind fun v8 =>
    (splicelaw05_awake).bind fun v9 =>
    if v9 = true then
      if v8.2 = true then
        (splicelaw05_Refs v8.1).bind fun v10 =>
        (splicelaw05_Refs a0).bind fun v11 =>
        (spliceref05_Same v10 v11).bind fun v12 =>
        splicelaw05_TableNone.j2 v12
      else
        splicelaw05_TableNone.j2 false
    else
      splicelaw05_TableNone.j2 false

noncomputable def splicelaw05_TableNone (a0 : List api_Pair) (a1 : api_Mut) (a2 : List api_Span) : Option Bool :=
  if (splicelaw05_few a0 a1 a2) = true then
    (table_Check a0).bind fun v1 =>
    if v1 = true then
      (mut_Check a1).bind fun v2 =>
      if v2 = true then
        (splicelaw03_Refs a2).bind fun v3 =>
        (spliceref03_Check v3).bind fun v4 =>
        if v4 = true then
          (mut_Touch a1).bind fun v5 =>
          (span_Touch v5 a2).bind fun v6 =>
          splicelaw05_TableNone.j1 a0 a1 a2 v6
        else
          splicelaw05_TableNone.j1 a0 a1 a2 true
      else
        splicelaw05_TableNone.j1 a0 a1 a2 true
    else
      splicelaw05_TableNone.j1 a0 a1 a2 true
  else
    splicelaw05_TableNone.j1 a0 a1 a2 true

noncomputable def splicelaw05_TableFar.j2 (y2_6 : Bool) : Option Bool :=
  some y2_6

noncomputable def splicelaw05_TableFar.j1 (a0 : List api_Pair) (a1 : api_Mut) (a2 : api_Mut) (y1_48 : Bool) : Option Bool :=
  if y1_48 = true then
    (splicelaw05_awake).bind fun v7 =>
    some v7
  else
    (table_Apply a0 a1 ([(⟨0, 4096⟩ : api_Span)] : List api_Span)).bind fun v8 =>
    (table_Apply v8.1 a2 ([(⟨0, 4096⟩ : api_Span)] : List api_Span)).bind fun v9 =>
    (table_Apply a0 a2 ([(⟨0, 4096⟩ : api_Span)] : List api_Span)).bind fun v10 =>
    (table_Apply v10.1 a1 ([(⟨0, 4096⟩ : api_Span)] : List api_Span)).bind fun v11 =>
    (splicelaw05_awake).bind fun v12 =>
    if v12 = true then
      if v8.2 = true then
        if v11.2 = true then
          if v9.2 = true then
            if v10.2 = true then
              (splicelaw05_Refs v9.1).bind fun v13 =>
              (splicelaw05_Refs v11.1).bind fun v14 =>
              (spliceref05_Same v13 v14).bind fun v15 =>
              splicelaw05_TableFar.j2 v15
            else
              splicelaw05_TableFar.j2 false
          else
            if v10.2 = true then
              splicelaw05_TableFar.j2 false
            else
              (splicelaw05_Refs v9.1).bind fun v16 =>
              (splicelaw05_Refs v11.1).bind fun v17 =>
              (spliceref05_Same v16 v17).bind fun v18 =>
              splicelaw05_TableFar.j2 v18
        else
          splicelaw05_TableFar.j2 false
      else
        if v11.2 = true then
          splicelaw05_TableFar.j2 false
        else
          if v9.2 = true then
            if v10.2 = true then
              (splicelaw05_Refs v9.1).bind fun v19 =>
              (splicelaw05_Refs v11.1).bind fun v20 =>
              (spliceref05_Same v19 v20).bind fun v21 =>
              splicelaw05_TableFar.j2 v21
            else
              splicelaw05_TableFar.j2 false
          else
            if v10.2 = true then
              splicelaw05_TableFar.j2 false
            else
              (splicelaw05_Refs v9.1).bind fun v22 =>
              (splicelaw05_Refs v11.1).bind fun v23 =>
              (spliceref05_Same v22 v23).bind fun v24 =>
              splicelaw05_TableFar.j2 v24
    else
      splicelaw05_TableFar.j2 false

noncomputable def splicelaw05_TableFar (a0 : List api_Pair) (a1 : api_Mut) (a2 : api_Mut) : Option Bool :=
  if (splicelaw05_few a0 a1 ([] : List api_Span)) = true then
    if (splicelaw05_few ([] : List api_Pair) a2 ([] : List api_Span)) = true then
      (table_Check a0).bind fun v1 =>
      if v1 = true then
        (mut_Check a1).bind fun v2 =>
        if v2 = true then
          (mut_Check a2).bind fun v3 =>
          if v3 = true then
            (mut_Touch a1).bind fun v4 =>
            (mut_Touch a2).bind fun v5 =>
            (span_Touch v4 v5).bind fun v6 =>
            splicelaw05_TableFar.j1 a0 a1 a2 v6
          else
            splicelaw05_TableFar.j1 a0 a1 a2 true
        else
          splicelaw05_TableFar.j1 a0 a1 a2 true
      else
        splicelaw05_TableFar.j1 a0 a1 a2 true
    else
      splicelaw05_TableFar.j1 a0 a1 a2 true
  else
    splicelaw05_TableFar.j1 a0 a1 a2 true

inductive span_beyond.S where
  | l1 (x1_4 : Int) (x1_9 : Int) (x1_r0 : List api_Span)

noncomputable def span_beyond.j2 (a0 : List api_Span) (x1_9 : Int) (y2_r0 : List api_Span) : Option (span_beyond.S ⊕ (List api_Span)) :=
  some (.inl (.l1 ((a0.getD x1_9.toNat api_Span.z).Hi) (IntKind.wrap .i64 (x1_9 + 1)) y2_r0))

noncomputable def span_beyond.j1 (y1_r0 : List api_Span) : Option (span_beyond.S ⊕ (List api_Span)) :=
  some (.inr y1_r0)

noncomputable def span_beyond.l1 (a0 : List api_Span) (x1_4 : Int) (x1_9 : Int) (x1_r0 : List api_Span) : Option (span_beyond.S ⊕ (List api_Span)) :=
  if x1_9 < (a0.length : Int) then
    if 0 ≤ x1_9 ∧ x1_9 < (a0.length : Int) then
      if x1_4 < ((a0.getD x1_9.toNat api_Span.z).Lo) then
        if (x1_r0.length + 1) * 16 ≤ 140737488355328 then
          span_beyond.j2 a0 x1_9 (x1_r0 ++ [(⟨x1_4, (a0.getD x1_9.toNat api_Span.z).Lo⟩ : api_Span)])
        else none
      else
        span_beyond.j2 a0 x1_9 x1_r0
    else none
  else
    if x1_4 < 4096 then
      if (x1_r0.length + 1) * 16 ≤ 140737488355328 then
        span_beyond.j1 (x1_r0 ++ [(⟨x1_4, 4096⟩ : api_Span)])
      else none
    else
      span_beyond.j1 x1_r0

noncomputable def span_beyond.step (a0 : List api_Span) : span_beyond.S → Option (span_beyond.S ⊕ (List api_Span))
  | .l1 x1_4 x1_9 x1_r0 => span_beyond.l1 a0 x1_4 x1_9 x1_r0

noncomputable def span_beyond (a0 : List api_Span) : Option (List api_Span) :=
  goLoop (span_beyond.step a0) (.l1 0 0 ([] : List api_Span))

noncomputable def span_Less.j1 (a0 : List api_Span) (a1 : List api_Span) (y1_13 : Bool) : Option ((List api_Span) × Int) :=
  if y1_13 = true then
    some (([] : List api_Span), 1)
  else
    (span_beyond a1).bind fun v3 =>
    (span_both a0 v3).bind fun v4 =>
    bnd (span_limited v4) fun (v5 : (List api_Span) × Int) =>
    some (v5.1, v5.2)

noncomputable def span_Less (a0 : List api_Span) (a1 : List api_Span) : Option ((List api_Span) × Int) :=
  (span_Check a0).bind fun v1 =>
  if v1 = true then
    (span_Check a1).bind fun v2 =>
    span_Less.j1 a0 a1 (!v2)
  else
    span_Less.j1 a0 a1 true

noncomputable def splicelaw05_TableParts.j2 (y2_6 : Bool) : Option Bool :=
  some y2_6

noncomputable def splicelaw05_TableParts.j1 (a0 : List api_Pair) (a1 : api_Mut) (a2 : List api_Span) (v1 : (List api_Span) × Int) (y1_44 : Bool) : Option Bool :=
  if y1_44 = true then
    (splicelaw05_awake).bind fun v4 =>
    some v4
  else
    (table_Apply a0 a1 ([(⟨0, 4096⟩ : api_Span)] : List api_Span)).bind fun v5 =>
    (table_Clip a0 a2).bind fun v6 =>
    (table_Apply v6 a1 a2).bind fun v7 =>
    (table_Clip a0 v1.1).bind fun v8 =>
    (table_Apply v8 a1 v1.1).bind fun v9 =>
    (table_Join v7.1 v9.1).bind fun v10 =>
    (splicelaw05_awake).bind fun v11 =>
    if v11 = true then
      if v10.2 = 0 then
        (splicelaw05_Refs v10.1).bind fun v12 =>
        (splicelaw05_Refs v5.1).bind fun v13 =>
        (spliceref05_Same v12 v13).bind fun v14 =>
        if v14 = true then
          if v7.2 = true then
            splicelaw05_TableParts.j2 (v5.2 == v9.2)
          else
            splicelaw05_TableParts.j2 (v5.2 == false)
        else
          splicelaw05_TableParts.j2 false
      else
        splicelaw05_TableParts.j2 false
    else
      splicelaw05_TableParts.j2 false

noncomputable def splicelaw05_TableParts (a0 : List api_Pair) (a1 : api_Mut) (a2 : List api_Span) : Option Bool :=
  (span_Less ([(⟨0, 4096⟩ : api_Span)] : List api_Span) a2).bind fun v1 =>
  if (splicelaw05_few a0 a1 a2) = true then
    (table_Check a0).bind fun v2 =>
    if v2 = true then
      (mut_Check a1).bind fun v3 =>
      if v3 = true then
        splicelaw05_TableParts.j1 a0 a1 a2 v1 (v1.2 != 0)
      else
        splicelaw05_TableParts.j1 a0 a1 a2 v1 true
    else
      splicelaw05_TableParts.j1 a0 a1 a2 v1 true
  else
    splicelaw05_TableParts.j1 a0 a1 a2 v1 true
end Go.SyP
