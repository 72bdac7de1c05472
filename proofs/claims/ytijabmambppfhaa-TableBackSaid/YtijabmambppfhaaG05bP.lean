/- Plain functions, printed by gen.py. -/
import Derived.Test.YtijabmambppfhaaSyStr2
set_option linter.unusedVariables false
namespace Go.SyP
open Go Go.Sy

structure api_Pair where
  Key : Int
  Val : Int
def api_Pair.z : api_Pair := ⟨0, 0⟩
structure api_Span where
  Lo : Int
  Hi : Int
def api_Span.z : api_Span := ⟨0, 0⟩
structure api_Mut where
  Client : Int
  Seq : Int
  Kind : Int
  Pairs : List api_Pair
  Over : api_Span
  Old : Int
def api_Mut.z : api_Mut := ⟨0, 0, 0, [], api_Span.z, 0⟩
structure vint_Reader where
  s : ByteArray
  e_ : Int
def vint_Reader.z : vint_Reader := ⟨sZ, 0⟩
structure spliceref01_Reader where
  S : ByteArray
  E : Int
def spliceref01_Reader.z : spliceref01_Reader := ⟨sZ, 0⟩
structure spliceref04_Pair where
  Key : Int
  Val : Int
def spliceref04_Pair.z : spliceref04_Pair := ⟨0, 0⟩

noncomputable def splicelaw05_few.j1 (y1_6 : Bool) : Bool :=
  y1_6

noncomputable def splicelaw05_few (a0 : List api_Pair) (a1 : api_Mut) (a2 : List api_Span) : Bool :=
  if (a0.length : Int) ≤ 200 then
    if (a1.Pairs.length : Int) ≤ 100 then
      splicelaw05_few.j1 (decide ((a2.length : Int) ≤ 100))
    else
      splicelaw05_few.j1 false
  else
    splicelaw05_few.j1 false

inductive table_Check.S where
  | l1 (x1_7 : Int)

noncomputable def table_Check.j1 (x1_7 : Int) (y1_44 : Bool) : Option (table_Check.S ⊕ Bool) :=
  if y1_44 = true then
    some (.inr false)
  else
    some (.inl (.l1 (IntKind.wrap .i64 (x1_7 + 1))))

noncomputable def table_Check.l1 (a0 : List api_Pair) (x1_7 : Int) : Option (table_Check.S ⊕ Bool) :=
  if x1_7 < (a0.length : Int) then
    if 0 ≤ x1_7 ∧ x1_7 < (a0.length : Int) then
      if ((a0.getD x1_7.toNat api_Pair.z).Key) < 0 then
        table_Check.j1 x1_7 true
      else
        if ((a0.getD x1_7.toNat api_Pair.z).Key) ≥ 4096 then
          table_Check.j1 x1_7 true
        else
          if ((a0.getD x1_7.toNat api_Pair.z).Val) < (-1099511627776) then
            table_Check.j1 x1_7 true
          else
            if ((a0.getD x1_7.toNat api_Pair.z).Val) > 1099511627776 then
              table_Check.j1 x1_7 true
            else
              if x1_7 > 0 then
                if 0 ≤ (IntKind.wrap .i64 (x1_7 - 1)) ∧ (IntKind.wrap .i64 (x1_7 - 1)) < (a0.length : Int) then
                  table_Check.j1 x1_7 (decide (((a0.getD ((IntKind.wrap .i64 (x1_7 - 1)).toNat) api_Pair.z).Key) ≥ ((a0.getD x1_7.toNat api_Pair.z).Key)))
                else none
              else
                table_Check.j1 x1_7 false
    else none
  else
    some (.inr true)

noncomputable def table_Check.step (a0 : List api_Pair) : table_Check.S → Option (table_Check.S ⊕ Bool)
  | .l1 x1_7 => table_Check.l1 a0 x1_7

noncomputable def table_Check (a0 : List api_Pair) : Option Bool :=
  goLoop (table_Check.step a0) (.l1 0)

inductive slices_IndexFunc_api_Pair.S where
  | l1 (x1_8 : Int)

noncomputable def slices_IndexFunc_api_Pair.l1 (a0 : List api_Pair) (p1 : api_Pair → Option Bool) (x1_8 : Int) : Option (slices_IndexFunc_api_Pair.S ⊕ Int) :=
  if x1_8 < (a0.length : Int) then
    if 0 ≤ x1_8 ∧ x1_8 < (a0.length : Int) then
      (p1 (a0.getD x1_8.toNat api_Pair.z)).bind fun v1 =>
      if v1 = true then
        some (.inr x1_8)
      else
        some (.inl (.l1 (IntKind.wrap .i64 (x1_8 + 1))))
    else none
  else
    some (.inr (-1))

noncomputable def slices_IndexFunc_api_Pair.step (a0 : List api_Pair) (p1 : api_Pair → Option Bool) : slices_IndexFunc_api_Pair.S → Option (slices_IndexFunc_api_Pair.S ⊕ Int)
  | .l1 x1_8 => slices_IndexFunc_api_Pair.l1 a0 p1 x1_8

noncomputable def slices_IndexFunc_api_Pair (a0 : List api_Pair) (p1 : api_Pair → Option Bool) : Option Int :=
  goLoop (slices_IndexFunc_api_Pair.step a0 p1) (.l1 0)

noncomputable def slices_ContainsFunc_api_Pair (a0 : List api_Pair) (p1 : api_Pair → Option Bool) : Option Bool :=
  (slices_IndexFunc_api_Pair a0 p1).bind fun v1 =>
  some (decide (v1 ≥ 0))

noncomputable def mut_value.j1 (y1_2 : Bool) : Bool :=
  y1_2

noncomputable def mut_value (a0 : Int) : Bool :=
  if a0 ≥ (-1099511627776) then
    mut_value.j1 (decide (a0 ≤ 1099511627776))
  else
    mut_value.j1 false

noncomputable def mut_pair.j1 (y1_2 : Bool) : Bool :=
  y1_2

noncomputable def mut_pair (a0 : api_Pair) : Bool :=
  if a0.Key ≥ 0 then
    if a0.Key < 4096 then
      mut_pair.j1 (mut_value a0.Val)
    else
      mut_pair.j1 false
  else
    mut_pair.j1 false

noncomputable def mut_pairs_1 (a0 : api_Pair) : Bool :=
  (!(mut_pair a0))

noncomputable def mut_pairs.j1 (y1_6 : Bool) : Option Bool :=
  some y1_6

noncomputable def mut_pairs (a0 : api_Mut) (a1 : Int) (a2 : Int) : Option Bool :=
  if (a0.Pairs.length : Int) ≥ a1 then
    if (a0.Pairs.length : Int) ≤ a2 then
      (slices_ContainsFunc_api_Pair a0.Pairs (fun z0 => some (mut_pairs_1 z0))).bind fun v1 =>
      mut_pairs.j1 (!v1)
    else
      mut_pairs.j1 false
  else
    mut_pairs.j1 false

inductive mut_rising.S where
  | l1 (x1_3 : Int)

noncomputable def mut_rising.l1 (a0 : List api_Pair) (x1_3 : Int) : Option (mut_rising.S ⊕ Bool) :=
  if x1_3 < (a0.length : Int) then
    if 0 ≤ (IntKind.wrap .i64 (x1_3 - 1)) ∧ (IntKind.wrap .i64 (x1_3 - 1)) < (a0.length : Int) then
      if 0 ≤ x1_3 ∧ x1_3 < (a0.length : Int) then
        if ((a0.getD ((IntKind.wrap .i64 (x1_3 - 1)).toNat) api_Pair.z).Key) ≥ ((a0.getD x1_3.toNat api_Pair.z).Key) then
          some (.inr false)
        else
          some (.inl (.l1 (IntKind.wrap .i64 (x1_3 + 1))))
      else none
    else none
  else
    some (.inr true)

noncomputable def mut_rising.step (a0 : List api_Pair) : mut_rising.S → Option (mut_rising.S ⊕ Bool)
  | .l1 x1_3 => mut_rising.l1 a0 x1_3

noncomputable def mut_rising (a0 : List api_Pair) : Option Bool :=
  goLoop (mut_rising.step a0) (.l1 1)

noncomputable def span_One.j1 (y1_2 : Bool) : Bool :=
  y1_2

noncomputable def span_One (a0 : api_Span) : Bool :=
  if a0.Lo ≥ 0 then
    if a0.Lo < a0.Hi then
      span_One.j1 (decide (a0.Hi ≤ 4096))
    else
      span_One.j1 false
  else
    span_One.j1 false

noncomputable def mut_kind.j2 (y2_2 : Bool) : Option Bool :=
  some y2_2

noncomputable def mut_kind.j3 (y3_2 : Bool) : Option Bool :=
  some y3_2

noncomputable def mut_kind.j4 (y4_2 : Bool) : Option Bool :=
  some y4_2

noncomputable def mut_kind.j5 (y5_2 : Bool) : Option Bool :=
  some y5_2

noncomputable def mut_kind.j1 (a0 : api_Mut) (y1_23 : Bool) : Option Bool :=
  if y1_23 = true then
    some false
  else
    if a0.Kind = 1 then
      (mut_pairs a0 1 8).bind fun v1 =>
      if v1 = true then
        (mut_rising a0.Pairs).bind fun v2 =>
        mut_kind.j2 v2
      else
        mut_kind.j2 false
    else
      if a0.Kind = 2 then
        if (a0.Pairs.length : Int) = 0 then
          mut_kind.j3 (span_One a0.Over)
        else
          mut_kind.j3 false
      else
        if a0.Kind = 3 then
          (mut_pairs a0 1 1).bind fun v3 =>
          some v3
        else
          if a0.Kind = 4 then
            (mut_pairs a0 1 1).bind fun v4 =>
            if v4 = true then
              if (mut_value a0.Old) = true then
                mut_kind.j4 true
              else
                mut_kind.j4 (a0.Old == 1099511627777)
            else
              mut_kind.j4 false
          else
            if a0.Kind = 5 then
              (mut_pairs a0 2 2).bind fun v5 =>
              if v5 = true then
                if (0 : Int) ≤ 0 ∧ 0 < (a0.Pairs.length : Int) then
                  if (0 : Int) ≤ 1 ∧ 1 < (a0.Pairs.length : Int) then
                    if ((a0.Pairs.getD 0 api_Pair.z).Key) = ((a0.Pairs.getD 1 api_Pair.z).Key) then
                      mut_kind.j5 false
                    else
                      if ((a0.Pairs.getD 0 api_Pair.z).Val) = ((a0.Pairs.getD 1 api_Pair.z).Val) then
                        mut_kind.j5 (decide (((a0.Pairs.getD 0 api_Pair.z).Val) ≥ 0))
                      else
                        mut_kind.j5 false
                  else none
                else none
              else
                mut_kind.j5 false
            else
              some false

noncomputable def mut_kind (a0 : api_Mut) : Option Bool :=
  if a0.Kind = 2 then
    if a0.Kind = 4 then
      mut_kind.j1 a0 false
    else
      mut_kind.j1 a0 (a0.Old != 0)
  else
    if a0.Over.Lo = 0 then
      if a0.Over.Hi = 0 then
        if a0.Kind = 4 then
          mut_kind.j1 a0 false
        else
          mut_kind.j1 a0 (a0.Old != 0)
      else
        mut_kind.j1 a0 true
    else
      if a0.Over.Hi = 0 then
        mut_kind.j1 a0 true
      else
        mut_kind.j1 a0 true

noncomputable def mut_Check.j1 (y1_2 : Bool) : Option Bool :=
  some y1_2

noncomputable def mut_Check (a0 : api_Mut) : Option Bool :=
  if a0.Client ≥ 1 then
    if a0.Client ≤ 1048576 then
      if a0.Seq ≥ 1 then
        if a0.Seq ≤ 1073741824 then
          (mut_kind a0).bind fun v1 =>
          mut_Check.j1 v1
        else
          mut_Check.j1 false
      else
        mut_Check.j1 false
    else
      mut_Check.j1 false
  else
    mut_Check.j1 false

inductive span_Check.S where
  | l1 (x1_7 : Int)

noncomputable def span_Check.j1 (x1_7 : Int) (y1_29 : Bool) : Option (span_Check.S ⊕ Bool) :=
  if y1_29 = true then
    some (.inr false)
  else
    some (.inl (.l1 (IntKind.wrap .i64 (x1_7 + 1))))

noncomputable def span_Check.l1 (a0 : List api_Span) (x1_7 : Int) : Option (span_Check.S ⊕ Bool) :=
  if x1_7 < (a0.length : Int) then
    if 0 ≤ x1_7 ∧ x1_7 < (a0.length : Int) then
      if (span_One (a0.getD x1_7.toNat api_Span.z)) = true then
        if x1_7 > 0 then
          if 0 ≤ (IntKind.wrap .i64 (x1_7 - 1)) ∧ (IntKind.wrap .i64 (x1_7 - 1)) < (a0.length : Int) then
            span_Check.j1 x1_7 (decide (((a0.getD x1_7.toNat api_Span.z).Lo) ≤ ((a0.getD ((IntKind.wrap .i64 (x1_7 - 1)).toNat) api_Span.z).Hi)))
          else none
        else
          span_Check.j1 x1_7 false
      else
        span_Check.j1 x1_7 true
    else none
  else
    some (.inr (decide ((a0.length : Int) ≤ 64)))

noncomputable def span_Check.step (a0 : List api_Span) : span_Check.S → Option (span_Check.S ⊕ Bool)
  | .l1 x1_7 => span_Check.l1 a0 x1_7

noncomputable def span_Check (a0 : List api_Span) : Option Bool :=
  goLoop (span_Check.step a0) (.l1 0)

inductive slices_DeleteFunc_api_Pair.S where
  | l1 (x1_5 : Int) (x1_6 : Int) (x1_r1 : List api_Pair)

noncomputable def slices_DeleteFunc_api_Pair.j1 (x1_6 : Int) (y1_5 : Int) (y1_r1 : List api_Pair) : Option (slices_DeleteFunc_api_Pair.S ⊕ (List api_Pair)) :=
  some (.inl (.l1 y1_5 (IntKind.wrap .i64 (x1_6 + 1)) y1_r1))

noncomputable def slices_DeleteFunc_api_Pair.l1 (p1 : api_Pair → Option Bool) (x1_5 : Int) (x1_6 : Int) (x1_r1 : List api_Pair) : Option (slices_DeleteFunc_api_Pair.S ⊕ (List api_Pair)) :=
  if x1_6 < (x1_r1.length : Int) then
    if 0 ≤ x1_6 ∧ x1_6 < (x1_r1.length : Int) then
      (p1 (x1_r1.getD x1_6.toNat api_Pair.z)).bind fun v2 =>
      if v2 = true then
        slices_DeleteFunc_api_Pair.j1 x1_6 x1_5 x1_r1
      else
        if 0 ≤ x1_5 ∧ x1_5 < (x1_r1.length : Int) then
          slices_DeleteFunc_api_Pair.j1 x1_6 (IntKind.wrap .i64 (x1_5 + 1)) (x1_r1.set x1_5.toNat (x1_r1.getD x1_6.toNat api_Pair.z))
        else none
    else none
  else
    if 0 ≤ x1_5 ∧ x1_5 ≤ (x1_r1.length : Int) then
      some (.inr (x1_r1.take x1_5.toNat))
    else none

noncomputable def slices_DeleteFunc_api_Pair.step (p1 : api_Pair → Option Bool) : slices_DeleteFunc_api_Pair.S → Option (slices_DeleteFunc_api_Pair.S ⊕ (List api_Pair))
  | .l1 x1_5 x1_6 x1_r1 => slices_DeleteFunc_api_Pair.l1 p1 x1_5 x1_6 x1_r1

noncomputable def slices_DeleteFunc_api_Pair (a0 : List api_Pair) (p1 : api_Pair → Option Bool) : Option (List api_Pair) :=
  (slices_IndexFunc_api_Pair a0 p1).bind fun v1 =>
  if v1 = (-1) then
    some a0
  else
    goLoop (slices_DeleteFunc_api_Pair.step p1) (.l1 v1 (IntKind.wrap .i64 (v1 + 1)) a0)

inductive slices_IndexFunc_api_Span.S where
  | l1 (x1_8 : Int)

noncomputable def slices_IndexFunc_api_Span.l1 (a0 : List api_Span) (p1 : api_Span → Option Bool) (x1_8 : Int) : Option (slices_IndexFunc_api_Span.S ⊕ Int) :=
  if x1_8 < (a0.length : Int) then
    if 0 ≤ x1_8 ∧ x1_8 < (a0.length : Int) then
      (p1 (a0.getD x1_8.toNat api_Span.z)).bind fun v1 =>
      if v1 = true then
        some (.inr x1_8)
      else
        some (.inl (.l1 (IntKind.wrap .i64 (x1_8 + 1))))
    else none
  else
    some (.inr (-1))

noncomputable def slices_IndexFunc_api_Span.step (a0 : List api_Span) (p1 : api_Span → Option Bool) : slices_IndexFunc_api_Span.S → Option (slices_IndexFunc_api_Span.S ⊕ Int)
  | .l1 x1_8 => slices_IndexFunc_api_Span.l1 a0 p1 x1_8

noncomputable def slices_IndexFunc_api_Span (a0 : List api_Span) (p1 : api_Span → Option Bool) : Option Int :=
  goLoop (slices_IndexFunc_api_Span.step a0 p1) (.l1 0)

noncomputable def slices_ContainsFunc_api_Span (a0 : List api_Span) (p1 : api_Span → Option Bool) : Option Bool :=
  (slices_IndexFunc_api_Span a0 p1).bind fun v1 =>
  some (decide (v1 ≥ 0))

noncomputable def span_Has_1.j1 (y1_3 : Bool) : Bool :=
  y1_3

noncomputable def span_Has_1 (a0 : api_Span) (k0 : Int) : Bool :=
  if (span_One a0) = true then
    if k0 ≥ a0.Lo then
      span_Has_1.j1 (decide (k0 < a0.Hi))
    else
      span_Has_1.j1 false
  else
    span_Has_1.j1 false

noncomputable def span_Has (a0 : List api_Span) (a1 : Int) : Option Bool :=
  (slices_ContainsFunc_api_Span a0 (fun z0 => some (span_Has_1 z0 a1))).bind fun v1 =>
  some v1

noncomputable def table_cut_1.j1 (y1_4 : Bool) : Option Bool :=
  some y1_4

noncomputable def table_cut_1 (a0 : api_Pair) (k0 : api_Span) (k1 : List api_Span) : Option Bool :=
  if a0.Key ≥ k0.Lo then
    if a0.Key < k0.Hi then
      (span_Has k1 a0.Key).bind fun v1 =>
      table_cut_1.j1 v1
    else
      table_cut_1.j1 false
  else
    table_cut_1.j1 false

noncomputable def table_cut (a0 : List api_Pair) (a1 : api_Span) (a2 : List api_Span) : Option (List api_Pair) :=
  (slices_DeleteFunc_api_Pair a0 (fun z0 => table_cut_1 z0 a1 a2)).bind fun v1 =>
  some v1

noncomputable def mut_Alone.j1 (y1_2 : Bool) : Option Bool :=
  some y1_2

noncomputable def mut_Alone (a0 : api_Mut) : Option Bool :=
  (mut_Check a0).bind fun v1 =>
  if v1 = true then
    if a0.Kind = 3 then
      mut_Alone.j1 true
    else
      mut_Alone.j1 (a0.Kind == 4)
  else
    mut_Alone.j1 false

inductive slices_BinarySearchFunc_int.S where
  | l1 (x1_9 : Int) (x1_10 : Int)

noncomputable def slices_BinarySearchFunc_int.j1 (x1_9 : Int) (y1_7 : Bool) : Option (slices_BinarySearchFunc_int.S ⊕ (Int × Bool)) :=
  some (.inr (x1_9, y1_7))

noncomputable def slices_BinarySearchFunc_int.l1 (a0 : List api_Pair) (a1 : Int) (p2 : api_Pair → Int → Option Int) (x1_9 : Int) (x1_10 : Int) : Option (slices_BinarySearchFunc_int.S ⊕ (Int × Bool)) :=
  if x1_9 < x1_10 then
    bnd (IntKind.wrap .i64 (Int.fdiv (IntKind.wrap .u64 (IntKind.wrap .i64 (x1_9 + x1_10))) 2)) fun (v2 : Int) =>
    if 0 ≤ v2 ∧ v2 < (a0.length : Int) then
      (p2 (a0.getD v2.toNat api_Pair.z) a1).bind fun v3 =>
      if v3 < 0 then
        some (.inl (.l1 (IntKind.wrap .i64 (v2 + 1)) x1_10))
      else
        some (.inl (.l1 x1_9 v2))
    else none
  else
    if x1_9 < (a0.length : Int) then
      if 0 ≤ x1_9 ∧ x1_9 < (a0.length : Int) then
        (p2 (a0.getD x1_9.toNat api_Pair.z) a1).bind fun v1 =>
        slices_BinarySearchFunc_int.j1 x1_9 (v1 == 0)
      else none
    else
      slices_BinarySearchFunc_int.j1 x1_9 false

noncomputable def slices_BinarySearchFunc_int.step (a0 : List api_Pair) (a1 : Int) (p2 : api_Pair → Int → Option Int) : slices_BinarySearchFunc_int.S → Option (slices_BinarySearchFunc_int.S ⊕ (Int × Bool))
  | .l1 x1_9 x1_10 => slices_BinarySearchFunc_int.l1 a0 a1 p2 x1_9 x1_10

noncomputable def slices_BinarySearchFunc_int (a0 : List api_Pair) (a1 : Int) (p2 : api_Pair → Int → Option Int) : Option (Int × Bool) :=
  goLoop (slices_BinarySearchFunc_int.step a0 a1 p2) (.l1 0 (a0.length : Int))

noncomputable def cmp_isNaN_int (a0 : Int) : Bool :=
  (a0 != a0)

noncomputable def cmp_Compare_int (a0 : Int) (a1 : Int) : Int :=
  if (cmp_isNaN_int a0) = true then
    if (cmp_isNaN_int a1) = true then
      0
    else
      (-1)
  else
    if (cmp_isNaN_int a1) = true then
      1
    else
      if a0 < a1 then
        (-1)
      else
        if a0 > a1 then
          1
        else
          0

noncomputable def table_find_1 (a0 : api_Pair) (a1 : Int) : Int :=
  cmp_Compare_int a0.Key a1

noncomputable def table_find (a0 : List api_Pair) (a1 : Int) : Option (Int × Bool) :=
  (slices_BinarySearchFunc_int a0 a1 (fun z0 z1 => some (table_find_1 z0 z1))).bind fun v1 =>
  some (v1.1, v1.2)

noncomputable def table_get (a0 : List api_Pair) (a1 : Int) : Option (Int × Bool) :=
  (table_find a0 a1).bind fun v1 =>
  if v1.2 = true then
    if 0 ≤ v1.1 ∧ v1.1 < (a0.length : Int) then
      some ((a0.getD v1.1.toNat api_Pair.z).Val, true)
    else none
  else
    some (0, false)

noncomputable def table_put (a0 : List api_Pair) (a1 : Int) (a2 : Int) : Option (List api_Pair) :=
  (table_find a0 a1).bind fun v1 =>
  if v1.2 = true then
    if 0 ≤ v1.1 ∧ v1.1 < (a0.length : Int) then
      some (a0.set v1.1.toNat (⟨(a0.getD v1.1.toNat api_Pair.z).Key, a2⟩ : api_Pair))
    else none
  else
    if (0 ≤ v1.1 ∧ v1.1 ≤ (a0.length : Int)) ∧ (a0.length + 1) * 16 ≤ 140737488355328 then
      some (a0.take v1.1.toNat ++ (⟨a1, a2⟩ : api_Pair) :: a0.drop v1.1.toNat)
    else none

noncomputable def table_alone.j1 (a0 : List api_Pair) (a1 : api_Mut) (v1 : Int × Bool) (y1_34 : Bool) : Option ((List api_Pair) × Bool) :=
  if y1_34 = true then
    some (a0, false)
  else
    (table_put a0 ((a1.Pairs.getD 0 api_Pair.z).Key) (IntKind.wrap .i64 (v1.1 + ((a1.Pairs.getD 0 api_Pair.z).Val)))).bind fun v2 =>
    some (v2, true)

noncomputable def table_alone.j2 (a0 : List api_Pair) (a1 : api_Mut) (y2_7 : Int) : Option ((List api_Pair) × Bool) :=
  if y2_7 = a1.Old then
    (table_put a0 ((a1.Pairs.getD 0 api_Pair.z).Key) ((a1.Pairs.getD 0 api_Pair.z).Val)).bind fun v3 =>
    some (v3, true)
  else
    some (a0, false)

noncomputable def table_alone (a0 : List api_Pair) (a1 : api_Mut) : Option ((List api_Pair) × Bool) :=
  if (0 : Int) ≤ 0 ∧ 0 < (a1.Pairs.length : Int) then
    (table_get a0 ((a1.Pairs.getD 0 api_Pair.z).Key)).bind fun v1 =>
    if a1.Kind = 3 then
      if (IntKind.wrap .i64 (v1.1 + ((a1.Pairs.getD 0 api_Pair.z).Val))) < 0 then
        table_alone.j1 a0 a1 v1 true
      else
        table_alone.j1 a0 a1 v1 (decide ((IntKind.wrap .i64 (v1.1 + ((a1.Pairs.getD 0 api_Pair.z).Val))) > 1099511627776))
    else
      if v1.2 = true then
        table_alone.j2 a0 a1 v1.1
      else
        table_alone.j2 a0 a1 1099511627777
  else none

noncomputable def table_move (a0 : List api_Pair) (a1 : Int) (a2 : Int) : Option (List api_Pair) :=
  (table_get a0 a1).bind fun v1 =>
  (table_put a0 a1 (iMin (iMax (IntKind.wrap .i64 (v1.1 + a2)) (-1099511627776)) 1099511627776)).bind fun v2 =>
  some v2

inductive table_Apply.S where
  | l1 (x1_54 : Int) (x1_r1 : List api_Pair)

noncomputable def table_Apply.j2 (x1_54 : Int) (y2_r1 : List api_Pair) : Option (table_Apply.S ⊕ ((List api_Pair) × Bool)) :=
  some (.inl (.l1 (IntKind.wrap .i64 (x1_54 + 1)) y2_r1))

noncomputable def table_Apply.l1 (a1 : api_Mut) (a2 : List api_Span) (x1_54 : Int) (x1_r1 : List api_Pair) : Option (table_Apply.S ⊕ ((List api_Pair) × Bool)) :=
  if x1_54 < (a1.Pairs.length : Int) then
    if 0 ≤ x1_54 ∧ x1_54 < (a1.Pairs.length : Int) then
      (span_Has a2 ((a1.Pairs.getD x1_54.toNat api_Pair.z).Key)).bind fun v8 =>
      if v8 = true then
        if a1.Kind = 1 then
          (table_put x1_r1 ((a1.Pairs.getD x1_54.toNat api_Pair.z).Key) ((a1.Pairs.getD x1_54.toNat api_Pair.z).Val)).bind fun v9 =>
          table_Apply.j2 x1_54 v9
        else
          if x1_54 = 0 then
            (table_move x1_r1 ((a1.Pairs.getD x1_54.toNat api_Pair.z).Key) (IntKind.wrap .i64 (0 - ((a1.Pairs.getD x1_54.toNat api_Pair.z).Val)))).bind fun v10 =>
            table_Apply.j2 x1_54 v10
          else
            (table_move x1_r1 ((a1.Pairs.getD x1_54.toNat api_Pair.z).Key) ((a1.Pairs.getD x1_54.toNat api_Pair.z).Val)).bind fun v11 =>
            table_Apply.j2 x1_54 v11
      else
        table_Apply.j2 x1_54 x1_r1
    else none
  else
    some (.inr (x1_r1, true))

noncomputable def table_Apply.step (a1 : api_Mut) (a2 : List api_Span) : table_Apply.S → Option (table_Apply.S ⊕ ((List api_Pair) × Bool))
  | .l1 x1_54 x1_r1 => table_Apply.l1 a1 a2 x1_54 x1_r1

noncomputable def table_Apply.j1 (a0 : List api_Pair) (a1 : api_Mut) (a2 : List api_Span) (y1_22 : Bool) : Option ((List api_Pair) × Bool) :=
  if y1_22 = true then
    some (([] : List api_Pair), false)
  else
    if a0.length * 16 ≤ 140737488355328 then
      if a1.Kind = 2 then
        (table_cut a0 a1.Over a2).bind fun v4 =>
        some (v4, true)
      else
        (mut_Alone a1).bind fun v5 =>
        if v5 = true then
          if (0 : Int) ≤ 0 ∧ 0 < (a1.Pairs.length : Int) then
            (span_Has a2 ((a1.Pairs.getD 0 api_Pair.z).Key)).bind fun v6 =>
            if v6 = true then
              (table_alone a0 a1).bind fun v7 =>
              some (v7.1, v7.2)
            else
              some (a0, true)
          else none
        else
          goLoop (table_Apply.step a1 a2) (.l1 0 a0)
    else none

noncomputable def table_Apply (a0 : List api_Pair) (a1 : api_Mut) (a2 : List api_Span) : Option ((List api_Pair) × Bool) :=
  (table_Check a0).bind fun v1 =>
  if v1 = true then
    (mut_Check a1).bind fun v2 =>
    if v2 = true then
      (span_Check a2).bind fun v3 =>
      table_Apply.j1 a0 a1 a2 (!v3)
    else
      table_Apply.j1 a0 a1 a2 true
  else
    table_Apply.j1 a0 a1 a2 true

noncomputable def splicelaw05_awake.j1 (y1_0 : Bool) : Option Bool :=
  some y1_0

noncomputable def splicelaw05_awake : Option Bool :=
  (table_Apply ([(⟨5, 7⟩ : api_Pair)] : List api_Pair) (⟨1, 1, 3, ([(⟨5, 3⟩ : api_Pair)] : List api_Pair), (⟨0, 0⟩ : api_Span), 0⟩ : api_Mut) ([(⟨0, 4096⟩ : api_Span)] : List api_Span)).bind fun v1 =>
  (table_Apply ([(⟨5, 7⟩ : api_Pair)] : List api_Pair) (⟨1, 1, 5, ([(⟨5, 4⟩ : api_Pair), (⟨9, 4⟩ : api_Pair)] : List api_Pair), (⟨0, 0⟩ : api_Span), 0⟩ : api_Mut) ([(⟨9, 10⟩ : api_Span)] : List api_Span)).bind fun v2 =>
  if v1.2 = true then
    if (v1.1.length : Int) = 1 then
      if (0 : Int) ≤ 0 ∧ 0 < (v1.1.length : Int) then
        if ((v1.1.getD 0 api_Pair.z).Val) = 10 then
          if v2.2 = true then
            if (v2.1.length : Int) = 2 then
              if (0 : Int) ≤ 0 ∧ 0 < (v2.1.length : Int) then
                if ((v2.1.getD 0 api_Pair.z).Val) = 7 then
                  if (0 : Int) ≤ 1 ∧ 1 < (v2.1.length : Int) then
                    splicelaw05_awake.j1 ((((v2.1.getD 1 api_Pair.z).Key) == 9) && (((v2.1.getD 1 api_Pair.z).Val) == 4))
                  else none
                else
                  splicelaw05_awake.j1 false
              else none
            else
              splicelaw05_awake.j1 false
          else
            splicelaw05_awake.j1 false
        else
          splicelaw05_awake.j1 false
      else none
    else
      splicelaw05_awake.j1 false
  else
    splicelaw05_awake.j1 false

noncomputable def vint_From (a0 : ByteArray) : vint_Reader :=
  (⟨a0, 0⟩ : vint_Reader)

noncomputable def vint_Reader_Err (a0 : vint_Reader) : Int :=
  a0.e_

inductive vint_whole.S where
  | l1 (x1_6 : Int)

noncomputable def vint_whole.j1 (x1_6 : Int) (y1_16 : Bool) : Option (vint_whole.S ⊕ Bool) :=
  if y1_16 = true then
    some (.inr true)
  else
    some (.inl (.l1 (IntKind.wrap .i64 (x1_6 + 1))))

noncomputable def vint_whole.l1 (a0 : ByteArray) (x1_6 : Int) : Option (vint_whole.S ⊕ Bool) :=
  if x1_6 < (a0.size : Int) then
    if x1_6 = 9 then
      vint_whole.j1 x1_6 true
    else
      if 0 ≤ x1_6 ∧ x1_6 < (a0.size : Int) then
        vint_whole.j1 x1_6 (decide ((byteAt a0 x1_6) < 128))
      else none
  else
    some (.inr false)

noncomputable def vint_whole.step (a0 : ByteArray) : vint_whole.S → Option (vint_whole.S ⊕ Bool)
  | .l1 x1_6 => vint_whole.l1 a0 x1_6

noncomputable def vint_whole (a0 : ByteArray) : Option Bool :=
  goLoop (vint_whole.step a0) (.l1 0)

noncomputable def vint_Reader_fail.j1 (y1_b0_0 : ByteArray) (y1_b0_1 : Int) : vint_Reader :=
  (⟨y1_b0_0, y1_b0_1⟩ : vint_Reader)

noncomputable def vint_Reader_fail (a0 : vint_Reader) (a1 : Int) : vint_Reader :=
  if a0.e_ = 0 then
    vint_Reader_fail.j1 (⟨#[]⟩ : ByteArray) a1
  else
    vint_Reader_fail.j1 a0.s a0.e_

inductive vint_Reader_Num.S where
  | l1 (x1_3 : Int) (x1_14 : Int)

noncomputable def vint_Reader_Num.j3 (y3_b0_0 : ByteArray) (y3_b0_1 : Int) : Option (vint_Reader_Num.S ⊕ (Int × vint_Reader)) :=
  bnd (vint_Reader_fail (⟨y3_b0_0, y3_b0_1⟩ : vint_Reader) 5) fun (v6 : vint_Reader) =>
  some (.inr (0, v6))

noncomputable def vint_Reader_Num.j2 (a0 : vint_Reader) (x1_3 : Int) (x1_14 : Int) (y2_23 : Bool) : Option (vint_Reader_Num.S ⊕ (Int × vint_Reader)) :=
  if y2_23 = true then
    (vint_whole a0.s).bind fun v4 =>
    if v4 = true then
      bnd (vint_Reader_fail a0 3) fun (v5 : vint_Reader) =>
      vint_Reader_Num.j3 v5.s v5.e_
    else
      vint_Reader_Num.j3 a0.s a0.e_
  else
    if (byteAt a0.s x1_14) < 128 then
      if 0 ≤ (IntKind.wrap .i64 (x1_14 + 1)) ∧ (IntKind.wrap .i64 (x1_14 + 1)) ≤ (a0.s.size : Int) ∧ (a0.s.size : Int) ≤ (a0.s.size : Int) then
        if 0 ≤ (IntKind.wrap .i64 (7 * x1_14)) then
          bnd (bOr .i64 x1_3 (IntKind.wrap .i64 ((IntKind.wrap .i64 (byteAt a0.s x1_14)) * 2 ^ (min (IntKind.wrap .i64 (7 * x1_14)).toNat 64)))) fun (v7 : Int) =>
          some (.inr (v7, (⟨a0.s.extract ((IntKind.wrap .i64 (x1_14 + 1)).toNat) a0.s.size, a0.e_⟩ : vint_Reader)))
        else none
      else none
    else
      if 0 ≤ (IntKind.wrap .i64 (7 * x1_14)) then
        bnd (bOr .i64 x1_3 (IntKind.wrap .i64 ((IntKind.wrap .i64 (bAnd .u8 (byteAt a0.s x1_14) 127)) * 2 ^ (min (IntKind.wrap .i64 (7 * x1_14)).toNat 64)))) fun (v8 : Int) =>
        some (.inl (.l1 v8 (IntKind.wrap .i64 (x1_14 + 1))))
      else none

noncomputable def vint_Reader_Num.j1 (y1_b0_0 : ByteArray) (y1_b0_1 : Int) : Option (vint_Reader_Num.S ⊕ (Int × vint_Reader)) :=
  bnd (vint_Reader_fail (⟨y1_b0_0, y1_b0_1⟩ : vint_Reader) 5) fun (v3 : vint_Reader) =>
  some (.inr (0, v3))

noncomputable def vint_Reader_Num.l1 (a0 : vint_Reader) (x1_3 : Int) (x1_14 : Int) : Option (vint_Reader_Num.S ⊕ (Int × vint_Reader)) :=
  if x1_14 < (a0.s.size : Int) then
    if 0 ≤ x1_14 ∧ x1_14 < (a0.s.size : Int) then
      if x1_14 = 9 then
        vint_Reader_Num.j2 a0 x1_3 x1_14 true
      else
        if x1_14 > 0 then
          vint_Reader_Num.j2 a0 x1_3 x1_14 ((byteAt a0.s x1_14) == 0)
        else
          vint_Reader_Num.j2 a0 x1_3 x1_14 false
    else none
  else
    (vint_whole a0.s).bind fun v1 =>
    if v1 = true then
      bnd (vint_Reader_fail a0 3) fun (v2 : vint_Reader) =>
      vint_Reader_Num.j1 v2.s v2.e_
    else
      vint_Reader_Num.j1 a0.s a0.e_

noncomputable def vint_Reader_Num.step (a0 : vint_Reader) : vint_Reader_Num.S → Option (vint_Reader_Num.S ⊕ (Int × vint_Reader))
  | .l1 x1_3 x1_14 => vint_Reader_Num.l1 a0 x1_3 x1_14

noncomputable def vint_Reader_Num (a0 : vint_Reader) : Option (Int × vint_Reader) :=
  if (vint_Reader_Err a0) = 0 then
    goLoop (vint_Reader_Num.step a0) (.l1 0 0)
  else
    some (0, a0)

noncomputable def vint_Reader_End.j1 (a0 : vint_Reader) (y1_12 : Bool) : Int :=
  if y1_12 = true then
    2
  else
    vint_Reader_Err a0

noncomputable def vint_Reader_End (a0 : vint_Reader) : Int :=
  if (vint_Reader_Err a0) = 0 then
    vint_Reader_End.j1 a0 (!(a0.s.toList == (⟨#[]⟩ : ByteArray).toList))
  else
    vint_Reader_End.j1 a0 false

noncomputable def vint_Reader_Whole (a0 : vint_Reader) : Option (Int × vint_Reader) :=
  (vint_Reader_Num a0).bind fun v1 =>
  if (bAnd .i64 v1.1 1) = 1 then
    bnd (IntKind.wrap .i64 ((IntKind.wrap .i64 (0 - (Int.fdiv v1.1 2))) - 1)) fun (v2 : Int) =>
    some (v2, v1.2)
  else
    some (Int.fdiv v1.1 2, v1.2)

inductive table_Read.S where
  | l1 (x1_6 : Int) (x1_b0_0 : ByteArray) (x1_b0_1 : Int) (x1_r1 : List api_Pair)

noncomputable def table_Read.j1 (x1_6 : Int) (x1_b0_0 : ByteArray) (x1_b0_1 : Int) (x1_r1 : List api_Pair) (y1_20 : Bool) : Option (table_Read.S ⊕ ((List api_Pair) × Int)) :=
  if y1_20 = true then
    (vint_Reader_Num (⟨x1_b0_0, x1_b0_1⟩ : vint_Reader)).bind fun v4 =>
    (vint_Reader_Whole v4.2).bind fun v5 =>
    if (x1_r1.length + 1) * 16 ≤ 140737488355328 then
      some (.inl (.l1 (IntKind.wrap .i64 (x1_6 + 1)) v5.2.s v5.2.e_ (x1_r1 ++ [(⟨v4.1, v5.1⟩ : api_Pair)])))
    else none
  else
    if (vint_Reader_End (⟨x1_b0_0, x1_b0_1⟩ : vint_Reader)) = 0 then
      (table_Check x1_r1).bind fun v3 =>
      if v3 = true then
        some (.inr (x1_r1, 0))
      else
        some (.inr (([] : List api_Pair), 3))
    else
      some (.inr (([] : List api_Pair), vint_Reader_End (⟨x1_b0_0, x1_b0_1⟩ : vint_Reader)))

noncomputable def table_Read.l1 (v2 : Int × vint_Reader) (x1_6 : Int) (x1_b0_0 : ByteArray) (x1_b0_1 : Int) (x1_r1 : List api_Pair) : Option (table_Read.S ⊕ ((List api_Pair) × Int)) :=
  if x1_6 < v2.1 then
    table_Read.j1 x1_6 x1_b0_0 x1_b0_1 x1_r1 ((vint_Reader_Err (⟨x1_b0_0, x1_b0_1⟩ : vint_Reader)) == 0)
  else
    table_Read.j1 x1_6 x1_b0_0 x1_b0_1 x1_r1 false

noncomputable def table_Read.step (v2 : Int × vint_Reader) : table_Read.S → Option (table_Read.S ⊕ ((List api_Pair) × Int))
  | .l1 x1_6 x1_b0_0 x1_b0_1 x1_r1 => table_Read.l1 v2 x1_6 x1_b0_0 x1_b0_1 x1_r1

noncomputable def table_Read (a0 : ByteArray) : Option ((List api_Pair) × Int) :=
  bnd (vint_From a0) fun (v1 : vint_Reader) =>
  (vint_Reader_Num v1).bind fun v2 =>
  goLoop (table_Read.step v2) (.l1 0 v2.2.s v2.2.e_ ([] : List api_Pair))

noncomputable def spliceref01_fail (a0 : Int) : spliceref01_Reader :=
  (⟨(⟨#[]⟩ : ByteArray), a0⟩ : spliceref01_Reader)

inductive spliceref01_Reader_Num.S where
  | l1 (x1_4 : Int)
  | l2 (x2_4 : Int) (x2_5 : Int) (x2_6 : Int)

noncomputable def spliceref01_Reader_Num.j2 (x1_4 : Int) (y2_47 : Bool) : Option (spliceref01_Reader_Num.S ⊕ (spliceref01_Reader × Int)) :=
  if y2_47 = true then
    bnd (spliceref01_fail 3) fun (v2 : spliceref01_Reader) =>
    some (.inr (v2, 0))
  else
    some (.inl (.l2 x1_4 0 x1_4))

noncomputable def spliceref01_Reader_Num.j1 (a0 : spliceref01_Reader) (x1_4 : Int) (y1_26 : Bool) : Option (spliceref01_Reader_Num.S ⊕ (spliceref01_Reader × Int)) :=
  if y1_26 = true then
    some (.inl (.l1 (IntKind.wrap .i64 (x1_4 + 1))))
  else
    if x1_4 = (a0.S.size : Int) then
      bnd (spliceref01_fail 5) fun (v1 : spliceref01_Reader) =>
      some (.inr (v1, 0))
    else
      if x1_4 = 9 then
        spliceref01_Reader_Num.j2 x1_4 true
      else
        if x1_4 > 0 then
          if 0 ≤ x1_4 ∧ x1_4 < (a0.S.size : Int) then
            spliceref01_Reader_Num.j2 x1_4 ((byteAt a0.S x1_4) == 0)
          else none
        else
          spliceref01_Reader_Num.j2 x1_4 false

noncomputable def spliceref01_Reader_Num.l1 (a0 : spliceref01_Reader) (x1_4 : Int) : Option (spliceref01_Reader_Num.S ⊕ (spliceref01_Reader × Int)) :=
  if x1_4 < (a0.S.size : Int) then
    if x1_4 < 9 then
      if 0 ≤ x1_4 ∧ x1_4 < (a0.S.size : Int) then
        spliceref01_Reader_Num.j1 a0 x1_4 (decide ((byteAt a0.S x1_4) > 127))
      else none
    else
      spliceref01_Reader_Num.j1 a0 x1_4 false
  else
    spliceref01_Reader_Num.j1 a0 x1_4 false

noncomputable def spliceref01_Reader_Num.l2 (a0 : spliceref01_Reader) (x2_4 : Int) (x2_5 : Int) (x2_6 : Int) : Option (spliceref01_Reader_Num.S ⊕ (spliceref01_Reader × Int)) :=
  if x2_6 ≥ 0 then
    if 0 ≤ x2_6 ∧ x2_6 < (a0.S.size : Int) then
      bnd (IntKind.wrap .i64 ((IntKind.wrap .i64 (128 * x2_5)) + (Int.tmod (IntKind.wrap .i64 (byteAt a0.S x2_6)) 128))) fun (v3 : Int) =>
      some (.inl (.l2 x2_4 v3 (IntKind.wrap .i64 (x2_6 - 1))))
    else none
  else
    if 0 ≤ (IntKind.wrap .i64 (x2_4 + 1)) ∧ (IntKind.wrap .i64 (x2_4 + 1)) ≤ (a0.S.size : Int) ∧ (a0.S.size : Int) ≤ (a0.S.size : Int) then
      some (.inr ((⟨a0.S.extract ((IntKind.wrap .i64 (x2_4 + 1)).toNat) a0.S.size, 0⟩ : spliceref01_Reader), x2_5))
    else none

noncomputable def spliceref01_Reader_Num.step (a0 : spliceref01_Reader) : spliceref01_Reader_Num.S → Option (spliceref01_Reader_Num.S ⊕ (spliceref01_Reader × Int))
  | .l1 x1_4 => spliceref01_Reader_Num.l1 a0 x1_4
  | .l2 x2_4 x2_5 x2_6 => spliceref01_Reader_Num.l2 a0 x2_4 x2_5 x2_6

noncomputable def spliceref01_Reader_Num (a0 : spliceref01_Reader) : Option (spliceref01_Reader × Int) :=
  if a0.E = 0 then
    goLoop (spliceref01_Reader_Num.step a0) (.l1 0)
  else
    some (a0, 0)

noncomputable def spliceref01_Reader_End.j1 (a0 : spliceref01_Reader) (y1_10 : Bool) : Int :=
  if y1_10 = true then
    2
  else
    a0.E

noncomputable def spliceref01_Reader_End (a0 : spliceref01_Reader) : Int :=
  if a0.E = 0 then
    spliceref01_Reader_End.j1 a0 (!(a0.S.toList == (⟨#[]⟩ : ByteArray).toList))
  else
    spliceref01_Reader_End.j1 a0 false

inductive spliceref05_Check.S where
  | l1 (x1_3 : Int)

noncomputable def spliceref05_Check.j2 (x1_3 : Int) (y2_55 : Bool) : Option (spliceref05_Check.S ⊕ Bool) :=
  if y2_55 = true then
    some (.inr false)
  else
    some (.inl (.l1 (IntKind.wrap .i64 (x1_3 + 1))))

noncomputable def spliceref05_Check.j1 (a0 : List spliceref04_Pair) (x1_3 : Int) (y1_39 : Bool) : Option (spliceref05_Check.S ⊕ Bool) :=
  if y1_39 = true then
    some (.inr false)
  else
    if x1_3 > 0 then
      if 0 ≤ (IntKind.wrap .i64 (x1_3 - 1)) ∧ (IntKind.wrap .i64 (x1_3 - 1)) < (a0.length : Int) then
        spliceref05_Check.j2 x1_3 (decide (((a0.getD x1_3.toNat spliceref04_Pair.z).Key) ≤ ((a0.getD ((IntKind.wrap .i64 (x1_3 - 1)).toNat) spliceref04_Pair.z).Key)))
      else none
    else
      spliceref05_Check.j2 x1_3 false

noncomputable def spliceref05_Check.l1 (a0 : List spliceref04_Pair) (x1_3 : Int) : Option (spliceref05_Check.S ⊕ Bool) :=
  if x1_3 < (a0.length : Int) then
    if 0 ≤ x1_3 ∧ x1_3 < (a0.length : Int) then
      if ((a0.getD x1_3.toNat spliceref04_Pair.z).Key) < 0 then
        spliceref05_Check.j1 a0 x1_3 true
      else
        if ((a0.getD x1_3.toNat spliceref04_Pair.z).Key) > 4095 then
          spliceref05_Check.j1 a0 x1_3 true
        else
          if ((a0.getD x1_3.toNat spliceref04_Pair.z).Val) < (-1099511627776) then
            spliceref05_Check.j1 a0 x1_3 true
          else
            spliceref05_Check.j1 a0 x1_3 (decide (((a0.getD x1_3.toNat spliceref04_Pair.z).Val) > 1099511627776))
    else none
  else
    some (.inr true)

noncomputable def spliceref05_Check.step (a0 : List spliceref04_Pair) : spliceref05_Check.S → Option (spliceref05_Check.S ⊕ Bool)
  | .l1 x1_3 => spliceref05_Check.l1 a0 x1_3

noncomputable def spliceref05_Check (a0 : List spliceref04_Pair) : Option Bool :=
  goLoop (spliceref05_Check.step a0) (.l1 0)

noncomputable def spliceref01_Reader_Whole (a0 : spliceref01_Reader) : Option (spliceref01_Reader × Int) :=
  (spliceref01_Reader_Num a0).bind fun v1 =>
  if (Int.tmod v1.2 2) = 1 then
    bnd (IntKind.wrap .i64 ((IntKind.wrap .i64 (0 - (IntKind.wrap .i64 (Int.tdiv v1.2 2)))) - 1)) fun (v2 : Int) =>
    some (v1.1, v2)
  else
    some (v1.1, IntKind.wrap .i64 (Int.tdiv v1.2 2))

inductive spliceref05_Read.S where
  | l1 (x1_7 : Int) (x1_b0_0 : ByteArray) (x1_b0_1 : Int) (x1_r1 : List spliceref04_Pair)

noncomputable def spliceref05_Read.j1 (x1_7 : Int) (x1_b0_0 : ByteArray) (x1_b0_1 : Int) (x1_r1 : List spliceref04_Pair) (y1_23 : Bool) : Option (spliceref05_Read.S ⊕ ((List spliceref04_Pair) × Int)) :=
  if y1_23 = true then
    (spliceref01_Reader_Num (⟨x1_b0_0, x1_b0_1⟩ : spliceref01_Reader)).bind fun v4 =>
    (spliceref01_Reader_Whole v4.1).bind fun v5 =>
    if (x1_r1.length + 1) * 16 ≤ 140737488355328 then
      some (.inl (.l1 (IntKind.wrap .i64 (x1_7 + 1)) v5.1.S v5.1.E (x1_r1 ++ [(⟨v4.2, v5.2⟩ : spliceref04_Pair)])))
    else none
  else
    if (spliceref01_Reader_End (⟨x1_b0_0, x1_b0_1⟩ : spliceref01_Reader)) = 0 then
      (spliceref05_Check x1_r1).bind fun v3 =>
      if v3 = true then
        some (.inr (x1_r1, 0))
      else
        some (.inr (([] : List spliceref04_Pair), 3))
    else
      bnd (spliceref01_Reader_End (⟨x1_b0_0, x1_b0_1⟩ : spliceref01_Reader)) fun (v2 : Int) =>
      some (.inr (([] : List spliceref04_Pair), v2))

noncomputable def spliceref05_Read.l1 (v1 : spliceref01_Reader × Int) (x1_7 : Int) (x1_b0_0 : ByteArray) (x1_b0_1 : Int) (x1_r1 : List spliceref04_Pair) : Option (spliceref05_Read.S ⊕ ((List spliceref04_Pair) × Int)) :=
  if x1_7 < v1.2 then
    spliceref05_Read.j1 x1_7 x1_b0_0 x1_b0_1 x1_r1 (x1_b0_1 == 0)
  else
    spliceref05_Read.j1 x1_7 x1_b0_0 x1_b0_1 x1_r1 false

noncomputable def spliceref05_Read.step (v1 : spliceref01_Reader × Int) : spliceref05_Read.S → Option (spliceref05_Read.S ⊕ ((List spliceref04_Pair) × Int))
  | .l1 x1_7 x1_b0_0 x1_b0_1 x1_r1 => spliceref05_Read.l1 v1 x1_7 x1_b0_0 x1_b0_1 x1_r1

noncomputable def spliceref05_Read (a0 : ByteArray) : Option ((List spliceref04_Pair) × Int) :=
  (spliceref01_Reader_Num (⟨a0, 0⟩ : spliceref01_Reader)).bind fun v1 =>
  goLoop (spliceref05_Read.step v1) (.l1 0 v1.1.S v1.1.E ([] : List spliceref04_Pair))

inductive vint_Num.S where
  | l1 (x1_0 : Int) (x1_r0 : List Int)

noncomputable def vint_Num.l1 (x1_0 : Int) (x1_r0 : List Int) : Option (vint_Num.S ⊕ ByteArray) :=
  if x1_0 ≥ 128 then
    if (x1_r0.length + 1) * 1 ≤ 140737488355328 then
      some (.inl (.l1 (Int.fdiv x1_0 128) (x1_r0 ++ [bOr .u8 (IntKind.wrap .u8 (bAnd .i64 x1_0 127)) 128])))
    else none
  else
    if (x1_r0.length + 1) * 1 ≤ 140737488355328 then
      some (.inr (strB (x1_r0 ++ [IntKind.wrap .u8 x1_0])))
    else none

noncomputable def vint_Num.step : vint_Num.S → Option (vint_Num.S ⊕ ByteArray)
  | .l1 x1_0 x1_r0 => vint_Num.l1 x1_0 x1_r0

noncomputable def vint_Num (a0 : Int) : Option ByteArray :=
  if a0 < 0 then
    some (⟨#[]⟩ : ByteArray)
  else
    goLoop (vint_Num.step) (.l1 a0 ([] : List Int))

noncomputable def vint_may.j1 (y1_2 : Bool) : Bool :=
  y1_2

noncomputable def vint_may (a0 : Int) : Bool :=
  if a0 ≥ (-4611686018427387904) then
    vint_may.j1 (decide (a0 ≤ 4611686018427387903))
  else
    vint_may.j1 false

noncomputable def vint_Whole (a0 : Int) : Option ByteArray :=
  if (vint_may a0) = true then
    if a0 < 0 then
      (vint_Num (IntKind.wrap .i64 ((IntKind.wrap .i64 ((-2) * a0)) - 1))).bind fun v1 =>
      some v1
    else
      (vint_Num (IntKind.wrap .i64 (2 * a0))).bind fun v2 =>
      some v2
  else
    some (⟨#[]⟩ : ByteArray)

inductive table_Text.S where
  | l1 (x1_15 : Int) (x1_r1 : ByteArray)

noncomputable def table_Text.l1 (a0 : List api_Pair) (x1_15 : Int) (x1_r1 : ByteArray) : Option (table_Text.S ⊕ ByteArray) :=
  if x1_15 < (a0.length : Int) then
    if 0 ≤ x1_15 ∧ x1_15 < (a0.length : Int) then
      (vint_Num ((a0.getD x1_15.toNat api_Pair.z).Key)).bind fun v3 =>
      (vint_Whole ((a0.getD x1_15.toNat api_Pair.z).Val)).bind fun v4 =>
      if ((v3.size + v4.size : Nat) : Int) ≤ 9223372036854775807 then
        if x1_r1.size + (v3 ++ v4).size ≤ 140737488355328 then
          some (.inl (.l1 (IntKind.wrap .i64 (x1_15 + 1)) (x1_r1 ++ (v3 ++ v4))))
        else none
      else none
    else none
  else
    some (.inr x1_r1)

noncomputable def table_Text.step (a0 : List api_Pair) : table_Text.S → Option (table_Text.S ⊕ ByteArray)
  | .l1 x1_15 x1_r1 => table_Text.l1 a0 x1_15 x1_r1

noncomputable def table_Text (a0 : List api_Pair) : Option ByteArray :=
  (table_Check a0).bind fun v1 =>
  if v1 = true then
    (vint_Num (a0.length : Int)).bind fun v2 =>
    if (⟨#[]⟩ : ByteArray).size + v2.size ≤ 140737488355328 then
      goLoop (table_Text.step a0) (.l1 0 ((⟨#[]⟩ : ByteArray) ++ v2))
    else none
  else
    some (⟨#[]⟩ : ByteArray)

inductive splicelaw05_Refs.S where
  | l1 (x1_4 : Int) (x1_r0 : List spliceref04_Pair)

noncomputable def splicelaw05_Refs.l1 (a0 : List api_Pair) (x1_4 : Int) (x1_r0 : List spliceref04_Pair) : Option (splicelaw05_Refs.S ⊕ (List spliceref04_Pair)) :=
  if x1_4 < (a0.length : Int) then
    if 0 ≤ x1_4 ∧ x1_4 < (a0.length : Int) then
      if (x1_r0.length + 1) * 16 ≤ 140737488355328 then
        some (.inl (.l1 (IntKind.wrap .i64 (x1_4 + 1)) (x1_r0 ++ [(⟨(a0.getD x1_4.toNat api_Pair.z).Key, (a0.getD x1_4.toNat api_Pair.z).Val⟩ : spliceref04_Pair)])))
      else none
    else none
  else
    some (.inr x1_r0)

noncomputable def splicelaw05_Refs.step (a0 : List api_Pair) : splicelaw05_Refs.S → Option (splicelaw05_Refs.S ⊕ (List spliceref04_Pair))
  | .l1 x1_4 x1_r0 => splicelaw05_Refs.l1 a0 x1_4 x1_r0

noncomputable def splicelaw05_Refs (a0 : List api_Pair) : Option (List spliceref04_Pair) :=
  goLoop (splicelaw05_Refs.step a0) (.l1 0 ([] : List spliceref04_Pair))

inductive spliceref01_Num.S where
  | l1 (x1_0 : Int) (x1_r0 : List Int)

noncomputable def spliceref01_Num.l1 (x1_0 : Int) (x1_r0 : List Int) : Option (spliceref01_Num.S ⊕ ByteArray) :=
  if x1_0 > 127 then
    if (x1_r0.length + 1) * 1 ≤ 140737488355328 then
      some (.inl (.l1 (IntKind.wrap .i64 (Int.tdiv x1_0 128)) (x1_r0 ++ [IntKind.wrap .u8 (IntKind.wrap .i64 (128 + (Int.tmod x1_0 128)))])))
    else none
  else
    if (x1_r0.length + 1) * 1 ≤ 140737488355328 then
      some (.inr (strB (x1_r0 ++ [IntKind.wrap .u8 x1_0])))
    else none

noncomputable def spliceref01_Num.step : spliceref01_Num.S → Option (spliceref01_Num.S ⊕ ByteArray)
  | .l1 x1_0 x1_r0 => spliceref01_Num.l1 x1_0 x1_r0

noncomputable def spliceref01_Num (a0 : Int) : Option ByteArray :=
  if a0 < 0 then
    some (⟨#[]⟩ : ByteArray)
  else
    goLoop (spliceref01_Num.step) (.l1 a0 ([] : List Int))

noncomputable def spliceref01_May.j1 (y1_2 : Bool) : Bool :=
  y1_2

noncomputable def spliceref01_May (a0 : Int) : Bool :=
  if a0 ≥ (-4611686018427387904) then
    spliceref01_May.j1 (decide (a0 ≤ 4611686018427387903))
  else
    spliceref01_May.j1 false

noncomputable def spliceref01_Whole (a0 : Int) : Option ByteArray :=
  if (spliceref01_May a0) = true then
    if a0 ≥ 0 then
      (spliceref01_Num (IntKind.wrap .i64 (a0 + a0))).bind fun v1 =>
      some v1
    else
      (spliceref01_Num (IntKind.wrap .i64 ((IntKind.wrap .i64 ((IntKind.wrap .i64 (0 - a0)) - a0)) - 1))).bind fun v2 =>
      some v2
  else
    some (⟨#[]⟩ : ByteArray)

inductive spliceref05_Text.S where
  | l1 (x1_3 : ByteArray) (x1_4 : Int)

noncomputable def spliceref05_Text.l1 (a0 : List spliceref04_Pair) (x1_3 : ByteArray) (x1_4 : Int) : Option (spliceref05_Text.S ⊕ ByteArray) :=
  if x1_4 < (a0.length : Int) then
    if 0 ≤ x1_4 ∧ x1_4 < (a0.length : Int) then
      (spliceref01_Num ((a0.getD x1_4.toNat spliceref04_Pair.z).Key)).bind fun v3 =>
      if ((x1_3.size + v3.size : Nat) : Int) ≤ 9223372036854775807 then
        (spliceref01_Whole ((a0.getD x1_4.toNat spliceref04_Pair.z).Val)).bind fun v4 =>
        if (((x1_3 ++ v3).size + v4.size : Nat) : Int) ≤ 9223372036854775807 then
          some (.inl (.l1 ((x1_3 ++ v3) ++ v4) (IntKind.wrap .i64 (x1_4 + 1))))
        else none
      else none
    else none
  else
    some (.inr x1_3)

noncomputable def spliceref05_Text.step (a0 : List spliceref04_Pair) : spliceref05_Text.S → Option (spliceref05_Text.S ⊕ ByteArray)
  | .l1 x1_3 x1_4 => spliceref05_Text.l1 a0 x1_3 x1_4

noncomputable def spliceref05_Text (a0 : List spliceref04_Pair) : Option ByteArray :=
  (spliceref05_Check a0).bind fun v1 =>
  if v1 = true then
    (spliceref01_Num (a0.length : Int)).bind fun v2 =>
    goLoop (spliceref05_Text.step a0) (.l1 v2 0)
  else
    some (⟨#[]⟩ : ByteArray)

inductive spliceref05_Same.S where
  | l1 (x1_5 : Int)

noncomputable def spliceref05_Same.l1 (a0 : List spliceref04_Pair) (a1 : List spliceref04_Pair) (x1_5 : Int) : Option (spliceref05_Same.S ⊕ Bool) :=
  if x1_5 < (a0.length : Int) then
    if 0 ≤ x1_5 ∧ x1_5 < (a0.length : Int) then
      if 0 ≤ x1_5 ∧ x1_5 < (a1.length : Int) then
        if ((a0.getD x1_5.toNat spliceref04_Pair.z).Key) = ((a1.getD x1_5.toNat spliceref04_Pair.z).Key) then
          if ((a0.getD x1_5.toNat spliceref04_Pair.z).Val) = ((a1.getD x1_5.toNat spliceref04_Pair.z).Val) then
            some (.inl (.l1 (IntKind.wrap .i64 (x1_5 + 1))))
          else
            some (.inr false)
        else
          if ((a0.getD x1_5.toNat spliceref04_Pair.z).Val) = ((a1.getD x1_5.toNat spliceref04_Pair.z).Val) then
            some (.inr false)
          else
            some (.inr false)
      else none
    else none
  else
    some (.inr true)

noncomputable def spliceref05_Same.step (a0 : List spliceref04_Pair) (a1 : List spliceref04_Pair) : spliceref05_Same.S → Option (spliceref05_Same.S ⊕ Bool)
  | .l1 x1_5 => spliceref05_Same.l1 a0 a1 x1_5

noncomputable def spliceref05_Same (a0 : List spliceref04_Pair) (a1 : List spliceref04_Pair) : Option Bool :=
  if (a0.length : Int) = (a1.length : Int) then
    goLoop (spliceref05_Same.step a0 a1) (.l1 0)
  else
    some false

noncomputable def splicelaw05_TableReads.j2 (y2_4 : Bool) : Option Bool :=
  some y2_4

noncomputable def splicelaw05_TableReads.j1 (a0 : List api_Pair) (a1 : ByteArray) (y1_17 : Bool) : Option Bool :=
  if y1_17 = true then
    (splicelaw05_awake).bind fun v2 =>
    some v2
  else
    (table_Read a1).bind fun v3 =>
    (spliceref05_Read a1).bind fun v4 =>
    (splicelaw05_awake).bind fun v5 =>
    if v5 = true then
      (table_Text a0).bind fun v6 =>
      (splicelaw05_Refs a0).bind fun v7 =>
      (spliceref05_Text v7).bind fun v8 =>
      if (v6.toList == v8.toList) = true then
        (splicelaw05_Refs v3.1).bind fun v9 =>
        (spliceref05_Same v9 v4.1).bind fun v10 =>
        if v10 = true then
          splicelaw05_TableReads.j2 (v3.2 == v4.2)
        else
          splicelaw05_TableReads.j2 false
      else
        splicelaw05_TableReads.j2 false
    else
      splicelaw05_TableReads.j2 false

noncomputable def splicelaw05_TableReads (a0 : List api_Pair) (a1 : ByteArray) : Option Bool :=
  bnd (splicelaw05_few a0 (⟨0, 0, 0, [], (⟨0, 0⟩ : api_Span), 0⟩ : api_Mut) ([] : List api_Span)) fun (v1 : Bool) =>
  if v1 = true then
    splicelaw05_TableReads.j1 a0 a1 (decide ((a1.size : Int) > 5000))
  else
    splicelaw05_TableReads.j1 a0 a1 true

noncomputable def splicelaw05_TableBack.j4 (y4_4 : Bool) : Option Bool :=
  some y4_4

noncomputable def splicelaw05_TableBack.j3 (a1 : ByteArray) : Option Bool :=
  (table_Read a1).bind fun v9 =>
  (splicelaw05_awake).bind fun v10 =>
  if v10 = true then
    if v9.2 = 0 then
      (table_Text v9.1).bind fun v11 =>
      splicelaw05_TableBack.j4 (v11.toList == a1.toList)
    else
      if (v9.1.length : Int) = 0 then
        splicelaw05_TableBack.j4 true
      else
        splicelaw05_TableBack.j4 false
  else
    splicelaw05_TableBack.j4 false

noncomputable def splicelaw05_TableBack.j2 (a1 : ByteArray) (y2_36 : Bool) : Option Bool :=
  if y2_36 = true then
    some false
  else
    splicelaw05_TableBack.j3 a1

noncomputable def splicelaw05_TableBack.j1 (a0 : List api_Pair) (a1 : ByteArray) (y1_17 : Bool) : Option Bool :=
  if y1_17 = true then
    (splicelaw05_awake).bind fun v2 =>
    some v2
  else
    (table_Check a0).bind fun v3 =>
    if v3 = true then
      (table_Text a0).bind fun v4 =>
      (table_Read v4).bind fun v5 =>
      if v5.2 = 0 then
        (splicelaw05_Refs v5.1).bind fun v6 =>
        (splicelaw05_Refs a0).bind fun v7 =>
        (spliceref05_Same v6 v7).bind fun v8 =>
        splicelaw05_TableBack.j2 a1 (!v8)
      else
        splicelaw05_TableBack.j2 a1 true
    else
      splicelaw05_TableBack.j3 a1

noncomputable def splicelaw05_TableBack (a0 : List api_Pair) (a1 : ByteArray) : Option Bool :=
  bnd (splicelaw05_few a0 (⟨0, 0, 0, [], (⟨0, 0⟩ : api_Span), 0⟩ : api_Mut) ([] : List api_Span)) fun (v1 : Bool) =>
  if v1 = true then
    splicelaw05_TableBack.j1 a0 a1 (decide ((a1.size : Int) > 5000))
  else
    splicelaw05_TableBack.j1 a0 a1 true
end Go.SyP
