/- Plain functions, printed by gen.py. -/
import Derived.Test.YticmlllaimjdcaaSyY
set_option linter.unusedVariables false
namespace Go.SyP
open Go Go.Sy

structure api_Pair where
  Key : Int
  Val : Int
def api_Pair.z : api_Pair := ⟨0, 0⟩
structure api_Span where
  Lo : Int
  Hi : Int
def api_Span.z : api_Span := ⟨0, 0⟩
structure api_Mut where
  Client : Int
  Seq : Int
  Kind : Int
  Pairs : List api_Pair
  Over : api_Span
  Old : Int
def api_Mut.z : api_Mut := ⟨0, 0, 0, [], api_Span.z, 0⟩
structure api_Entry where
  M : api_Mut
  Time : Int
  Done : Bool
def api_Entry.z : api_Entry := ⟨api_Mut.z, 0, false⟩
structure spliceref04_Pair where
  Key : Int
  Val : Int
def spliceref04_Pair.z : spliceref04_Pair := ⟨0, 0⟩
structure spliceref03_Span where
  Lo : Int
  Hi : Int
def spliceref03_Span.z : spliceref03_Span := ⟨0, 0⟩
structure spliceref04_Mut where
  Client : Int
  Seq : Int
  Kind : Int
  Pairs : List spliceref04_Pair
  Over : spliceref03_Span
  Old : Int
def spliceref04_Mut.z : spliceref04_Mut := ⟨0, 0, 0, [], spliceref03_Span.z, 0⟩
structure spliceref12_Entry where
  M : spliceref04_Mut
  Time : Int
  Done : Bool
def spliceref12_Entry.z : spliceref12_Entry := ⟨spliceref04_Mut.z, 0, false⟩
structure api_Peer where
  Shard : Int
  Time : Int
def api_Peer.z : api_Peer := ⟨0, 0⟩
structure api_Wait where
  M : api_Mut
  Time : Int
  Final : Bool
  Peers : List api_Peer
def api_Wait.z : api_Wait := ⟨api_Mut.z, 0, false, []⟩
structure api_Known where
  Client : Int
  Seq : Int
  Time : Int
  Done : Bool
def api_Known.z : api_Known := ⟨0, 0, 0, false⟩
structure api_Core where
  ID : Int
  Keys : api_Span
  Clock : Int
  Frozen : Bool
  Sealed : Bool
  Held : List api_Wait
  Base : List api_Pair
  Log : List api_Entry
  Known : List api_Known
def api_Core.z : api_Core := ⟨0, api_Span.z, 0, false, false, [], [], [], []⟩
structure spliceref12_Peer where
  Shard : Int
  Time : Int
def spliceref12_Peer.z : spliceref12_Peer := ⟨0, 0⟩
structure spliceref12_Wait where
  M : spliceref04_Mut
  Time : Int
  Final : Bool
  Peers : List spliceref12_Peer
def spliceref12_Wait.z : spliceref12_Wait := ⟨spliceref04_Mut.z, 0, false, []⟩
structure spliceref12_Known where
  Client : Int
  Seq : Int
  Time : Int
  Done : Bool
def spliceref12_Known.z : spliceref12_Known := ⟨0, 0, 0, false⟩
structure spliceref12_Core where
  ID : Int
  Keys : spliceref03_Span
  Clock : Int
  Frozen : Bool
  Sealed : Bool
  Held : List spliceref12_Wait
  Base : List spliceref04_Pair
  Log : List spliceref12_Entry
  Known : List spliceref12_Known
def spliceref12_Core.z : spliceref12_Core := ⟨0, spliceref03_Span.z, 0, false, false, [], [], [], []⟩
structure spliceref05_Cell where
  Val : Int
  Some : Bool
def spliceref05_Cell.z : spliceref05_Cell := ⟨0, false⟩
structure arr2_int where
  i0 : Int
  i1 : Int
def arr2_int.z : arr2_int := ⟨0, 0⟩

inductive splicelaw15_fewEntries.S where
  | l1 (x1_3 : Int)

noncomputable def splicelaw15_fewEntries.j1 (x1_3 : Int) (y1_21 : Bool) : Option (splicelaw15_fewEntries.S ⊕ Bool) :=
  if y1_21 = true then
    some (.inr false)
  else
    some (.inl (.l1 (IntKind.wrap .i64 (x1_3 + 1))))

noncomputable def splicelaw15_fewEntries.l1 (a0 : List api_Entry) (x1_3 : Int) : Option (splicelaw15_fewEntries.S ⊕ Bool) :=
  if x1_3 < (a0.length : Int) then
    if x1_3 > 60 then
      splicelaw15_fewEntries.j1 x1_3 true
    else
      if 0 ≤ x1_3 ∧ x1_3 < (a0.length : Int) then
        splicelaw15_fewEntries.j1 x1_3 (decide (((((a0.getD x1_3.toNat api_Entry.z).M).Pairs).length : Int) > 20))
      else none
  else
    some (.inr true)

noncomputable def splicelaw15_fewEntries.step (a0 : List api_Entry) : splicelaw15_fewEntries.S → Option (splicelaw15_fewEntries.S ⊕ Bool)
  | .l1 x1_3 => splicelaw15_fewEntries.l1 a0 x1_3

noncomputable def splicelaw15_fewEntries (a0 : List api_Entry) : Option Bool :=
  goLoop (splicelaw15_fewEntries.step a0) (.l1 0)

noncomputable def splicelaw15_one (a0 : Int) (a1 : Int) (a2 : Int) : api_Mut :=
  (⟨1, a0, a0, ([(⟨a1, a2⟩ : api_Pair)] : List api_Pair), (⟨0, 0⟩ : api_Span), 0⟩ : api_Mut)

noncomputable def span_One.j1 (y1_2 : Bool) : Bool :=
  y1_2

noncomputable def span_One (a0 : api_Span) : Bool :=
  if a0.Lo ≥ 0 then
    if a0.Lo < a0.Hi then
      span_One.j1 (decide (a0.Hi ≤ 4096))
    else
      span_One.j1 false
  else
    span_One.j1 false

inductive span_Check.S where
  | l1 (x1_7 : Int)

noncomputable def span_Check.j1 (x1_7 : Int) (y1_29 : Bool) : Option (span_Check.S ⊕ Bool) :=
  if y1_29 = true then
    some (.inr false)
  else
    some (.inl (.l1 (IntKind.wrap .i64 (x1_7 + 1))))

noncomputable def span_Check.l1 (a0 : List api_Span) (x1_7 : Int) : Option (span_Check.S ⊕ Bool) :=
  if x1_7 < (a0.length : Int) then
    if 0 ≤ x1_7 ∧ x1_7 < (a0.length : Int) then
      if (span_One (a0.getD x1_7.toNat api_Span.z)) = true then
        if x1_7 > 0 then
          if 0 ≤ (IntKind.wrap .i64 (x1_7 - 1)) ∧ (IntKind.wrap .i64 (x1_7 - 1)) < (a0.length : Int) then
            span_Check.j1 x1_7 (decide (((a0.getD x1_7.toNat api_Span.z).Lo) ≤ ((a0.getD ((IntKind.wrap .i64 (x1_7 - 1)).toNat) api_Span.z).Hi)))
          else none
        else
          span_Check.j1 x1_7 false
      else
        span_Check.j1 x1_7 true
    else none
  else
    some (.inr (decide ((a0.length : Int) ≤ 64)))

noncomputable def span_Check.step (a0 : List api_Span) : span_Check.S → Option (span_Check.S ⊕ Bool)
  | .l1 x1_7 => span_Check.l1 a0 x1_7

noncomputable def span_Check (a0 : List api_Span) : Option Bool :=
  goLoop (span_Check.step a0) (.l1 0)

inductive slices_IndexFunc_api_Entry.S where
  | l1 (x1_8 : Int)

noncomputable def slices_IndexFunc_api_Entry.l1 (a0 : List api_Entry) (p1 : api_Entry → Option Bool) (x1_8 : Int) : Option (slices_IndexFunc_api_Entry.S ⊕ Int) :=
  if x1_8 < (a0.length : Int) then
    if 0 ≤ x1_8 ∧ x1_8 < (a0.length : Int) then
      (p1 (a0.getD x1_8.toNat api_Entry.z)).bind fun v1 =>
      if v1 = true then
        some (.inr x1_8)
      else
        some (.inl (.l1 (IntKind.wrap .i64 (x1_8 + 1))))
    else none
  else
    some (.inr (-1))

noncomputable def slices_IndexFunc_api_Entry.step (a0 : List api_Entry) (p1 : api_Entry → Option Bool) : slices_IndexFunc_api_Entry.S → Option (slices_IndexFunc_api_Entry.S ⊕ Int)
  | .l1 x1_8 => slices_IndexFunc_api_Entry.l1 a0 p1 x1_8

noncomputable def slices_IndexFunc_api_Entry (a0 : List api_Entry) (p1 : api_Entry → Option Bool) : Option Int :=
  goLoop (slices_IndexFunc_api_Entry.step a0 p1) (.l1 0)

noncomputable def slices_ContainsFunc_api_Entry (a0 : List api_Entry) (p1 : api_Entry → Option Bool) : Option Bool :=
  (slices_IndexFunc_api_Entry a0 p1).bind fun v1 =>
  some (decide (v1 ≥ 0))

inductive slices_IndexFunc_api_Pair.S where
  | l1 (x1_8 : Int)

noncomputable def slices_IndexFunc_api_Pair.l1 (a0 : List api_Pair) (p1 : api_Pair → Option Bool) (x1_8 : Int) : Option (slices_IndexFunc_api_Pair.S ⊕ Int) :=
  if x1_8 < (a0.length : Int) then
    if 0 ≤ x1_8 ∧ x1_8 < (a0.length : Int) then
      (p1 (a0.getD x1_8.toNat api_Pair.z)).bind fun v1 =>
      if v1 = true then
        some (.inr x1_8)
      else
        some (.inl (.l1 (IntKind.wrap .i64 (x1_8 + 1))))
    else none
  else
    some (.inr (-1))

noncomputable def slices_IndexFunc_api_Pair.step (a0 : List api_Pair) (p1 : api_Pair → Option Bool) : slices_IndexFunc_api_Pair.S → Option (slices_IndexFunc_api_Pair.S ⊕ Int)
  | .l1 x1_8 => slices_IndexFunc_api_Pair.l1 a0 p1 x1_8

noncomputable def slices_IndexFunc_api_Pair (a0 : List api_Pair) (p1 : api_Pair → Option Bool) : Option Int :=
  goLoop (slices_IndexFunc_api_Pair.step a0 p1) (.l1 0)

noncomputable def slices_ContainsFunc_api_Pair (a0 : List api_Pair) (p1 : api_Pair → Option Bool) : Option Bool :=
  (slices_IndexFunc_api_Pair a0 p1).bind fun v1 =>
  some (decide (v1 ≥ 0))

noncomputable def mut_value.j1 (y1_2 : Bool) : Bool :=
  y1_2

noncomputable def mut_value (a0 : Int) : Bool :=
  if a0 ≥ (-1099511627776) then
    mut_value.j1 (decide (a0 ≤ 1099511627776))
  else
    mut_value.j1 false

noncomputable def mut_pair.j1 (y1_2 : Bool) : Bool :=
  y1_2

noncomputable def mut_pair (a0 : api_Pair) : Bool :=
  if a0.Key ≥ 0 then
    if a0.Key < 4096 then
      mut_pair.j1 (mut_value a0.Val)
    else
      mut_pair.j1 false
  else
    mut_pair.j1 false

noncomputable def mut_pairs_1 (a0 : api_Pair) : Bool :=
  (!(mut_pair a0))

noncomputable def mut_pairs.j1 (y1_6 : Bool) : Option Bool :=
  some y1_6

noncomputable def mut_pairs (a0 : api_Mut) (a1 : Int) (a2 : Int) : Option Bool :=
  if (a0.Pairs.length : Int) ≥ a1 then
    if (a0.Pairs.length : Int) ≤ a2 then
      (slices_ContainsFunc_api_Pair a0.Pairs (fun z0 => some (mut_pairs_1 z0))).bind fun v1 =>
      mut_pairs.j1 (!v1)
    else
      mut_pairs.j1 false
  else
    mut_pairs.j1 false

inductive mut_rising.S where
  | l1 (x1_3 : Int)

noncomputable def mut_rising.l1 (a0 : List api_Pair) (x1_3 : Int) : Option (mut_rising.S ⊕ Bool) :=
  if x1_3 < (a0.length : Int) then
    if 0 ≤ (IntKind.wrap .i64 (x1_3 - 1)) ∧ (IntKind.wrap .i64 (x1_3 - 1)) < (a0.length : Int) then
      if 0 ≤ x1_3 ∧ x1_3 < (a0.length : Int) then
        if ((a0.getD ((IntKind.wrap .i64 (x1_3 - 1)).toNat) api_Pair.z).Key) ≥ ((a0.getD x1_3.toNat api_Pair.z).Key) then
          some (.inr false)
        else
          some (.inl (.l1 (IntKind.wrap .i64 (x1_3 + 1))))
      else none
    else none
  else
    some (.inr true)

noncomputable def mut_rising.step (a0 : List api_Pair) : mut_rising.S → Option (mut_rising.S ⊕ Bool)
  | .l1 x1_3 => mut_rising.l1 a0 x1_3

noncomputable def mut_rising (a0 : List api_Pair) : Option Bool :=
  goLoop (mut_rising.step a0) (.l1 1)

noncomputable def mut_kind.j2 (y2_2 : Bool) : Option Bool :=
  some y2_2

noncomputable def mut_kind.j3 (y3_2 : Bool) : Option Bool :=
  some y3_2

noncomputable def mut_kind.j4 (y4_2 : Bool) : Option Bool :=
  some y4_2

noncomputable def mut_kind.j5 (y5_2 : Bool) : Option Bool :=
  some y5_2

noncomputable def mut_kind.j1 (a0 : api_Mut) (y1_23 : Bool) : Option Bool :=
  if y1_23 = true then
    some false
  else
    if a0.Kind = 1 then
      (mut_pairs a0 1 8).bind fun v1 =>
      if v1 = true then
        (mut_rising a0.Pairs).bind fun v2 =>
        mut_kind.j2 v2
      else
        mut_kind.j2 false
    else
      if a0.Kind = 2 then
        if (a0.Pairs.length : Int) = 0 then
          mut_kind.j3 (span_One a0.Over)
        else
          mut_kind.j3 false
      else
        if a0.Kind = 3 then
          (mut_pairs a0 1 1).bind fun v3 =>
          some v3
        else
          if a0.Kind = 4 then
            (mut_pairs a0 1 1).bind fun v4 =>
            if v4 = true then
              if (mut_value a0.Old) = true then
                mut_kind.j4 true
              else
                mut_kind.j4 (a0.Old == 1099511627777)
            else
              mut_kind.j4 false
          else
            if a0.Kind = 5 then
              (mut_pairs a0 2 2).bind fun v5 =>
              if v5 = true then
                if (0 : Int) ≤ 0 ∧ 0 < (a0.Pairs.length : Int) then
                  if (0 : Int) ≤ 1 ∧ 1 < (a0.Pairs.length : Int) then
                    if ((a0.Pairs.getD 0 api_Pair.z).Key) = ((a0.Pairs.getD 1 api_Pair.z).Key) then
                      mut_kind.j5 false
                    else
                      if ((a0.Pairs.getD 0 api_Pair.z).Val) = ((a0.Pairs.getD 1 api_Pair.z).Val) then
                        mut_kind.j5 (decide (((a0.Pairs.getD 0 api_Pair.z).Val) ≥ 0))
                      else
                        mut_kind.j5 false
                  else none
                else none
              else
                mut_kind.j5 false
            else
              some false

noncomputable def mut_kind (a0 : api_Mut) : Option Bool :=
  if a0.Kind = 2 then
    if a0.Kind = 4 then
      mut_kind.j1 a0 false
    else
      mut_kind.j1 a0 (a0.Old != 0)
  else
    if a0.Over.Lo = 0 then
      if a0.Over.Hi = 0 then
        if a0.Kind = 4 then
          mut_kind.j1 a0 false
        else
          mut_kind.j1 a0 (a0.Old != 0)
      else
        mut_kind.j1 a0 true
    else
      if a0.Over.Hi = 0 then
        mut_kind.j1 a0 true
      else
        mut_kind.j1 a0 true

noncomputable def mut_Check.j1 (y1_2 : Bool) : Option Bool :=
  some y1_2

noncomputable def mut_Check (a0 : api_Mut) : Option Bool :=
  if a0.Client ≥ 1 then
    if a0.Client ≤ 1048576 then
      if a0.Seq ≥ 1 then
        if a0.Seq ≤ 1073741824 then
          (mut_kind a0).bind fun v1 =>
          mut_Check.j1 v1
        else
          mut_Check.j1 false
      else
        mut_Check.j1 false
    else
      mut_Check.j1 false
  else
    mut_Check.j1 false

noncomputable def judge_Fold_1 (a0 : api_Entry) : Option Bool :=
  (mut_Check a0.M).bind fun v1 =>
  some (!v1)

inductive table_Check.S where
  | l1 (x1_7 : Int)

noncomputable def table_Check.j1 (x1_7 : Int) (y1_44 : Bool) : Option (table_Check.S ⊕ Bool) :=
  if y1_44 = true then
    some (.inr false)
  else
    some (.inl (.l1 (IntKind.wrap .i64 (x1_7 + 1))))

noncomputable def table_Check.l1 (a0 : List api_Pair) (x1_7 : Int) : Option (table_Check.S ⊕ Bool) :=
  if x1_7 < (a0.length : Int) then
    if 0 ≤ x1_7 ∧ x1_7 < (a0.length : Int) then
      if ((a0.getD x1_7.toNat api_Pair.z).Key) < 0 then
        table_Check.j1 x1_7 true
      else
        if ((a0.getD x1_7.toNat api_Pair.z).Key) ≥ 4096 then
          table_Check.j1 x1_7 true
        else
          if ((a0.getD x1_7.toNat api_Pair.z).Val) < (-1099511627776) then
            table_Check.j1 x1_7 true
          else
            if ((a0.getD x1_7.toNat api_Pair.z).Val) > 1099511627776 then
              table_Check.j1 x1_7 true
            else
              if x1_7 > 0 then
                if 0 ≤ (IntKind.wrap .i64 (x1_7 - 1)) ∧ (IntKind.wrap .i64 (x1_7 - 1)) < (a0.length : Int) then
                  table_Check.j1 x1_7 (decide (((a0.getD ((IntKind.wrap .i64 (x1_7 - 1)).toNat) api_Pair.z).Key) ≥ ((a0.getD x1_7.toNat api_Pair.z).Key)))
                else none
              else
                table_Check.j1 x1_7 false
    else none
  else
    some (.inr true)

noncomputable def table_Check.step (a0 : List api_Pair) : table_Check.S → Option (table_Check.S ⊕ Bool)
  | .l1 x1_7 => table_Check.l1 a0 x1_7

noncomputable def table_Check (a0 : List api_Pair) : Option Bool :=
  goLoop (table_Check.step a0) (.l1 0)

inductive slices_DeleteFunc_api_Pair.S where
  | l1 (x1_5 : Int) (x1_6 : Int) (x1_r1 : List api_Pair)

noncomputable def slices_DeleteFunc_api_Pair.j1 (x1_6 : Int) (y1_5 : Int) (y1_r1 : List api_Pair) : Option (slices_DeleteFunc_api_Pair.S ⊕ (List api_Pair)) :=
  some (.inl (.l1 y1_5 (IntKind.wrap .i64 (x1_6 + 1)) y1_r1))

noncomputable def slices_DeleteFunc_api_Pair.l1 (p1 : api_Pair → Option Bool) (x1_5 : Int) (x1_6 : Int) (x1_r1 : List api_Pair) : Option (slices_DeleteFunc_api_Pair.S ⊕ (List api_Pair)) :=
  if x1_6 < (x1_r1.length : Int) then
    if 0 ≤ x1_6 ∧ x1_6 < (x1_r1.length : Int) then
      (p1 (x1_r1.getD x1_6.toNat api_Pair.z)).bind fun v2 =>
      if v2 = true then
        slices_DeleteFunc_api_Pair.j1 x1_6 x1_5 x1_r1
      else
        if 0 ≤ x1_5 ∧ x1_5 < (x1_r1.length : Int) then
          slices_DeleteFunc_api_Pair.j1 x1_6 (IntKind.wrap .i64 (x1_5 + 1)) (x1_r1.set x1_5.toNat (x1_r1.getD x1_6.toNat api_Pair.z))
        else none
    else none
  else
    if 0 ≤ x1_5 ∧ x1_5 ≤ (x1_r1.length : Int) then
      some (.inr (x1_r1.take x1_5.toNat))
    else none

noncomputable def slices_DeleteFunc_api_Pair.step (p1 : api_Pair → Option Bool) : slices_DeleteFunc_api_Pair.S → Option (slices_DeleteFunc_api_Pair.S ⊕ (List api_Pair))
  | .l1 x1_5 x1_6 x1_r1 => slices_DeleteFunc_api_Pair.l1 p1 x1_5 x1_6 x1_r1

noncomputable def slices_DeleteFunc_api_Pair (a0 : List api_Pair) (p1 : api_Pair → Option Bool) : Option (List api_Pair) :=
  (slices_IndexFunc_api_Pair a0 p1).bind fun v1 =>
  if v1 = (-1) then
    some a0
  else
    goLoop (slices_DeleteFunc_api_Pair.step p1) (.l1 v1 (IntKind.wrap .i64 (v1 + 1)) a0)

inductive slices_IndexFunc_api_Span.S where
  | l1 (x1_8 : Int)

noncomputable def slices_IndexFunc_api_Span.l1 (a0 : List api_Span) (p1 : api_Span → Option Bool) (x1_8 : Int) : Option (slices_IndexFunc_api_Span.S ⊕ Int) :=
  if x1_8 < (a0.length : Int) then
    if 0 ≤ x1_8 ∧ x1_8 < (a0.length : Int) then
      (p1 (a0.getD x1_8.toNat api_Span.z)).bind fun v1 =>
      if v1 = true then
        some (.inr x1_8)
      else
        some (.inl (.l1 (IntKind.wrap .i64 (x1_8 + 1))))
    else none
  else
    some (.inr (-1))

noncomputable def slices_IndexFunc_api_Span.step (a0 : List api_Span) (p1 : api_Span → Option Bool) : slices_IndexFunc_api_Span.S → Option (slices_IndexFunc_api_Span.S ⊕ Int)
  | .l1 x1_8 => slices_IndexFunc_api_Span.l1 a0 p1 x1_8

noncomputable def slices_IndexFunc_api_Span (a0 : List api_Span) (p1 : api_Span → Option Bool) : Option Int :=
  goLoop (slices_IndexFunc_api_Span.step a0 p1) (.l1 0)

noncomputable def slices_ContainsFunc_api_Span (a0 : List api_Span) (p1 : api_Span → Option Bool) : Option Bool :=
  (slices_IndexFunc_api_Span a0 p1).bind fun v1 =>
  some (decide (v1 ≥ 0))

noncomputable def span_Has_1.j1 (y1_3 : Bool) : Bool :=
  y1_3

noncomputable def span_Has_1 (a0 : api_Span) (k0 : Int) : Bool :=
  if (span_One a0) = true then
    if k0 ≥ a0.Lo then
      span_Has_1.j1 (decide (k0 < a0.Hi))
    else
      span_Has_1.j1 false
  else
    span_Has_1.j1 false

noncomputable def span_Has (a0 : List api_Span) (a1 : Int) : Option Bool :=
  (slices_ContainsFunc_api_Span a0 (fun z0 => some (span_Has_1 z0 a1))).bind fun v1 =>
  some v1

noncomputable def table_cut_1.j1 (y1_4 : Bool) : Option Bool :=
  some y1_4

noncomputable def table_cut_1 (a0 : api_Pair) (k0 : api_Span) (k1 : List api_Span) : Option Bool :=
  if a0.Key ≥ k0.Lo then
    if a0.Key < k0.Hi then
      (span_Has k1 a0.Key).bind fun v1 =>
      table_cut_1.j1 v1
    else
      table_cut_1.j1 false
  else
    table_cut_1.j1 false

noncomputable def table_cut (a0 : List api_Pair) (a1 : api_Span) (a2 : List api_Span) : Option (List api_Pair) :=
  (slices_DeleteFunc_api_Pair a0 (fun z0 => table_cut_1 z0 a1 a2)).bind fun v1 =>
  some v1

noncomputable def mut_Alone.j1 (y1_2 : Bool) : Option Bool :=
  some y1_2

noncomputable def mut_Alone (a0 : api_Mut) : Option Bool :=
  (mut_Check a0).bind fun v1 =>
  if v1 = true then
    if a0.Kind = 3 then
      mut_Alone.j1 true
    else
      mut_Alone.j1 (a0.Kind == 4)
  else
    mut_Alone.j1 false

inductive slices_BinarySearchFunc_int.S where
  | l1 (x1_9 : Int) (x1_10 : Int)

noncomputable def slices_BinarySearchFunc_int.j1 (x1_9 : Int) (y1_7 : Bool) : Option (slices_BinarySearchFunc_int.S ⊕ (Int × Bool)) :=
  some (.inr (x1_9, y1_7))

noncomputable def slices_BinarySearchFunc_int.l1 (a0 : List api_Pair) (a1 : Int) (p2 : api_Pair → Int → Option Int) (x1_9 : Int) (x1_10 : Int) : Option (slices_BinarySearchFunc_int.S ⊕ (Int × Bool)) :=
  if x1_9 < x1_10 then
    bnd (IntKind.wrap .i64 (Int.fdiv (IntKind.wrap .u64 (IntKind.wrap .i64 (x1_9 + x1_10))) 2)) fun (v2 : Int) =>
    if 0 ≤ v2 ∧ v2 < (a0.length : Int) then
      (p2 (a0.getD v2.toNat api_Pair.z) a1).bind fun v3 =>
      if v3 < 0 then
        some (.inl (.l1 (IntKind.wrap .i64 (v2 + 1)) x1_10))
      else
        some (.inl (.l1 x1_9 v2))
    else none
  else
    if x1_9 < (a0.length : Int) then
      if 0 ≤ x1_9 ∧ x1_9 < (a0.length : Int) then
        (p2 (a0.getD x1_9.toNat api_Pair.z) a1).bind fun v1 =>
        slices_BinarySearchFunc_int.j1 x1_9 (v1 == 0)
      else none
    else
      slices_BinarySearchFunc_int.j1 x1_9 false

noncomputable def slices_BinarySearchFunc_int.step (a0 : List api_Pair) (a1 : Int) (p2 : api_Pair → Int → Option Int) : slices_BinarySearchFunc_int.S → Option (slices_BinarySearchFunc_int.S ⊕ (Int × Bool))
  | .l1 x1_9 x1_10 => slices_BinarySearchFunc_int.l1 a0 a1 p2 x1_9 x1_10

noncomputable def slices_BinarySearchFunc_int (a0 : List api_Pair) (a1 : Int) (p2 : api_Pair → Int → Option Int) : Option (Int × Bool) :=
  goLoop (slices_BinarySearchFunc_int.step a0 a1 p2) (.l1 0 (a0.length : Int))

noncomputable def cmp_isNaN_int (a0 : Int) : Bool :=
  (a0 != a0)

noncomputable def cmp_Compare_int (a0 : Int) (a1 : Int) : Int :=
  if (cmp_isNaN_int a0) = true then
    if (cmp_isNaN_int a1) = true then
      0
    else
      (-1)
  else
    if (cmp_isNaN_int a1) = true then
      1
    else
      if a0 < a1 then
        (-1)
      else
        if a0 > a1 then
          1
        else
          0

noncomputable def table_find_1 (a0 : api_Pair) (a1 : Int) : Int :=
  cmp_Compare_int a0.Key a1

noncomputable def table_find (a0 : List api_Pair) (a1 : Int) : Option (Int × Bool) :=
  (slices_BinarySearchFunc_int a0 a1 (fun z0 z1 => some (table_find_1 z0 z1))).bind fun v1 =>
  some (v1.1, v1.2)

noncomputable def table_get (a0 : List api_Pair) (a1 : Int) : Option (Int × Bool) :=
  (table_find a0 a1).bind fun v1 =>
  if v1.2 = true then
    if 0 ≤ v1.1 ∧ v1.1 < (a0.length : Int) then
      some ((a0.getD v1.1.toNat api_Pair.z).Val, true)
    else none
  else
    some (0, false)

noncomputable def table_put (a0 : List api_Pair) (a1 : Int) (a2 : Int) : Option (List api_Pair) :=
  (table_find a0 a1).bind fun v1 =>
  if v1.2 = true then
    if 0 ≤ v1.1 ∧ v1.1 < (a0.length : Int) then
      some (a0.set v1.1.toNat (⟨(a0.getD v1.1.toNat api_Pair.z).Key, a2⟩ : api_Pair))
    else none
  else
    if (0 ≤ v1.1 ∧ v1.1 ≤ (a0.length : Int)) ∧ (a0.length + 1) * 16 ≤ 140737488355328 then
      some (a0.take v1.1.toNat ++ (⟨a1, a2⟩ : api_Pair) :: a0.drop v1.1.toNat)
    else none

noncomputable def table_alone.j1 (a0 : List api_Pair) (a1 : api_Mut) (v1 : Int × Bool) (y1_34 : Bool) : Option ((List api_Pair) × Bool) :=
  if y1_34 = true then
    some (a0, false)
  else
    (table_put a0 ((a1.Pairs.getD 0 api_Pair.z).Key) (IntKind.wrap .i64 (v1.1 + ((a1.Pairs.getD 0 api_Pair.z).Val)))).bind fun v2 =>
    some (v2, true)

noncomputable def table_alone.j2 (a0 : List api_Pair) (a1 : api_Mut) (y2_7 : Int) : Option ((List api_Pair) × Bool) :=
  if y2_7 = a1.Old then
    (table_put a0 ((a1.Pairs.getD 0 api_Pair.z).Key) ((a1.Pairs.getD 0 api_Pair.z).Val)).bind fun v3 =>
    some (v3, true)
  else
    some (a0, false)

noncomputable def table_alone (a0 : List api_Pair) (a1 : api_Mut) : Option ((List api_Pair) × Bool) :=
  if (0 : Int) ≤ 0 ∧ 0 < (a1.Pairs.length : Int) then
    (table_get a0 ((a1.Pairs.getD 0 api_Pair.z).Key)).bind fun v1 =>
    if a1.Kind = 3 then
      if (IntKind.wrap .i64 (v1.1 + ((a1.Pairs.getD 0 api_Pair.z).Val))) < 0 then
        table_alone.j1 a0 a1 v1 true
      else
        table_alone.j1 a0 a1 v1 (decide ((IntKind.wrap .i64 (v1.1 + ((a1.Pairs.getD 0 api_Pair.z).Val))) > 1099511627776))
    else
      if v1.2 = true then
        table_alone.j2 a0 a1 v1.1
      else
        table_alone.j2 a0 a1 1099511627777
  else none

noncomputable def table_move (a0 : List api_Pair) (a1 : Int) (a2 : Int) : Option (List api_Pair) :=
  (table_get a0 a1).bind fun v1 =>
  (table_put a0 a1 (iMin (iMax (IntKind.wrap .i64 (v1.1 + a2)) (-1099511627776)) 1099511627776)).bind fun v2 =>
  some v2

inductive table_Apply.S where
  | l1 (x1_54 : Int) (x1_r1 : List api_Pair)

noncomputable def table_Apply.j2 (x1_54 : Int) (y2_r1 : List api_Pair) : Option (table_Apply.S ⊕ ((List api_Pair) × Bool)) :=
  some (.inl (.l1 (IntKind.wrap .i64 (x1_54 + 1)) y2_r1))

noncomputable def table_Apply.l1 (a1 : api_Mut) (a2 : List api_Span) (x1_54 : Int) (x1_r1 : List api_Pair) : Option (table_Apply.S ⊕ ((List api_Pair) × Bool)) :=
  if x1_54 < (a1.Pairs.length : Int) then
    if 0 ≤ x1_54 ∧ x1_54 < (a1.Pairs.length : Int) then
      (span_Has a2 ((a1.Pairs.getD x1_54.toNat api_Pair.z).Key)).bind fun v8 =>
      if v8 = true then
        if a1.Kind = 1 then
          (table_put x1_r1 ((a1.Pairs.getD x1_54.toNat api_Pair.z).Key) ((a1.Pairs.getD x1_54.toNat api_Pair.z).Val)).bind fun v9 =>
          table_Apply.j2 x1_54 v9
        else
          if x1_54 = 0 then
            (table_move x1_r1 ((a1.Pairs.getD x1_54.toNat api_Pair.z).Key) (IntKind.wrap .i64 (0 - ((a1.Pairs.getD x1_54.toNat api_Pair.z).Val)))).bind fun v10 =>
            table_Apply.j2 x1_54 v10
          else
            (table_move x1_r1 ((a1.Pairs.getD x1_54.toNat api_Pair.z).Key) ((a1.Pairs.getD x1_54.toNat api_Pair.z).Val)).bind fun v11 =>
            table_Apply.j2 x1_54 v11
      else
        table_Apply.j2 x1_54 x1_r1
    else none
  else
    some (.inr (x1_r1, true))

noncomputable def table_Apply.step (a1 : api_Mut) (a2 : List api_Span) : table_Apply.S → Option (table_Apply.S ⊕ ((List api_Pair) × Bool))
  | .l1 x1_54 x1_r1 => table_Apply.l1 a1 a2 x1_54 x1_r1

noncomputable def table_Apply.j1 (a0 : List api_Pair) (a1 : api_Mut) (a2 : List api_Span) (y1_22 : Bool) : Option ((List api_Pair) × Bool) :=
  if y1_22 = true then
    some (([] : List api_Pair), false)
  else
    if a0.length * 16 ≤ 140737488355328 then
      if a1.Kind = 2 then
        (table_cut a0 a1.Over a2).bind fun v4 =>
        some (v4, true)
      else
        (mut_Alone a1).bind fun v5 =>
        if v5 = true then
          if (0 : Int) ≤ 0 ∧ 0 < (a1.Pairs.length : Int) then
            (span_Has a2 ((a1.Pairs.getD 0 api_Pair.z).Key)).bind fun v6 =>
            if v6 = true then
              (table_alone a0 a1).bind fun v7 =>
              some (v7.1, v7.2)
            else
              some (a0, true)
          else none
        else
          goLoop (table_Apply.step a1 a2) (.l1 0 a0)
    else none

noncomputable def table_Apply (a0 : List api_Pair) (a1 : api_Mut) (a2 : List api_Span) : Option ((List api_Pair) × Bool) :=
  (table_Check a0).bind fun v1 =>
  if v1 = true then
    (mut_Check a1).bind fun v2 =>
    if v2 = true then
      (span_Check a2).bind fun v3 =>
      table_Apply.j1 a0 a1 a2 (!v3)
    else
      table_Apply.j1 a0 a1 a2 true
  else
    table_Apply.j1 a0 a1 a2 true

inductive judge_Fold.S where
  | l1 (x1_19 : Int) (x1_r0 : List api_Pair)

noncomputable def judge_Fold.j3 (x1_19 : Int) (y3_r0 : List api_Pair) : Option (judge_Fold.S ⊕ (List api_Pair)) :=
  some (.inl (.l1 (IntKind.wrap .i64 (x1_19 + 1)) y3_r0))

noncomputable def judge_Fold.j2 (a0 : List api_Entry) (a1 : List api_Span) (x1_19 : Int) (x1_r0 : List api_Pair) (y2_30 : Bool) : Option (judge_Fold.S ⊕ (List api_Pair)) :=
  if y2_30 = true then
    (table_Apply x1_r0 ((a0.getD x1_19.toNat api_Entry.z).M) a1).bind fun v3 =>
    judge_Fold.j3 x1_19 v3.1
  else
    judge_Fold.j3 x1_19 x1_r0

noncomputable def judge_Fold.l1 (a0 : List api_Entry) (a1 : List api_Span) (a2 : Int) (x1_19 : Int) (x1_r0 : List api_Pair) : Option (judge_Fold.S ⊕ (List api_Pair)) :=
  if x1_19 < (a0.length : Int) then
    if 0 ≤ x1_19 ∧ x1_19 < (a0.length : Int) then
      if ((a0.getD x1_19.toNat api_Entry.z).Done) = true then
        judge_Fold.j2 a0 a1 x1_19 x1_r0 (decide (((a0.getD x1_19.toNat api_Entry.z).Time) ≤ a2))
      else
        judge_Fold.j2 a0 a1 x1_19 x1_r0 false
    else none
  else
    some (.inr x1_r0)

noncomputable def judge_Fold.step (a0 : List api_Entry) (a1 : List api_Span) (a2 : Int) : judge_Fold.S → Option (judge_Fold.S ⊕ (List api_Pair))
  | .l1 x1_19 x1_r0 => judge_Fold.l1 a0 a1 a2 x1_19 x1_r0

noncomputable def judge_Fold.j1 (a0 : List api_Entry) (a1 : List api_Span) (a2 : Int) (y1_16 : Bool) : Option (List api_Pair) :=
  if y1_16 = true then
    some ([] : List api_Pair)
  else
    goLoop (judge_Fold.step a0 a1 a2) (.l1 0 ([] : List api_Pair))

noncomputable def judge_Fold (a0 : List api_Entry) (a1 : List api_Span) (a2 : Int) : Option (List api_Pair) :=
  (span_Check a1).bind fun v1 =>
  if v1 = true then
    (slices_ContainsFunc_api_Entry a0 (fun z0 => judge_Fold_1 z0)).bind fun v2 =>
    judge_Fold.j1 a0 a1 a2 v2
  else
    judge_Fold.j1 a0 a1 a2 true

inductive slices_IndexFunc_api_Mut.S where
  | l1 (x1_8 : Int)

noncomputable def slices_IndexFunc_api_Mut.l1 (a0 : List api_Mut) (p1 : api_Mut → Option Bool) (x1_8 : Int) : Option (slices_IndexFunc_api_Mut.S ⊕ Int) :=
  if x1_8 < (a0.length : Int) then
    if 0 ≤ x1_8 ∧ x1_8 < (a0.length : Int) then
      (p1 (a0.getD x1_8.toNat api_Mut.z)).bind fun v1 =>
      if v1 = true then
        some (.inr x1_8)
      else
        some (.inl (.l1 (IntKind.wrap .i64 (x1_8 + 1))))
    else none
  else
    some (.inr (-1))

noncomputable def slices_IndexFunc_api_Mut.step (a0 : List api_Mut) (p1 : api_Mut → Option Bool) : slices_IndexFunc_api_Mut.S → Option (slices_IndexFunc_api_Mut.S ⊕ Int)
  | .l1 x1_8 => slices_IndexFunc_api_Mut.l1 a0 p1 x1_8

noncomputable def slices_IndexFunc_api_Mut (a0 : List api_Mut) (p1 : api_Mut → Option Bool) : Option Int :=
  goLoop (slices_IndexFunc_api_Mut.step a0 p1) (.l1 0)

noncomputable def slices_ContainsFunc_api_Mut (a0 : List api_Mut) (p1 : api_Mut → Option Bool) : Option Bool :=
  (slices_IndexFunc_api_Mut a0 p1).bind fun v1 =>
  some (decide (v1 ≥ 0))

noncomputable def judge_Onto_1 (a0 : api_Mut) : Option Bool :=
  (mut_Check a0).bind fun v1 =>
  some (!v1)

inductive judge_Onto.S where
  | l1 (x1_26 : Int) (x1_r0 : List api_Pair)

noncomputable def judge_Onto.l1 (a1 : List api_Mut) (a2 : List api_Span) (x1_26 : Int) (x1_r0 : List api_Pair) : Option (judge_Onto.S ⊕ (List api_Pair)) :=
  if x1_26 < (a1.length : Int) then
    if 0 ≤ x1_26 ∧ x1_26 < (a1.length : Int) then
      (table_Apply x1_r0 (a1.getD x1_26.toNat api_Mut.z) a2).bind fun v4 =>
      some (.inl (.l1 (IntKind.wrap .i64 (x1_26 + 1)) v4.1))
    else none
  else
    some (.inr x1_r0)

noncomputable def judge_Onto.step (a1 : List api_Mut) (a2 : List api_Span) : judge_Onto.S → Option (judge_Onto.S ⊕ (List api_Pair))
  | .l1 x1_26 x1_r0 => judge_Onto.l1 a1 a2 x1_26 x1_r0

noncomputable def judge_Onto.j1 (a0 : List api_Pair) (a1 : List api_Mut) (a2 : List api_Span) (y1_21 : Bool) : Option (List api_Pair) :=
  if y1_21 = true then
    some ([] : List api_Pair)
  else
    if a0.length * 16 ≤ 140737488355328 then
      goLoop (judge_Onto.step a1 a2) (.l1 0 a0)
    else none

noncomputable def judge_Onto (a0 : List api_Pair) (a1 : List api_Mut) (a2 : List api_Span) : Option (List api_Pair) :=
  (table_Check a0).bind fun v1 =>
  if v1 = true then
    (span_Check a2).bind fun v2 =>
    if v2 = true then
      (slices_ContainsFunc_api_Mut a1 (fun z0 => judge_Onto_1 z0)).bind fun v3 =>
      judge_Onto.j1 a0 a1 a2 v3
    else
      judge_Onto.j1 a0 a1 a2 true
  else
    judge_Onto.j1 a0 a1 a2 true

noncomputable def judge_Clients_1.j1 (y1_3 : Bool) : Bool :=
  y1_3

noncomputable def judge_Clients_1 (a0 : api_Entry) (k0 : api_Entry) : Bool :=
  if a0.M.Client = k0.M.Client then
    judge_Clients_1.j1 (decide (a0.M.Seq ≥ k0.M.Seq))
  else
    judge_Clients_1.j1 false

inductive judge_Clients.S where
  | l1 (x1_7 : Int)

noncomputable def judge_Clients.l1 (a0 : List api_Entry) (x1_7 : Int) : Option (judge_Clients.S ⊕ Bool) :=
  if x1_7 < (a0.length : Int) then
    if 0 ≤ x1_7 ∧ x1_7 < (a0.length : Int) then
      if 0 ≤ (0 : Int) ∧ (0 : Int) ≤ x1_7 ∧ x1_7 ≤ (a0.length : Int) then
        (slices_ContainsFunc_api_Entry ((a0.drop 0).take (x1_7.toNat - 0)) (fun z0 => some (judge_Clients_1 z0 (a0.getD x1_7.toNat api_Entry.z)))).bind fun v1 =>
        if v1 = true then
          some (.inr false)
        else
          some (.inl (.l1 (IntKind.wrap .i64 (x1_7 + 1))))
      else none
    else none
  else
    some (.inr true)

noncomputable def judge_Clients.step (a0 : List api_Entry) : judge_Clients.S → Option (judge_Clients.S ⊕ Bool)
  | .l1 x1_7 => judge_Clients.l1 a0 x1_7

noncomputable def judge_Clients (a0 : List api_Entry) : Option Bool :=
  goLoop (judge_Clients.step a0) (.l1 0)

noncomputable def splicelaw15_awake.j1 (y1_0 : Bool) : Option Bool :=
  some y1_0

noncomputable def splicelaw15_awake : Option Bool :=
  bnd (splicelaw15_one 1 5 1) fun (v1 : api_Mut) =>
  bnd (splicelaw15_one 3 5 2) fun (v2 : api_Mut) =>
  (judge_Fold ([(⟨(⟨v1.Client, v1.Seq, v1.Kind, v1.Pairs, (v1.Over), v1.Old⟩ : api_Mut), 3, true⟩ : api_Entry), (⟨(⟨v2.Client, v2.Seq, v2.Kind, v2.Pairs, (v2.Over), v2.Old⟩ : api_Mut), 4, true⟩ : api_Entry)] : List api_Entry) ([(⟨0, 9⟩ : api_Span)] : List api_Span) 3).bind fun v3 =>
  (judge_Fold ([(⟨(⟨v1.Client, v1.Seq, v1.Kind, v1.Pairs, (v1.Over), v1.Old⟩ : api_Mut), 3, true⟩ : api_Entry), (⟨(⟨v2.Client, v2.Seq, v2.Kind, v2.Pairs, (v2.Over), v2.Old⟩ : api_Mut), 4, true⟩ : api_Entry)] : List api_Entry) ([(⟨0, 9⟩ : api_Span)] : List api_Span) 9).bind fun v4 =>
  bnd (splicelaw15_one 3 5 4) fun (v5 : api_Mut) =>
  (judge_Onto v4 ([v5] : List api_Mut) ([(⟨0, 9⟩ : api_Span)] : List api_Span)).bind fun v6 =>
  if (v3.length : Int) = 1 then
    if (0 : Int) ≤ 0 ∧ 0 < (v3.length : Int) then
      if ((v3.getD 0 api_Pair.z).Val) = 1 then
        if (v4.length : Int) = 1 then
          if (0 : Int) ≤ 0 ∧ 0 < (v4.length : Int) then
            if ((v4.getD 0 api_Pair.z).Val) = 3 then
              if (v6.length : Int) = 1 then
                if (0 : Int) ≤ 0 ∧ 0 < (v6.length : Int) then
                  if ((v6.getD 0 api_Pair.z).Val) = 7 then
                    (judge_Clients ([(⟨(⟨v1.Client, v1.Seq, v1.Kind, v1.Pairs, (v1.Over), v1.Old⟩ : api_Mut), 3, true⟩ : api_Entry), (⟨(⟨v2.Client, v2.Seq, v2.Kind, v2.Pairs, (v2.Over), v2.Old⟩ : api_Mut), 4, true⟩ : api_Entry)] : List api_Entry)).bind fun v7 =>
                    splicelaw15_awake.j1 v7
                  else
                    splicelaw15_awake.j1 false
                else none
              else
                splicelaw15_awake.j1 false
            else
              splicelaw15_awake.j1 false
          else none
        else
          splicelaw15_awake.j1 false
      else
        splicelaw15_awake.j1 false
    else none
  else
    splicelaw15_awake.j1 false

inductive splicelaw05_Refs.S where
  | l1 (x1_4 : Int) (x1_r0 : List spliceref04_Pair)

noncomputable def splicelaw05_Refs.l1 (a0 : List api_Pair) (x1_4 : Int) (x1_r0 : List spliceref04_Pair) : Option (splicelaw05_Refs.S ⊕ (List spliceref04_Pair)) :=
  if x1_4 < (a0.length : Int) then
    if 0 ≤ x1_4 ∧ x1_4 < (a0.length : Int) then
      if (x1_r0.length + 1) * 16 ≤ 140737488355328 then
        some (.inl (.l1 (IntKind.wrap .i64 (x1_4 + 1)) (x1_r0 ++ [(⟨(a0.getD x1_4.toNat api_Pair.z).Key, (a0.getD x1_4.toNat api_Pair.z).Val⟩ : spliceref04_Pair)])))
      else none
    else none
  else
    some (.inr x1_r0)

noncomputable def splicelaw05_Refs.step (a0 : List api_Pair) : splicelaw05_Refs.S → Option (splicelaw05_Refs.S ⊕ (List spliceref04_Pair))
  | .l1 x1_4 x1_r0 => splicelaw05_Refs.l1 a0 x1_4 x1_r0

noncomputable def splicelaw05_Refs (a0 : List api_Pair) : Option (List spliceref04_Pair) :=
  goLoop (splicelaw05_Refs.step a0) (.l1 0 ([] : List spliceref04_Pair))

inductive splicelaw04_Ref.S where
  | l1 (x1_4 : Int) (x1_r3 : List spliceref04_Pair)

noncomputable def splicelaw04_Ref.l1 (a0 : api_Mut) (x1_4 : Int) (x1_r3 : List spliceref04_Pair) : Option (splicelaw04_Ref.S ⊕ spliceref04_Mut) :=
  if x1_4 < (a0.Pairs.length : Int) then
    if 0 ≤ x1_4 ∧ x1_4 < (a0.Pairs.length : Int) then
      if (x1_r3.length + 1) * 16 ≤ 140737488355328 then
        some (.inl (.l1 (IntKind.wrap .i64 (x1_4 + 1)) (x1_r3 ++ [(⟨(a0.Pairs.getD x1_4.toNat api_Pair.z).Key, (a0.Pairs.getD x1_4.toNat api_Pair.z).Val⟩ : spliceref04_Pair)])))
      else none
    else none
  else
    some (.inr (⟨a0.Client, a0.Seq, a0.Kind, x1_r3, (⟨a0.Over.Lo, a0.Over.Hi⟩ : spliceref03_Span), a0.Old⟩ : spliceref04_Mut))

noncomputable def splicelaw04_Ref.step (a0 : api_Mut) : splicelaw04_Ref.S → Option (splicelaw04_Ref.S ⊕ spliceref04_Mut)
  | .l1 x1_4 x1_r3 => splicelaw04_Ref.l1 a0 x1_4 x1_r3

noncomputable def splicelaw04_Ref (a0 : api_Mut) : Option spliceref04_Mut :=
  goLoop (splicelaw04_Ref.step a0) (.l1 0 ([] : List spliceref04_Pair))

inductive splicelaw12_Ref.S where
  | l1 (x1_4 : Int) (x1_r3 : List spliceref12_Wait)
  | l2 (x2_7 : Int) (x2_r3 : List spliceref12_Wait) (x2_r4 : List spliceref12_Entry)
  | l3 (v2 : spliceref04_Mut) (x3_4 : Int) (x3_6 : Int) (x3_r3 : List spliceref12_Wait) (x3_b4_7 : Int) (x3_b4_8 : Bool) (x3_r5 : List spliceref12_Peer)
  | l4 (x4_8 : Int) (x4_r3 : List spliceref12_Wait) (x4_r4 : List spliceref12_Entry) (x4_r5 : List spliceref12_Known)

noncomputable def splicelaw12_Ref.l1 (a0 : api_Core) (x1_4 : Int) (x1_r3 : List spliceref12_Wait) : Option (splicelaw12_Ref.S ⊕ spliceref12_Core) :=
  if x1_4 < (a0.Held.length : Int) then
    if 0 ≤ x1_4 ∧ x1_4 < (a0.Held.length : Int) then
      (splicelaw04_Ref ((a0.Held.getD x1_4.toNat api_Wait.z).M)).bind fun v2 =>
      some (.inl (.l3 v2 x1_4 0 x1_r3 ((a0.Held.getD x1_4.toNat api_Wait.z).Time) ((a0.Held.getD x1_4.toNat api_Wait.z).Final) ([] : List spliceref12_Peer)))
    else none
  else
    some (.inl (.l2 0 x1_r3 ([] : List spliceref12_Entry)))

noncomputable def splicelaw12_Ref.l2 (a0 : api_Core) (x2_7 : Int) (x2_r3 : List spliceref12_Wait) (x2_r4 : List spliceref12_Entry) : Option (splicelaw12_Ref.S ⊕ spliceref12_Core) :=
  if x2_7 < (a0.Log.length : Int) then
    if 0 ≤ x2_7 ∧ x2_7 < (a0.Log.length : Int) then
      (splicelaw04_Ref ((a0.Log.getD x2_7.toNat api_Entry.z).M)).bind fun v3 =>
      if (x2_r4.length + 1) * 88 ≤ 140737488355328 then
        some (.inl (.l2 (IntKind.wrap .i64 (x2_7 + 1)) x2_r3 (x2_r4 ++ [(⟨v3, (a0.Log.getD x2_7.toNat api_Entry.z).Time, (a0.Log.getD x2_7.toNat api_Entry.z).Done⟩ : spliceref12_Entry)])))
      else none
    else none
  else
    some (.inl (.l4 0 x2_r3 x2_r4 ([] : List spliceref12_Known)))

noncomputable def splicelaw12_Ref.l3 (a0 : api_Core) (v2 : spliceref04_Mut) (x3_4 : Int) (x3_6 : Int) (x3_r3 : List spliceref12_Wait) (x3_b4_7 : Int) (x3_b4_8 : Bool) (x3_r5 : List spliceref12_Peer) : Option (splicelaw12_Ref.S ⊕ spliceref12_Core) :=
  if 0 ≤ x3_4 ∧ x3_4 < (a0.Held.length : Int) then
    if x3_6 < (((a0.Held.getD x3_4.toNat api_Wait.z).Peers).length : Int) then
      if 0 ≤ x3_6 ∧ x3_6 < (((a0.Held.getD x3_4.toNat api_Wait.z).Peers).length : Int) then
        if (x3_r5.length + 1) * 16 ≤ 140737488355328 then
          some (.inl (.l3 v2 x3_4 (IntKind.wrap .i64 (x3_6 + 1)) x3_r3 x3_b4_7 x3_b4_8 (x3_r5 ++ [(⟨(((a0.Held.getD x3_4.toNat api_Wait.z).Peers).getD x3_6.toNat api_Peer.z).Shard, (((a0.Held.getD x3_4.toNat api_Wait.z).Peers).getD x3_6.toNat api_Peer.z).Time⟩ : spliceref12_Peer)])))
        else none
      else none
    else
      if (x3_r3.length + 1) * 112 ≤ 140737488355328 then
        some (.inl (.l1 (IntKind.wrap .i64 (x3_4 + 1)) (x3_r3 ++ [(⟨v2, x3_b4_7, x3_b4_8, x3_r5⟩ : spliceref12_Wait)])))
      else none
  else none

noncomputable def splicelaw12_Ref.l4 (a0 : api_Core) (v1 : List spliceref04_Pair) (x4_8 : Int) (x4_r3 : List spliceref12_Wait) (x4_r4 : List spliceref12_Entry) (x4_r5 : List spliceref12_Known) : Option (splicelaw12_Ref.S ⊕ spliceref12_Core) :=
  if x4_8 < (a0.Known.length : Int) then
    if 0 ≤ x4_8 ∧ x4_8 < (a0.Known.length : Int) then
      if (x4_r5.length + 1) * 32 ≤ 140737488355328 then
        some (.inl (.l4 (IntKind.wrap .i64 (x4_8 + 1)) x4_r3 x4_r4 (x4_r5 ++ [(⟨(a0.Known.getD x4_8.toNat api_Known.z).Client, (a0.Known.getD x4_8.toNat api_Known.z).Seq, (a0.Known.getD x4_8.toNat api_Known.z).Time, (a0.Known.getD x4_8.toNat api_Known.z).Done⟩ : spliceref12_Known)])))
      else none
    else none
  else
    some (.inr (⟨a0.ID, (⟨a0.Keys.Lo, a0.Keys.Hi⟩ : spliceref03_Span), a0.Clock, a0.Frozen, a0.Sealed, x4_r3, v1, x4_r4, x4_r5⟩ : spliceref12_Core))

noncomputable def splicelaw12_Ref.step (a0 : api_Core) (v1 : List spliceref04_Pair) : splicelaw12_Ref.S → Option (splicelaw12_Ref.S ⊕ spliceref12_Core)
  | .l1 x1_4 x1_r3 => splicelaw12_Ref.l1 a0 x1_4 x1_r3
  | .l2 x2_7 x2_r3 x2_r4 => splicelaw12_Ref.l2 a0 x2_7 x2_r3 x2_r4
  | .l3 v2 x3_4 x3_6 x3_r3 x3_b4_7 x3_b4_8 x3_r5 => splicelaw12_Ref.l3 a0 v2 x3_4 x3_6 x3_r3 x3_b4_7 x3_b4_8 x3_r5
  | .l4 x4_8 x4_r3 x4_r4 x4_r5 => splicelaw12_Ref.l4 a0 v1 x4_8 x4_r3 x4_r4 x4_r5

noncomputable def splicelaw12_Ref (a0 : api_Core) : Option spliceref12_Core :=
  (splicelaw05_Refs a0.Base).bind fun v1 =>
  goLoop (splicelaw12_Ref.step a0 v1) (.l1 0 ([] : List spliceref12_Wait))

noncomputable def splicelaw15_Entries (a0 : List api_Entry) : Option (List spliceref12_Entry) :=
  (splicelaw12_Ref (⟨0, (⟨0, 0⟩ : api_Span), 0, false, false, [], [], a0, []⟩ : api_Core)).bind fun v1 =>
  some v1.Log

inductive splicelaw03_Refs.S where
  | l1 (x1_4 : Int) (x1_r0 : List spliceref03_Span)

noncomputable def splicelaw03_Refs.l1 (a0 : List api_Span) (x1_4 : Int) (x1_r0 : List spliceref03_Span) : Option (splicelaw03_Refs.S ⊕ (List spliceref03_Span)) :=
  if x1_4 < (a0.length : Int) then
    if 0 ≤ x1_4 ∧ x1_4 < (a0.length : Int) then
      if (x1_r0.length + 1) * 16 ≤ 140737488355328 then
        some (.inl (.l1 (IntKind.wrap .i64 (x1_4 + 1)) (x1_r0 ++ [(⟨(a0.getD x1_4.toNat api_Span.z).Lo, (a0.getD x1_4.toNat api_Span.z).Hi⟩ : spliceref03_Span)])))
      else none
    else none
  else
    some (.inr x1_r0)

noncomputable def splicelaw03_Refs.step (a0 : List api_Span) : splicelaw03_Refs.S → Option (splicelaw03_Refs.S ⊕ (List spliceref03_Span))
  | .l1 x1_4 x1_r0 => splicelaw03_Refs.l1 a0 x1_4 x1_r0

noncomputable def splicelaw03_Refs (a0 : List api_Span) : Option (List spliceref03_Span) :=
  goLoop (splicelaw03_Refs.step a0) (.l1 0 ([] : List spliceref03_Span))

noncomputable def spliceref03_One.j1 (y1_2 : Bool) : Bool :=
  y1_2

noncomputable def spliceref03_One (a0 : spliceref03_Span) : Bool :=
  if a0.Lo ≥ 0 then
    if a0.Lo < a0.Hi then
      spliceref03_One.j1 (decide (a0.Hi ≤ 4096))
    else
      spliceref03_One.j1 false
  else
    spliceref03_One.j1 false

noncomputable def spliceref04_value.j1 (y1_2 : Bool) : Bool :=
  y1_2

noncomputable def spliceref04_value (a0 : Int) : Bool :=
  if a0 ≥ (-1099511627776) then
    spliceref04_value.j1 (decide (a0 ≤ 1099511627776))
  else
    spliceref04_value.j1 false

inductive spliceref04_pairs.S where
  | l1 (x1_7 : Int)

noncomputable def spliceref04_pairs.j2 (x1_7 : Int) (y2_46 : Bool) : Option (spliceref04_pairs.S ⊕ Bool) :=
  if y2_46 = true then
    some (.inr false)
  else
    some (.inl (.l1 (IntKind.wrap .i64 (x1_7 + 1))))

noncomputable def spliceref04_pairs.l1 (a0 : List spliceref04_Pair) (x1_7 : Int) : Option (spliceref04_pairs.S ⊕ Bool) :=
  if x1_7 < (a0.length : Int) then
    if 0 ≤ x1_7 ∧ x1_7 < (a0.length : Int) then
      if ((a0.getD x1_7.toNat spliceref04_Pair.z).Key) < 0 then
        spliceref04_pairs.j2 x1_7 true
      else
        if ((a0.getD x1_7.toNat spliceref04_Pair.z).Key) > 4095 then
          spliceref04_pairs.j2 x1_7 true
        else
          spliceref04_pairs.j2 x1_7 (!(spliceref04_value ((a0.getD x1_7.toNat spliceref04_Pair.z).Val)))
    else none
  else
    some (.inr true)

noncomputable def spliceref04_pairs.step (a0 : List spliceref04_Pair) : spliceref04_pairs.S → Option (spliceref04_pairs.S ⊕ Bool)
  | .l1 x1_7 => spliceref04_pairs.l1 a0 x1_7

noncomputable def spliceref04_pairs.j1 (a0 : List spliceref04_Pair) (y1_17 : Bool) : Option Bool :=
  if y1_17 = true then
    some false
  else
    goLoop (spliceref04_pairs.step a0) (.l1 0)

noncomputable def spliceref04_pairs (a0 : List spliceref04_Pair) (a1 : Int) (a2 : Int) : Option Bool :=
  if (a0.length : Int) < a1 then
    spliceref04_pairs.j1 a0 true
  else
    spliceref04_pairs.j1 a0 (decide ((a0.length : Int) > a2))

noncomputable def spliceref04_Check.j2 (y2_2 : Bool) : Option Bool :=
  some y2_2

noncomputable def spliceref04_Check.j4 (y4_2 : Bool) : Option Bool :=
  some y4_2

inductive spliceref04_Check.S where
  | l1 (x1_3 : Int)

noncomputable def spliceref04_Check.l1 (a0 : spliceref04_Mut) (x1_3 : Int) : Option (spliceref04_Check.S ⊕ Bool) :=
  if x1_3 < (a0.Pairs.length : Int) then
    if 0 ≤ (IntKind.wrap .i64 (x1_3 - 1)) ∧ (IntKind.wrap .i64 (x1_3 - 1)) < (a0.Pairs.length : Int) then
      if 0 ≤ x1_3 ∧ x1_3 < (a0.Pairs.length : Int) then
        if ((a0.Pairs.getD ((IntKind.wrap .i64 (x1_3 - 1)).toNat) spliceref04_Pair.z).Key) ≥ ((a0.Pairs.getD x1_3.toNat spliceref04_Pair.z).Key) then
          some (.inr false)
        else
          some (.inl (.l1 (IntKind.wrap .i64 (x1_3 + 1))))
      else none
    else none
  else
    (spliceref04_pairs a0.Pairs 1 8).bind fun v2 =>
    some (.inr v2)

noncomputable def spliceref04_Check.step (a0 : spliceref04_Mut) : spliceref04_Check.S → Option (spliceref04_Check.S ⊕ Bool)
  | .l1 x1_3 => spliceref04_Check.l1 a0 x1_3

noncomputable def spliceref04_Check.j5 (y5_2 : Bool) : Option Bool :=
  some y5_2

noncomputable def spliceref04_Check.j3 (a0 : spliceref04_Mut) (y3_48 : Bool) : Option Bool :=
  if y3_48 = true then
    some false
  else
    if a0.Kind = 4 then
      (spliceref04_pairs a0.Pairs 1 1).bind fun v1 =>
      if v1 = true then
        if (spliceref04_value a0.Old) = true then
          spliceref04_Check.j4 true
        else
          spliceref04_Check.j4 (a0.Old == 1099511627777)
      else
        spliceref04_Check.j4 false
    else
      if a0.Old = 0 then
        if a0.Kind = 1 then
          goLoop (spliceref04_Check.step a0) (.l1 1)
        else
          if a0.Kind = 3 then
            (spliceref04_pairs a0.Pairs 1 1).bind fun v3 =>
            some v3
          else
            if a0.Kind = 5 then
              (spliceref04_pairs a0.Pairs 2 2).bind fun v4 =>
              if v4 = true then
                if (0 : Int) ≤ 0 ∧ 0 < (a0.Pairs.length : Int) then
                  if (0 : Int) ≤ 1 ∧ 1 < (a0.Pairs.length : Int) then
                    if ((a0.Pairs.getD 0 spliceref04_Pair.z).Key) = ((a0.Pairs.getD 1 spliceref04_Pair.z).Key) then
                      spliceref04_Check.j5 false
                    else
                      if ((a0.Pairs.getD 0 spliceref04_Pair.z).Val) = ((a0.Pairs.getD 1 spliceref04_Pair.z).Val) then
                        spliceref04_Check.j5 (decide (((a0.Pairs.getD 0 spliceref04_Pair.z).Val) ≥ 0))
                      else
                        spliceref04_Check.j5 false
                  else none
                else none
              else
                spliceref04_Check.j5 false
            else
              spliceref04_Check.j5 false
      else
        some false

noncomputable def spliceref04_Check.j1 (a0 : spliceref04_Mut) (y1_21 : Bool) : Option Bool :=
  if y1_21 = true then
    some false
  else
    if a0.Kind = 2 then
      if (a0.Pairs.length : Int) = 0 then
        if a0.Old = 0 then
          spliceref04_Check.j2 (spliceref03_One a0.Over)
        else
          spliceref04_Check.j2 false
      else
        spliceref04_Check.j2 false
    else
      if a0.Over.Lo = 0 then
        spliceref04_Check.j3 a0 (a0.Over.Hi != 0)
      else
        spliceref04_Check.j3 a0 true

noncomputable def spliceref04_Check (a0 : spliceref04_Mut) : Option Bool :=
  if a0.Client < 1 then
    spliceref04_Check.j1 a0 true
  else
    if a0.Client > 1048576 then
      spliceref04_Check.j1 a0 true
    else
      if a0.Seq < 1 then
        spliceref04_Check.j1 a0 true
      else
        spliceref04_Check.j1 a0 (decide (a0.Seq > 1073741824))

inductive spliceref03_Check.S where
  | l1 (x1_3 : Int)

noncomputable def spliceref03_Check.j1 (x1_3 : Int) (y1_33 : Bool) : Option (spliceref03_Check.S ⊕ Bool) :=
  if y1_33 = true then
    some (.inr false)
  else
    some (.inl (.l1 (IntKind.wrap .i64 (x1_3 + 1))))

noncomputable def spliceref03_Check.l1 (a0 : List spliceref03_Span) (x1_3 : Int) : Option (spliceref03_Check.S ⊕ Bool) :=
  if x1_3 < (a0.length : Int) then
    if 0 ≤ x1_3 ∧ x1_3 < (a0.length : Int) then
      if (spliceref03_One (a0.getD x1_3.toNat spliceref03_Span.z)) = true then
        if x1_3 > 0 then
          if 0 ≤ (IntKind.wrap .i64 (x1_3 - 1)) ∧ (IntKind.wrap .i64 (x1_3 - 1)) < (a0.length : Int) then
            spliceref03_Check.j1 x1_3 (decide (((a0.getD x1_3.toNat spliceref03_Span.z).Lo) ≤ ((a0.getD ((IntKind.wrap .i64 (x1_3 - 1)).toNat) spliceref03_Span.z).Hi)))
          else none
        else
          spliceref03_Check.j1 x1_3 false
      else
        spliceref03_Check.j1 x1_3 true
    else none
  else
    some (.inr (decide ((a0.length : Int) ≤ 64)))

noncomputable def spliceref03_Check.step (a0 : List spliceref03_Span) : spliceref03_Check.S → Option (spliceref03_Check.S ⊕ Bool)
  | .l1 x1_3 => spliceref03_Check.l1 a0 x1_3

noncomputable def spliceref03_Check (a0 : List spliceref03_Span) : Option Bool :=
  goLoop (spliceref03_Check.step a0) (.l1 0)

inductive spliceref05_Check.S where
  | l1 (x1_3 : Int)

noncomputable def spliceref05_Check.j2 (x1_3 : Int) (y2_55 : Bool) : Option (spliceref05_Check.S ⊕ Bool) :=
  if y2_55 = true then
    some (.inr false)
  else
    some (.inl (.l1 (IntKind.wrap .i64 (x1_3 + 1))))

noncomputable def spliceref05_Check.j1 (a0 : List spliceref04_Pair) (x1_3 : Int) (y1_39 : Bool) : Option (spliceref05_Check.S ⊕ Bool) :=
  if y1_39 = true then
    some (.inr false)
  else
    if x1_3 > 0 then
      if 0 ≤ (IntKind.wrap .i64 (x1_3 - 1)) ∧ (IntKind.wrap .i64 (x1_3 - 1)) < (a0.length : Int) then
        spliceref05_Check.j2 x1_3 (decide (((a0.getD x1_3.toNat spliceref04_Pair.z).Key) ≤ ((a0.getD ((IntKind.wrap .i64 (x1_3 - 1)).toNat) spliceref04_Pair.z).Key)))
      else none
    else
      spliceref05_Check.j2 x1_3 false

noncomputable def spliceref05_Check.l1 (a0 : List spliceref04_Pair) (x1_3 : Int) : Option (spliceref05_Check.S ⊕ Bool) :=
  if x1_3 < (a0.length : Int) then
    if 0 ≤ x1_3 ∧ x1_3 < (a0.length : Int) then
      if ((a0.getD x1_3.toNat spliceref04_Pair.z).Key) < 0 then
        spliceref05_Check.j1 a0 x1_3 true
      else
        if ((a0.getD x1_3.toNat spliceref04_Pair.z).Key) > 4095 then
          spliceref05_Check.j1 a0 x1_3 true
        else
          if ((a0.getD x1_3.toNat spliceref04_Pair.z).Val) < (-1099511627776) then
            spliceref05_Check.j1 a0 x1_3 true
          else
            spliceref05_Check.j1 a0 x1_3 (decide (((a0.getD x1_3.toNat spliceref04_Pair.z).Val) > 1099511627776))
    else none
  else
    some (.inr true)

noncomputable def spliceref05_Check.step (a0 : List spliceref04_Pair) : spliceref05_Check.S → Option (spliceref05_Check.S ⊕ Bool)
  | .l1 x1_3 => spliceref05_Check.l1 a0 x1_3

noncomputable def spliceref05_Check (a0 : List spliceref04_Pair) : Option Bool :=
  goLoop (spliceref05_Check.step a0) (.l1 0)

inductive spliceref05_more.S where
  | l1 (x1_6 : Bool) (x1_7 : Int) (x1_r0 : List Int)

noncomputable def spliceref05_more.j4 (a0 : List Int) (x1_7 : Int) (y4_6 : Bool) (y4_r0 : List Int) : Option (spliceref05_more.S ⊕ (List Int)) :=
  if (y4_r0.length + 1) * 8 ≤ 140737488355328 then
    some (.inl (.l1 y4_6 (IntKind.wrap .i64 (x1_7 + 1)) (y4_r0 ++ [a0.getD x1_7.toNat 0])))
  else none

noncomputable def spliceref05_more.j3 (a0 : List Int) (a1 : Int) (x1_7 : Int) (x1_r0 : List Int) (y3_6 : Bool) (y3_29 : Bool) : Option (spliceref05_more.S ⊕ (List Int)) :=
  if y3_29 = true then
    if (x1_r0.length + 1) * 8 ≤ 140737488355328 then
      spliceref05_more.j4 a0 x1_7 true (x1_r0 ++ [a1])
    else none
  else
    spliceref05_more.j4 a0 x1_7 y3_6 x1_r0

noncomputable def spliceref05_more.j2 (a0 : List Int) (a1 : Int) (x1_7 : Int) (x1_r0 : List Int) (y2_6 : Bool) : Option (spliceref05_more.S ⊕ (List Int)) :=
  if y2_6 = true then
    spliceref05_more.j3 a0 a1 x1_7 x1_r0 true false
  else
    spliceref05_more.j3 a0 a1 x1_7 x1_r0 false (decide ((a0.getD x1_7.toNat 0) > a1))

noncomputable def spliceref05_more.j1 (y1_r0 : List Int) : Option (spliceref05_more.S ⊕ (List Int)) :=
  some (.inr y1_r0)

noncomputable def spliceref05_more.l1 (a0 : List Int) (a1 : Int) (x1_6 : Bool) (x1_7 : Int) (x1_r0 : List Int) : Option (spliceref05_more.S ⊕ (List Int)) :=
  if x1_7 < (a0.length : Int) then
    if 0 ≤ x1_7 ∧ x1_7 < (a0.length : Int) then
      if (a0.getD x1_7.toNat 0) = a1 then
        spliceref05_more.j2 a0 a1 x1_7 x1_r0 true
      else
        spliceref05_more.j2 a0 a1 x1_7 x1_r0 x1_6
    else none
  else
    if x1_6 = true then
      spliceref05_more.j1 x1_r0
    else
      if (x1_r0.length + 1) * 8 ≤ 140737488355328 then
        spliceref05_more.j1 (x1_r0 ++ [a1])
      else none

noncomputable def spliceref05_more.step (a0 : List Int) (a1 : Int) : spliceref05_more.S → Option (spliceref05_more.S ⊕ (List Int))
  | .l1 x1_6 x1_7 x1_r0 => spliceref05_more.l1 a0 a1 x1_6 x1_7 x1_r0

noncomputable def spliceref05_more (a0 : List Int) (a1 : Int) : Option (List Int) :=
  goLoop (spliceref05_more.step a0 a1) (.l1 false 0 ([] : List Int))

inductive spliceref05_keys.S where
  | l1 (x1_6 : Int) (x1_r1 : List Int)
  | l2 (x2_7 : Int) (x2_r1 : List Int)

noncomputable def spliceref05_keys.l1 (a0 : List spliceref04_Pair) (x1_6 : Int) (x1_r1 : List Int) : Option (spliceref05_keys.S ⊕ (List Int)) :=
  if x1_6 < (a0.length : Int) then
    if 0 ≤ x1_6 ∧ x1_6 < (a0.length : Int) then
      (spliceref05_more x1_r1 ((a0.getD x1_6.toNat spliceref04_Pair.z).Key)).bind fun v1 =>
      some (.inl (.l1 (IntKind.wrap .i64 (x1_6 + 1)) v1))
    else none
  else
    some (.inl (.l2 0 x1_r1))

noncomputable def spliceref05_keys.l2 (a1 : spliceref04_Mut) (x2_7 : Int) (x2_r1 : List Int) : Option (spliceref05_keys.S ⊕ (List Int)) :=
  if x2_7 < (a1.Pairs.length : Int) then
    if 0 ≤ x2_7 ∧ x2_7 < (a1.Pairs.length : Int) then
      (spliceref05_more x2_r1 ((a1.Pairs.getD x2_7.toNat spliceref04_Pair.z).Key)).bind fun v2 =>
      some (.inl (.l2 (IntKind.wrap .i64 (x2_7 + 1)) v2))
    else none
  else
    some (.inr x2_r1)

noncomputable def spliceref05_keys.step (a0 : List spliceref04_Pair) (a1 : spliceref04_Mut) : spliceref05_keys.S → Option (spliceref05_keys.S ⊕ (List Int))
  | .l1 x1_6 x1_r1 => spliceref05_keys.l1 a0 x1_6 x1_r1
  | .l2 x2_7 x2_r1 => spliceref05_keys.l2 a1 x2_7 x2_r1

noncomputable def spliceref05_keys (a0 : List spliceref04_Pair) (a1 : spliceref04_Mut) : Option (List Int) :=
  goLoop (spliceref05_keys.step a0 a1) (.l1 0 ([] : List Int))

inductive spliceref05_Get.S where
  | l1 (x1_5 : Int)

noncomputable def spliceref05_Get.l1 (a0 : List spliceref04_Pair) (a1 : Int) (x1_5 : Int) : Option (spliceref05_Get.S ⊕ spliceref05_Cell) :=
  if x1_5 < (a0.length : Int) then
    if 0 ≤ x1_5 ∧ x1_5 < (a0.length : Int) then
      if ((a0.getD x1_5.toNat spliceref04_Pair.z).Key) = a1 then
        some (.inr (⟨(a0.getD x1_5.toNat spliceref04_Pair.z).Val, true⟩ : spliceref05_Cell))
      else
        some (.inl (.l1 (IntKind.wrap .i64 (x1_5 + 1))))
    else none
  else
    some (.inr (⟨0, false⟩ : spliceref05_Cell))

noncomputable def spliceref05_Get.step (a0 : List spliceref04_Pair) (a1 : Int) : spliceref05_Get.S → Option (spliceref05_Get.S ⊕ spliceref05_Cell)
  | .l1 x1_5 => spliceref05_Get.l1 a0 a1 x1_5

noncomputable def spliceref05_Get (a0 : List spliceref04_Pair) (a1 : Int) : Option spliceref05_Cell :=
  goLoop (spliceref05_Get.step a0 a1) (.l1 0)

noncomputable def spliceref04_Touches.j1 (y1_4 : Bool) : Option Bool :=
  some y1_4

inductive spliceref04_Touches.S where
  | l1 (x1_5 : Int)

noncomputable def spliceref04_Touches.l1 (a0 : spliceref04_Mut) (a1 : Int) (x1_5 : Int) : Option (spliceref04_Touches.S ⊕ Bool) :=
  if x1_5 < (a0.Pairs.length : Int) then
    if 0 ≤ x1_5 ∧ x1_5 < (a0.Pairs.length : Int) then
      if ((a0.Pairs.getD x1_5.toNat spliceref04_Pair.z).Key) = a1 then
        some (.inr true)
      else
        some (.inl (.l1 (IntKind.wrap .i64 (x1_5 + 1))))
    else none
  else
    some (.inr false)

noncomputable def spliceref04_Touches.step (a0 : spliceref04_Mut) (a1 : Int) : spliceref04_Touches.S → Option (spliceref04_Touches.S ⊕ Bool)
  | .l1 x1_5 => spliceref04_Touches.l1 a0 a1 x1_5

noncomputable def spliceref04_Touches (a0 : spliceref04_Mut) (a1 : Int) : Option Bool :=
  if a0.Kind = 2 then
    if a1 ≥ a0.Over.Lo then
      spliceref04_Touches.j1 (decide (a1 < a0.Over.Hi))
    else
      spliceref04_Touches.j1 false
  else
    goLoop (spliceref04_Touches.step a0 a1) (.l1 0)

inductive spliceref03_Has.S where
  | l1 (x1_5 : Int)

noncomputable def spliceref03_Has.j1 (x1_5 : Int) (y1_34 : Bool) : Option (spliceref03_Has.S ⊕ Bool) :=
  if y1_34 = true then
    some (.inr true)
  else
    some (.inl (.l1 (IntKind.wrap .i64 (x1_5 + 1))))

noncomputable def spliceref03_Has.l1 (a0 : List spliceref03_Span) (a1 : Int) (x1_5 : Int) : Option (spliceref03_Has.S ⊕ Bool) :=
  if x1_5 < (a0.length : Int) then
    if 0 ≤ x1_5 ∧ x1_5 < (a0.length : Int) then
      if (spliceref03_One (a0.getD x1_5.toNat spliceref03_Span.z)) = true then
        if a1 ≥ ((a0.getD x1_5.toNat spliceref03_Span.z).Lo) then
          spliceref03_Has.j1 x1_5 (decide (a1 < ((a0.getD x1_5.toNat spliceref03_Span.z).Hi)))
        else
          spliceref03_Has.j1 x1_5 false
      else
        spliceref03_Has.j1 x1_5 false
    else none
  else
    some (.inr false)

noncomputable def spliceref03_Has.step (a0 : List spliceref03_Span) (a1 : Int) : spliceref03_Has.S → Option (spliceref03_Has.S ⊕ Bool)
  | .l1 x1_5 => spliceref03_Has.l1 a0 a1 x1_5

noncomputable def spliceref03_Has (a0 : List spliceref03_Span) (a1 : Int) : Option Bool :=
  goLoop (spliceref03_Has.step a0 a1) (.l1 0)

noncomputable def spliceref05_within (a0 : Int) : Int :=
  if a0 > 1099511627776 then
    1099511627776
  else
    if a0 < (-1099511627776) then
      (-1099511627776)
    else
      a0

noncomputable def spliceref05_Cells.j1 (a0 : spliceref05_Cell) (v1 : Int) (y1_30 : Bool) : Option (spliceref05_Cell × Bool) :=
  if y1_30 = true then
    some (a0, false)
  else
    some ((⟨v1, true⟩ : spliceref05_Cell), true)

noncomputable def spliceref05_Cells.j2 (a0 : spliceref05_Cell) (a1 : spliceref04_Mut) (y2_55 : Bool) : Option (spliceref05_Cell × Bool) :=
  if y2_55 = true then
    some (a0, false)
  else
    if (0 : Int) ≤ 0 ∧ 0 < (a1.Pairs.length : Int) then
      some ((⟨(a1.Pairs.getD 0 spliceref04_Pair.z).Val, true⟩ : spliceref05_Cell), true)
    else none

inductive spliceref05_Cells.S where
  | l1 (x1_9 : Int)

noncomputable def spliceref05_Cells.l1 (a0 : spliceref05_Cell) (a1 : spliceref04_Mut) (a2 : Int) (x1_9 : Int) : Option (spliceref05_Cells.S ⊕ (spliceref05_Cell × Bool)) :=
  if x1_9 < (a1.Pairs.length : Int) then
    if 0 ≤ x1_9 ∧ x1_9 < (a1.Pairs.length : Int) then
      if ((a1.Pairs.getD x1_9.toNat spliceref04_Pair.z).Key) = a2 then
        some (.inr ((⟨(a1.Pairs.getD x1_9.toNat spliceref04_Pair.z).Val, true⟩ : spliceref05_Cell), true))
      else
        some (.inl (.l1 (IntKind.wrap .i64 (x1_9 + 1))))
    else none
  else
    some (.inr (a0, true))

noncomputable def spliceref05_Cells.step (a0 : spliceref05_Cell) (a1 : spliceref04_Mut) (a2 : Int) : spliceref05_Cells.S → Option (spliceref05_Cells.S ⊕ (spliceref05_Cell × Bool))
  | .l1 x1_9 => spliceref05_Cells.l1 a0 a1 a2 x1_9

noncomputable def spliceref05_Cells (a0 : spliceref05_Cell) (a1 : spliceref04_Mut) (a2 : Int) : Option (spliceref05_Cell × Bool) :=
  if a1.Kind = 2 then
    some ((⟨0, false⟩ : spliceref05_Cell), true)
  else
    if a1.Kind = 3 then
      if (0 : Int) ≤ 0 ∧ 0 < (a1.Pairs.length : Int) then
        bnd (IntKind.wrap .i64 (a0.Val + ((a1.Pairs.getD 0 spliceref04_Pair.z).Val))) fun (v1 : Int) =>
        if v1 < 0 then
          spliceref05_Cells.j1 a0 v1 true
        else
          spliceref05_Cells.j1 a0 v1 (decide (v1 > 1099511627776))
      else none
    else
      if a1.Kind = 4 then
        if a0.Some = true then
          if a0.Val = a1.Old then
            spliceref05_Cells.j2 a0 a1 false
          else
            spliceref05_Cells.j2 a0 a1 true
        else
          spliceref05_Cells.j2 a0 a1 (a1.Old != 1099511627777)
      else
        if a1.Kind = 5 then
          if (0 : Int) ≤ 0 ∧ 0 < (a1.Pairs.length : Int) then
            if a2 = ((a1.Pairs.getD 0 spliceref04_Pair.z).Key) then
              bnd (spliceref05_within (IntKind.wrap .i64 (a0.Val - ((a1.Pairs.getD 0 spliceref04_Pair.z).Val)))) fun (v2 : Int) =>
              some ((⟨v2, true⟩ : spliceref05_Cell), true)
            else
              bnd (spliceref05_within (IntKind.wrap .i64 (a0.Val + ((a1.Pairs.getD 0 spliceref04_Pair.z).Val)))) fun (v3 : Int) =>
              some ((⟨v3, true⟩ : spliceref05_Cell), true)
          else none
        else
          goLoop (spliceref05_Cells.step a0 a1 a2) (.l1 0)

inductive spliceref05_Apply.S where
  | l1 (x1_10 : Int) (x1_r2 : List spliceref04_Pair)

noncomputable def spliceref05_Apply.j4 (x1_10 : Int) (y4_r2 : List spliceref04_Pair) : Option (spliceref05_Apply.S ⊕ ((List spliceref04_Pair) × Bool)) :=
  some (.inl (.l1 (IntKind.wrap .i64 (x1_10 + 1)) y4_r2))

noncomputable def spliceref05_Apply.j3 (v4 : List Int) (x1_10 : Int) (x1_r2 : List spliceref04_Pair) (y3_b3_0 : Int) (y3_b3_1 : Bool) : Option (spliceref05_Apply.S ⊕ ((List spliceref04_Pair) × Bool)) :=
  if y3_b3_1 = true then
    if (x1_r2.length + 1) * 16 ≤ 140737488355328 then
      spliceref05_Apply.j4 x1_10 (x1_r2 ++ [(⟨v4.getD x1_10.toNat 0, y3_b3_0⟩ : spliceref04_Pair)])
    else none
  else
    spliceref05_Apply.j4 x1_10 x1_r2

noncomputable def spliceref05_Apply.j2 (a0 : List spliceref04_Pair) (a1 : spliceref04_Mut) (v4 : List Int) (x1_10 : Int) (x1_r2 : List spliceref04_Pair) (v5 : spliceref05_Cell) (y2_55 : Bool) : Option (spliceref05_Apply.S ⊕ ((List spliceref04_Pair) × Bool)) :=
  if y2_55 = true then
    (spliceref05_Cells v5 a1 (v4.getD x1_10.toNat 0)).bind fun v8 =>
    if v8.2 = true then
      spliceref05_Apply.j3 v4 x1_10 x1_r2 v8.1.Val v8.1.Some
    else
      some (.inr (a0, false))
  else
    spliceref05_Apply.j3 v4 x1_10 x1_r2 v5.Val v5.Some

noncomputable def spliceref05_Apply.l1 (a0 : List spliceref04_Pair) (a1 : spliceref04_Mut) (a2 : List spliceref03_Span) (v4 : List Int) (x1_10 : Int) (x1_r2 : List spliceref04_Pair) : Option (spliceref05_Apply.S ⊕ ((List spliceref04_Pair) × Bool)) :=
  if x1_10 < (v4.length : Int) then
    if 0 ≤ x1_10 ∧ x1_10 < (v4.length : Int) then
      (spliceref05_Get a0 (v4.getD x1_10.toNat 0)).bind fun v5 =>
      (spliceref04_Touches a1 (v4.getD x1_10.toNat 0)).bind fun v6 =>
      if v6 = true then
        (spliceref03_Has a2 (v4.getD x1_10.toNat 0)).bind fun v7 =>
        spliceref05_Apply.j2 a0 a1 v4 x1_10 x1_r2 v5 v7
      else
        spliceref05_Apply.j2 a0 a1 v4 x1_10 x1_r2 v5 false
    else none
  else
    some (.inr (x1_r2, true))

noncomputable def spliceref05_Apply.step (a0 : List spliceref04_Pair) (a1 : spliceref04_Mut) (a2 : List spliceref03_Span) (v4 : List Int) : spliceref05_Apply.S → Option (spliceref05_Apply.S ⊕ ((List spliceref04_Pair) × Bool))
  | .l1 x1_10 x1_r2 => spliceref05_Apply.l1 a0 a1 a2 v4 x1_10 x1_r2

noncomputable def spliceref05_Apply.j1 (a0 : List spliceref04_Pair) (a1 : spliceref04_Mut) (a2 : List spliceref03_Span) (y1_26 : Bool) : Option ((List spliceref04_Pair) × Bool) :=
  if y1_26 = true then
    some (([] : List spliceref04_Pair), false)
  else
    (spliceref05_keys a0 a1).bind fun v4 =>
    goLoop (spliceref05_Apply.step a0 a1 a2 v4) (.l1 0 ([] : List spliceref04_Pair))

noncomputable def spliceref05_Apply (a0 : List spliceref04_Pair) (a1 : spliceref04_Mut) (a2 : List spliceref03_Span) : Option ((List spliceref04_Pair) × Bool) :=
  (spliceref05_Check a0).bind fun v1 =>
  if v1 = true then
    (spliceref04_Check a1).bind fun v2 =>
    if v2 = true then
      (spliceref03_Check a2).bind fun v3 =>
      spliceref05_Apply.j1 a0 a1 a2 (!v3)
    else
      spliceref05_Apply.j1 a0 a1 a2 true
  else
    spliceref05_Apply.j1 a0 a1 a2 true

inductive spliceref15_Fold.S where
  | l1 (x1_8 : Int)
  | l2 (x2_7 : List spliceref04_Pair) (x2_9 : Int)

noncomputable def spliceref15_Fold.j3 (x2_9 : Int) (y3_7 : List spliceref04_Pair) : Option (spliceref15_Fold.S ⊕ (List spliceref04_Pair)) :=
  some (.inl (.l2 y3_7 (IntKind.wrap .i64 (x2_9 + 1))))

noncomputable def spliceref15_Fold.j2 (a0 : List spliceref12_Entry) (a1 : List spliceref03_Span) (x2_7 : List spliceref04_Pair) (x2_9 : Int) (y2_48 : Bool) : Option (spliceref15_Fold.S ⊕ (List spliceref04_Pair)) :=
  if y2_48 = true then
    (spliceref05_Apply x2_7 ((a0.getD x2_9.toNat spliceref12_Entry.z).M) a1).bind fun v3 =>
    spliceref15_Fold.j3 x2_9 v3.1
  else
    spliceref15_Fold.j3 x2_9 x2_7

noncomputable def spliceref15_Fold.j1 (a0 : List spliceref12_Entry) (a1 : List spliceref03_Span) (a2 : Int) (x2_7 : List spliceref04_Pair) (x2_9 : Int) (y1_32 : Bool) : Option (spliceref15_Fold.S ⊕ (List spliceref04_Pair)) :=
  if y1_32 = true then
    if 0 ≤ x2_9 ∧ x2_9 < (a0.length : Int) then
      if ((a0.getD x2_9.toNat spliceref12_Entry.z).Done) = true then
        spliceref15_Fold.j2 a0 a1 x2_7 x2_9 (decide (((a0.getD x2_9.toNat spliceref12_Entry.z).Time) ≤ a2))
      else
        spliceref15_Fold.j2 a0 a1 x2_7 x2_9 false
    else none
  else
    some (.inr x2_7)

noncomputable def spliceref15_Fold.l1 (a0 : List spliceref12_Entry) (x1_8 : Int) : Option (spliceref15_Fold.S ⊕ (List spliceref04_Pair)) :=
  if x1_8 < (a0.length : Int) then
    if 0 ≤ x1_8 ∧ x1_8 < (a0.length : Int) then
      (spliceref04_Check ((a0.getD x1_8.toNat spliceref12_Entry.z).M)).bind fun v1 =>
      if v1 = true then
        some (.inl (.l1 (IntKind.wrap .i64 (x1_8 + 1))))
      else
        some (.inr ([] : List spliceref04_Pair))
    else none
  else
    some (.inl (.l2 ([] : List spliceref04_Pair) 0))

noncomputable def spliceref15_Fold.l2 (a0 : List spliceref12_Entry) (a1 : List spliceref03_Span) (a2 : Int) (x2_7 : List spliceref04_Pair) (x2_9 : Int) : Option (spliceref15_Fold.S ⊕ (List spliceref04_Pair)) :=
  if x2_9 < (a0.length : Int) then
    (spliceref03_Check a1).bind fun v2 =>
    spliceref15_Fold.j1 a0 a1 a2 x2_7 x2_9 v2
  else
    spliceref15_Fold.j1 a0 a1 a2 x2_7 x2_9 false

noncomputable def spliceref15_Fold.step (a0 : List spliceref12_Entry) (a1 : List spliceref03_Span) (a2 : Int) : spliceref15_Fold.S → Option (spliceref15_Fold.S ⊕ (List spliceref04_Pair))
  | .l1 x1_8 => spliceref15_Fold.l1 a0 x1_8
  | .l2 x2_7 x2_9 => spliceref15_Fold.l2 a0 a1 a2 x2_7 x2_9

noncomputable def spliceref15_Fold (a0 : List spliceref12_Entry) (a1 : List spliceref03_Span) (a2 : Int) : Option (List spliceref04_Pair) :=
  goLoop (spliceref15_Fold.step a0 a1 a2) (.l1 0)

inductive spliceref05_Same.S where
  | l1 (x1_5 : Int)

noncomputable def spliceref05_Same.l1 (a0 : List spliceref04_Pair) (a1 : List spliceref04_Pair) (x1_5 : Int) : Option (spliceref05_Same.S ⊕ Bool) :=
  if x1_5 < (a0.length : Int) then
    if 0 ≤ x1_5 ∧ x1_5 < (a0.length : Int) then
      if 0 ≤ x1_5 ∧ x1_5 < (a1.length : Int) then
        if ((a0.getD x1_5.toNat spliceref04_Pair.z).Key) = ((a1.getD x1_5.toNat spliceref04_Pair.z).Key) then
          if ((a0.getD x1_5.toNat spliceref04_Pair.z).Val) = ((a1.getD x1_5.toNat spliceref04_Pair.z).Val) then
            some (.inl (.l1 (IntKind.wrap .i64 (x1_5 + 1))))
          else
            some (.inr false)
        else
          if ((a0.getD x1_5.toNat spliceref04_Pair.z).Val) = ((a1.getD x1_5.toNat spliceref04_Pair.z).Val) then
            some (.inr false)
          else
            some (.inr false)
      else none
    else none
  else
    some (.inr true)

noncomputable def spliceref05_Same.step (a0 : List spliceref04_Pair) (a1 : List spliceref04_Pair) : spliceref05_Same.S → Option (spliceref05_Same.S ⊕ Bool)
  | .l1 x1_5 => spliceref05_Same.l1 a0 a1 x1_5

noncomputable def spliceref05_Same (a0 : List spliceref04_Pair) (a1 : List spliceref04_Pair) : Option Bool :=
  if (a0.length : Int) = (a1.length : Int) then
    goLoop (spliceref05_Same.step a0 a1) (.l1 0)
  else
    some false

noncomputable def splicelaw15_JudgeFolds.j2 (y2_6 : Bool) : Option Bool :=
  some y2_6

noncomputable def splicelaw15_JudgeFolds.j1 (a0 : List api_Entry) (a1 : List api_Span) (a2 : Int) (y1_14 : Bool) : Option Bool :=
  if y1_14 = true then
    (splicelaw15_awake).bind fun v2 =>
    some v2
  else
    (splicelaw15_awake).bind fun v3 =>
    if v3 = true then
      (judge_Fold a0 a1 a2).bind fun v4 =>
      (splicelaw05_Refs v4).bind fun v5 =>
      (splicelaw15_Entries a0).bind fun v6 =>
      (splicelaw03_Refs a1).bind fun v7 =>
      (spliceref15_Fold v6 v7 a2).bind fun v8 =>
      (spliceref05_Same v5 v8).bind fun v9 =>
      splicelaw15_JudgeFolds.j2 v9
    else
      splicelaw15_JudgeFolds.j2 false

noncomputable def splicelaw15_JudgeFolds (a0 : List api_Entry) (a1 : List api_Span) (a2 : Int) : Option Bool :=
  (splicelaw15_fewEntries a0).bind fun v1 =>
  if v1 = true then
    splicelaw15_JudgeFolds.j1 a0 a1 a2 (decide ((a1.length : Int) > 100))
  else
    splicelaw15_JudgeFolds.j1 a0 a1 a2 true

inductive spliceref15_Onto.S where
  | l1 (x1_7 : Int)
  | l2 (x2_8 : List spliceref04_Pair) (x2_9 : Int)

noncomputable def spliceref15_Onto.l1 (a0 : List spliceref04_Pair) (a1 : List spliceref04_Mut) (x1_7 : Int) : Option (spliceref15_Onto.S ⊕ (List spliceref04_Pair)) :=
  if x1_7 < (a1.length : Int) then
    if 0 ≤ x1_7 ∧ x1_7 < (a1.length : Int) then
      (spliceref04_Check (a1.getD x1_7.toNat spliceref04_Mut.z)).bind fun v3 =>
      if v3 = true then
        some (.inl (.l1 (IntKind.wrap .i64 (x1_7 + 1))))
      else
        some (.inr ([] : List spliceref04_Pair))
    else none
  else
    some (.inl (.l2 a0 0))

noncomputable def spliceref15_Onto.l2 (a1 : List spliceref04_Mut) (a2 : List spliceref03_Span) (x2_8 : List spliceref04_Pair) (x2_9 : Int) : Option (spliceref15_Onto.S ⊕ (List spliceref04_Pair)) :=
  if x2_9 < (a1.length : Int) then
    if 0 ≤ x2_9 ∧ x2_9 < (a1.length : Int) then
      (spliceref05_Apply x2_8 (a1.getD x2_9.toNat spliceref04_Mut.z) a2).bind fun v4 =>
      some (.inl (.l2 v4.1 (IntKind.wrap .i64 (x2_9 + 1))))
    else none
  else
    some (.inr x2_8)

noncomputable def spliceref15_Onto.step (a0 : List spliceref04_Pair) (a1 : List spliceref04_Mut) (a2 : List spliceref03_Span) : spliceref15_Onto.S → Option (spliceref15_Onto.S ⊕ (List spliceref04_Pair))
  | .l1 x1_7 => spliceref15_Onto.l1 a0 a1 x1_7
  | .l2 x2_8 x2_9 => spliceref15_Onto.l2 a1 a2 x2_8 x2_9

noncomputable def spliceref15_Onto.j1 (a0 : List spliceref04_Pair) (a1 : List spliceref04_Mut) (a2 : List spliceref03_Span) (y1_19 : Bool) : Option (List spliceref04_Pair) :=
  if y1_19 = true then
    some ([] : List spliceref04_Pair)
  else
    goLoop (spliceref15_Onto.step a0 a1 a2) (.l1 0)

noncomputable def spliceref15_Onto (a0 : List spliceref04_Pair) (a1 : List spliceref04_Mut) (a2 : List spliceref03_Span) : Option (List spliceref04_Pair) :=
  (spliceref05_Check a0).bind fun v1 =>
  if v1 = true then
    (spliceref03_Check a2).bind fun v2 =>
    spliceref15_Onto.j1 a0 a1 a2 (!v2)
  else
    spliceref15_Onto.j1 a0 a1 a2 true

inductive splicelaw15_JudgeOntos.S where
  | l1 (x1_8 : Int) (x1_r0 : List spliceref04_Mut)

noncomputable def splicelaw15_JudgeOntos.j2 (y2_6 : Bool) : Option (splicelaw15_JudgeOntos.S ⊕ Bool) :=
  some (.inr y2_6)

noncomputable def splicelaw15_JudgeOntos.l1 (a0 : List api_Pair) (a1 : List api_Mut) (a2 : List api_Span) (x1_8 : Int) (x1_r0 : List spliceref04_Mut) : Option (splicelaw15_JudgeOntos.S ⊕ Bool) :=
  if x1_8 < (a1.length : Int) then
    if 0 ≤ x1_8 ∧ x1_8 < (a1.length : Int) then
      if (((a1.getD x1_8.toNat api_Mut.z).Pairs).length : Int) > 20 then
        (splicelaw15_awake).bind fun v9 =>
        some (.inr v9)
      else
        (splicelaw04_Ref (a1.getD x1_8.toNat api_Mut.z)).bind fun v10 =>
        if (x1_r0.length + 1) * 72 ≤ 140737488355328 then
          some (.inl (.l1 (IntKind.wrap .i64 (x1_8 + 1)) (x1_r0 ++ [v10])))
        else none
    else none
  else
    (splicelaw15_awake).bind fun v2 =>
    if v2 = true then
      (judge_Onto a0 a1 a2).bind fun v3 =>
      (splicelaw05_Refs v3).bind fun v4 =>
      (splicelaw05_Refs a0).bind fun v5 =>
      (splicelaw03_Refs a2).bind fun v6 =>
      (spliceref15_Onto v5 x1_r0 v6).bind fun v7 =>
      (spliceref05_Same v4 v7).bind fun v8 =>
      splicelaw15_JudgeOntos.j2 v8
    else
      splicelaw15_JudgeOntos.j2 false

noncomputable def splicelaw15_JudgeOntos.step (a0 : List api_Pair) (a1 : List api_Mut) (a2 : List api_Span) : splicelaw15_JudgeOntos.S → Option (splicelaw15_JudgeOntos.S ⊕ Bool)
  | .l1 x1_8 x1_r0 => splicelaw15_JudgeOntos.l1 a0 a1 a2 x1_8 x1_r0

noncomputable def splicelaw15_JudgeOntos.j1 (a0 : List api_Pair) (a1 : List api_Mut) (a2 : List api_Span) (y1_21 : Bool) : Option Bool :=
  if y1_21 = true then
    (splicelaw15_awake).bind fun v1 =>
    some v1
  else
    goLoop (splicelaw15_JudgeOntos.step a0 a1 a2) (.l1 0 ([] : List spliceref04_Mut))

noncomputable def splicelaw15_JudgeOntos (a0 : List api_Pair) (a1 : List api_Mut) (a2 : List api_Span) : Option Bool :=
  if (a0.length : Int) > 100 then
    splicelaw15_JudgeOntos.j1 a0 a1 a2 true
  else
    if (a1.length : Int) > 60 then
      splicelaw15_JudgeOntos.j1 a0 a1 a2 true
    else
      splicelaw15_JudgeOntos.j1 a0 a1 a2 (decide ((a2.length : Int) > 100))

inductive spliceref15_Clients.S where
  | l1 (x1_3 : Int)
  | l2 (x1_3 : Int) (x2_4 : Int)

noncomputable def spliceref15_Clients.j1 (x1_3 : Int) (x2_4 : Int) (y1_43 : Bool) : Option (spliceref15_Clients.S ⊕ Bool) :=
  if y1_43 = true then
    some (.inr false)
  else
    some (.inl (.l2 x1_3 (IntKind.wrap .i64 (x2_4 + 1))))

noncomputable def spliceref15_Clients.l1 (a0 : List spliceref12_Entry) (x1_3 : Int) : Option (spliceref15_Clients.S ⊕ Bool) :=
  if x1_3 < (a0.length : Int) then
    some (.inl (.l2 x1_3 0))
  else
    some (.inr true)

noncomputable def spliceref15_Clients.l2 (a0 : List spliceref12_Entry) (x1_3 : Int) (x2_4 : Int) : Option (spliceref15_Clients.S ⊕ Bool) :=
  if x2_4 < x1_3 then
    if 0 ≤ x2_4 ∧ x2_4 < (a0.length : Int) then
      if 0 ≤ x1_3 ∧ x1_3 < (a0.length : Int) then
        if (((a0.getD x2_4.toNat spliceref12_Entry.z).M).Client) = (((a0.getD x1_3.toNat spliceref12_Entry.z).M).Client) then
          spliceref15_Clients.j1 x1_3 x2_4 (decide ((((a0.getD x2_4.toNat spliceref12_Entry.z).M).Seq) ≥ (((a0.getD x1_3.toNat spliceref12_Entry.z).M).Seq)))
        else
          spliceref15_Clients.j1 x1_3 x2_4 false
      else none
    else none
  else
    some (.inl (.l1 (IntKind.wrap .i64 (x1_3 + 1))))

noncomputable def spliceref15_Clients.step (a0 : List spliceref12_Entry) : spliceref15_Clients.S → Option (spliceref15_Clients.S ⊕ Bool)
  | .l1 x1_3 => spliceref15_Clients.l1 a0 x1_3
  | .l2 x1_3 x2_4 => spliceref15_Clients.l2 a0 x1_3 x2_4

noncomputable def spliceref15_Clients (a0 : List spliceref12_Entry) : Option Bool :=
  goLoop (spliceref15_Clients.step a0) (.l1 0)

noncomputable def splicelaw15_JudgeClients.j1 (y1_2 : Bool) : Option Bool :=
  some y1_2

noncomputable def splicelaw15_JudgeClients (a0 : List api_Entry) : Option Bool :=
  (splicelaw15_fewEntries a0).bind fun v1 =>
  if v1 = true then
    (splicelaw15_awake).bind fun v3 =>
    if v3 = true then
      (judge_Clients a0).bind fun v4 =>
      (splicelaw15_Entries a0).bind fun v5 =>
      (spliceref15_Clients v5).bind fun v6 =>
      splicelaw15_JudgeClients.j1 (v4 == v6)
    else
      splicelaw15_JudgeClients.j1 false
  else
    (splicelaw15_awake).bind fun v2 =>
    some v2

inductive splicelaw15_JudgeGoesOn.S where
  | l1 (x1_10 : Int) (x1_r0 : List api_Mut)

noncomputable def splicelaw15_JudgeGoesOn.j5 (x1_10 : Int) (y5_r0 : List api_Mut) : Option (splicelaw15_JudgeGoesOn.S ⊕ Bool) :=
  some (.inl (.l1 (IntKind.wrap .i64 (x1_10 + 1)) y5_r0))

noncomputable def splicelaw15_JudgeGoesOn.j4 (a0 : List api_Entry) (x1_10 : Int) (x1_r0 : List api_Mut) (y4_86 : Bool) : Option (splicelaw15_JudgeGoesOn.S ⊕ Bool) :=
  if y4_86 = true then
    if (x1_r0.length + 1) * 72 ≤ 140737488355328 then
      splicelaw15_JudgeGoesOn.j5 x1_10 (x1_r0 ++ [(a0.getD x1_10.toNat api_Entry.z).M])
    else none
  else
    splicelaw15_JudgeGoesOn.j5 x1_10 x1_r0

noncomputable def splicelaw15_JudgeGoesOn.j3 (a0 : List api_Entry) (a2 : arr2_int) (x1_10 : Int) (x1_r0 : List api_Mut) (y3_62 : Bool) : Option (splicelaw15_JudgeGoesOn.S ⊕ Bool) :=
  if y3_62 = true then
    (splicelaw15_awake).bind fun v12 =>
    some (.inr v12)
  else
    if ((a0.getD x1_10.toNat api_Entry.z).Done) = true then
      if ((a0.getD x1_10.toNat api_Entry.z).Time) > (iMin a2.i0 a2.i1) then
        splicelaw15_JudgeGoesOn.j4 a0 x1_10 x1_r0 (decide (((a0.getD x1_10.toNat api_Entry.z).Time) ≤ (iMax a2.i0 a2.i1)))
      else
        splicelaw15_JudgeGoesOn.j4 a0 x1_10 x1_r0 false
    else
      splicelaw15_JudgeGoesOn.j4 a0 x1_10 x1_r0 false

noncomputable def splicelaw15_JudgeGoesOn.j2 (y2_6 : Bool) : Option (splicelaw15_JudgeGoesOn.S ⊕ Bool) :=
  some (.inr y2_6)

noncomputable def splicelaw15_JudgeGoesOn.l1 (a0 : List api_Entry) (a1 : List api_Span) (a2 : arr2_int) (x1_10 : Int) (x1_r0 : List api_Mut) : Option (splicelaw15_JudgeGoesOn.S ⊕ Bool) :=
  if x1_10 < (a0.length : Int) then
    if 0 ≤ x1_10 ∧ x1_10 < (a0.length : Int) then
      (splicelaw04_Ref ((a0.getD x1_10.toNat api_Entry.z).M)).bind fun v10 =>
      (spliceref04_Check v10).bind fun v11 =>
      if v11 = true then
        if x1_10 > 0 then
          if 0 ≤ (IntKind.wrap .i64 (x1_10 - 1)) ∧ (IntKind.wrap .i64 (x1_10 - 1)) < (a0.length : Int) then
            splicelaw15_JudgeGoesOn.j3 a0 a2 x1_10 x1_r0 (decide (((a0.getD x1_10.toNat api_Entry.z).Time) < ((a0.getD ((IntKind.wrap .i64 (x1_10 - 1)).toNat) api_Entry.z).Time)))
          else none
        else
          splicelaw15_JudgeGoesOn.j3 a0 a2 x1_10 x1_r0 false
      else
        splicelaw15_JudgeGoesOn.j3 a0 a2 x1_10 x1_r0 true
    else none
  else
    (judge_Fold a0 a1 (iMin a2.i0 a2.i1)).bind fun v3 =>
    (judge_Onto v3 x1_r0 a1).bind fun v4 =>
    (splicelaw15_awake).bind fun v5 =>
    if v5 = true then
      (splicelaw05_Refs v4).bind fun v6 =>
      (judge_Fold a0 a1 (iMax a2.i0 a2.i1)).bind fun v7 =>
      (splicelaw05_Refs v7).bind fun v8 =>
      (spliceref05_Same v6 v8).bind fun v9 =>
      splicelaw15_JudgeGoesOn.j2 v9
    else
      splicelaw15_JudgeGoesOn.j2 false

noncomputable def splicelaw15_JudgeGoesOn.step (a0 : List api_Entry) (a1 : List api_Span) (a2 : arr2_int) : splicelaw15_JudgeGoesOn.S → Option (splicelaw15_JudgeGoesOn.S ⊕ Bool)
  | .l1 x1_10 x1_r0 => splicelaw15_JudgeGoesOn.l1 a0 a1 a2 x1_10 x1_r0

noncomputable def splicelaw15_JudgeGoesOn.j1 (a0 : List api_Entry) (a1 : List api_Span) (a2 : arr2_int) (y1_19 : Bool) : Option Bool :=
  if y1_19 = true then
    (splicelaw15_awake).bind fun v2 =>
    some v2
  else
    goLoop (splicelaw15_JudgeGoesOn.step a0 a1 a2) (.l1 0 ([] : List api_Mut))

noncomputable def splicelaw15_JudgeGoesOn (a0 : List api_Entry) (a1 : List api_Span) (a2 : arr2_int) : Option Bool :=
  (splicelaw15_fewEntries a0).bind fun v1 =>
  if v1 = true then
    splicelaw15_JudgeGoesOn.j1 a0 a1 a2 (decide ((a1.length : Int) > 100))
  else
    splicelaw15_JudgeGoesOn.j1 a0 a1 a2 true

inductive span_beyond.S where
  | l1 (x1_4 : Int) (x1_9 : Int) (x1_r0 : List api_Span)

noncomputable def span_beyond.j2 (a0 : List api_Span) (x1_9 : Int) (y2_r0 : List api_Span) : Option (span_beyond.S ⊕ (List api_Span)) :=
  some (.inl (.l1 ((a0.getD x1_9.toNat api_Span.z).Hi) (IntKind.wrap .i64 (x1_9 + 1)) y2_r0))

noncomputable def span_beyond.j1 (y1_r0 : List api_Span) : Option (span_beyond.S ⊕ (List api_Span)) :=
  some (.inr y1_r0)

noncomputable def span_beyond.l1 (a0 : List api_Span) (x1_4 : Int) (x1_9 : Int) (x1_r0 : List api_Span) : Option (span_beyond.S ⊕ (List api_Span)) :=
  if x1_9 < (a0.length : Int) then
    if 0 ≤ x1_9 ∧ x1_9 < (a0.length : Int) then
      if x1_4 < ((a0.getD x1_9.toNat api_Span.z).Lo) then
        if (x1_r0.length + 1) * 16 ≤ 140737488355328 then
          span_beyond.j2 a0 x1_9 (x1_r0 ++ [(⟨x1_4, (a0.getD x1_9.toNat api_Span.z).Lo⟩ : api_Span)])
        else none
      else
        span_beyond.j2 a0 x1_9 x1_r0
    else none
  else
    if x1_4 < 4096 then
      if (x1_r0.length + 1) * 16 ≤ 140737488355328 then
        span_beyond.j1 (x1_r0 ++ [(⟨x1_4, 4096⟩ : api_Span)])
      else none
    else
      span_beyond.j1 x1_r0

noncomputable def span_beyond.step (a0 : List api_Span) : span_beyond.S → Option (span_beyond.S ⊕ (List api_Span))
  | .l1 x1_4 x1_9 x1_r0 => span_beyond.l1 a0 x1_4 x1_9 x1_r0

noncomputable def span_beyond (a0 : List api_Span) : Option (List api_Span) :=
  goLoop (span_beyond.step a0) (.l1 0 0 ([] : List api_Span))

inductive span_both.S where
  | l1 (x1_13 : Int) (x1_r0 : List api_Span)
  | l2 (x2_13 : Int) (x2_19 : Int) (x2_r0 : List api_Span) (x2_b1_0 : Int) (x2_b1_1 : Int)

noncomputable def span_both.j1 (x2_13 : Int) (x2_19 : Int) (x2_b1_0 : Int) (x2_b1_1 : Int) (y1_r0 : List api_Span) : Option (span_both.S ⊕ (List api_Span)) :=
  some (.inl (.l2 x2_13 (IntKind.wrap .i64 (x2_19 + 1)) y1_r0 x2_b1_0 x2_b1_1))

noncomputable def span_both.l1 (a0 : List api_Span) (x1_13 : Int) (x1_r0 : List api_Span) : Option (span_both.S ⊕ (List api_Span)) :=
  if x1_13 < (a0.length : Int) then
    if 0 ≤ x1_13 ∧ x1_13 < (a0.length : Int) then
      some (.inl (.l2 x1_13 0 x1_r0 ((a0.getD x1_13.toNat api_Span.z).Lo) ((a0.getD x1_13.toNat api_Span.z).Hi)))
    else none
  else
    some (.inr x1_r0)

noncomputable def span_both.l2 (a1 : List api_Span) (x2_13 : Int) (x2_19 : Int) (x2_r0 : List api_Span) (x2_b1_0 : Int) (x2_b1_1 : Int) : Option (span_both.S ⊕ (List api_Span)) :=
  if x2_19 < (a1.length : Int) then
    if 0 ≤ x2_19 ∧ x2_19 < (a1.length : Int) then
      if (iMax x2_b1_0 ((a1.getD x2_19.toNat api_Span.z).Lo)) < (iMin x2_b1_1 ((a1.getD x2_19.toNat api_Span.z).Hi)) then
        if (x2_r0.length + 1) * 16 ≤ 140737488355328 then
          span_both.j1 x2_13 x2_19 x2_b1_0 x2_b1_1 (x2_r0 ++ [(⟨iMax x2_b1_0 ((a1.getD x2_19.toNat api_Span.z).Lo), iMin x2_b1_1 ((a1.getD x2_19.toNat api_Span.z).Hi)⟩ : api_Span)])
        else none
      else
        span_both.j1 x2_13 x2_19 x2_b1_0 x2_b1_1 x2_r0
    else none
  else
    some (.inl (.l1 (IntKind.wrap .i64 (x2_13 + 1)) x2_r0))

noncomputable def span_both.step (a0 : List api_Span) (a1 : List api_Span) : span_both.S → Option (span_both.S ⊕ (List api_Span))
  | .l1 x1_13 x1_r0 => span_both.l1 a0 x1_13 x1_r0
  | .l2 x2_13 x2_19 x2_r0 x2_b1_0 x2_b1_1 => span_both.l2 a1 x2_13 x2_19 x2_r0 x2_b1_0 x2_b1_1

noncomputable def span_both (a0 : List api_Span) (a1 : List api_Span) : Option (List api_Span) :=
  goLoop (span_both.step a0 a1) (.l1 0 ([] : List api_Span))

noncomputable def span_limited (a0 : List api_Span) : (List api_Span) × Int :=
  if (a0.length : Int) > 64 then
    (([] : List api_Span), 2)
  else
    (a0, 0)

noncomputable def span_Less.j1 (a0 : List api_Span) (a1 : List api_Span) (y1_13 : Bool) : Option ((List api_Span) × Int) :=
  if y1_13 = true then
    some (([] : List api_Span), 1)
  else
    (span_beyond a1).bind fun v3 =>
    (span_both a0 v3).bind fun v4 =>
    bnd (span_limited v4) fun (v5 : (List api_Span) × Int) =>
    some (v5.1, v5.2)

noncomputable def span_Less (a0 : List api_Span) (a1 : List api_Span) : Option ((List api_Span) × Int) :=
  (span_Check a0).bind fun v1 =>
  if v1 = true then
    (span_Check a1).bind fun v2 =>
    span_Less.j1 a0 a1 (!v2)
  else
    span_Less.j1 a0 a1 true

inductive slices_Concat_api_Pair.S where
  | l1 (x1_3 : Int) (x1_11 : Int)
  | l2 (x2_27 : Int) (x2_r0 : List api_Pair)

noncomputable def slices_Concat_api_Pair.l1 (a0 : List (List api_Pair)) (x1_3 : Int) (x1_11 : Int) : Option (slices_Concat_api_Pair.S ⊕ (List api_Pair)) :=
  if x1_11 < (a0.length : Int) then
    if 0 ≤ x1_11 ∧ x1_11 < (a0.length : Int) then
      bnd (IntKind.wrap .i64 (x1_3 + ((a0.getD x1_11.toNat []).length : Int))) fun (v1 : Int) =>
      if v1 < 0 then
        none
      else
        some (.inl (.l1 v1 (IntKind.wrap .i64 (x1_11 + 1))))
    else none
  else
    if 0 ≤ x1_3 ∧ x1_3 * 16 ≤ 140737488355328 then
      some (.inl (.l2 0 ([] : List api_Pair)))
    else none

noncomputable def slices_Concat_api_Pair.l2 (a0 : List (List api_Pair)) (x2_27 : Int) (x2_r0 : List api_Pair) : Option (slices_Concat_api_Pair.S ⊕ (List api_Pair)) :=
  if x2_27 < (a0.length : Int) then
    if 0 ≤ x2_27 ∧ x2_27 < (a0.length : Int) then
      if (x2_r0.length + (a0.getD x2_27.toNat []).length) * 16 ≤ 140737488355328 then
        some (.inl (.l2 (IntKind.wrap .i64 (x2_27 + 1)) (x2_r0 ++ (a0.getD x2_27.toNat []))))
      else none
    else none
  else
    some (.inr x2_r0)

noncomputable def slices_Concat_api_Pair.step (a0 : List (List api_Pair)) : slices_Concat_api_Pair.S → Option (slices_Concat_api_Pair.S ⊕ (List api_Pair))
  | .l1 x1_3 x1_11 => slices_Concat_api_Pair.l1 a0 x1_3 x1_11
  | .l2 x2_27 x2_r0 => slices_Concat_api_Pair.l2 a0 x2_27 x2_r0

noncomputable def slices_Concat_api_Pair (a0 : List (List api_Pair)) : Option (List api_Pair) :=
  goLoop (slices_Concat_api_Pair.step a0) (.l1 0 0)

noncomputable def table_Join_1 (a0 : api_Pair) (a1 : api_Pair) : Int :=
  cmp_Compare_int a0.Key a1.Key

noncomputable def table_Join.j1 (a0 : List api_Pair) (a1 : List api_Pair) (y1_14 : Bool) : Option ((List api_Pair) × Int) :=
  if y1_14 = true then
    some (([] : List api_Pair), 1)
  else
    (slices_Concat_api_Pair ([a0, a1] : List (List api_Pair))).bind fun v3 =>
    if v3.length * 16 ≤ 140737488355328 then
      (table_Check (sortL api_Pair.z table_Join_1 v3)).bind fun v4 =>
      if v4 = true then
        some (sortL api_Pair.z table_Join_1 v3, 0)
      else
        some (([] : List api_Pair), 7)
    else none

noncomputable def table_Join (a0 : List api_Pair) (a1 : List api_Pair) : Option ((List api_Pair) × Int) :=
  (table_Check a0).bind fun v1 =>
  if v1 = true then
    (table_Check a1).bind fun v2 =>
    table_Join.j1 a0 a1 (!v2)
  else
    table_Join.j1 a0 a1 true

inductive table_Clip.S where
  | l1 (x1_18 : Int) (x1_r0 : List api_Pair)

noncomputable def table_Clip.j2 (x1_18 : Int) (y2_r0 : List api_Pair) : Option (table_Clip.S ⊕ (List api_Pair)) :=
  some (.inl (.l1 (IntKind.wrap .i64 (x1_18 + 1)) y2_r0))

noncomputable def table_Clip.l1 (a0 : List api_Pair) (a1 : List api_Span) (x1_18 : Int) (x1_r0 : List api_Pair) : Option (table_Clip.S ⊕ (List api_Pair)) :=
  if x1_18 < (a0.length : Int) then
    if 0 ≤ x1_18 ∧ x1_18 < (a0.length : Int) then
      (span_Has a1 ((a0.getD x1_18.toNat api_Pair.z).Key)).bind fun v3 =>
      if v3 = true then
        if (x1_r0.length + 1) * 16 ≤ 140737488355328 then
          table_Clip.j2 x1_18 (x1_r0 ++ [(a0.getD x1_18.toNat api_Pair.z)])
        else none
      else
        table_Clip.j2 x1_18 x1_r0
    else none
  else
    some (.inr x1_r0)

noncomputable def table_Clip.step (a0 : List api_Pair) (a1 : List api_Span) : table_Clip.S → Option (table_Clip.S ⊕ (List api_Pair))
  | .l1 x1_18 x1_r0 => table_Clip.l1 a0 a1 x1_18 x1_r0

noncomputable def table_Clip.j1 (a0 : List api_Pair) (a1 : List api_Span) (y1_15 : Bool) : Option (List api_Pair) :=
  if y1_15 = true then
    some ([] : List api_Pair)
  else
    goLoop (table_Clip.step a0 a1) (.l1 0 ([] : List api_Pair))

noncomputable def table_Clip (a0 : List api_Pair) (a1 : List api_Span) : Option (List api_Pair) :=
  (table_Check a0).bind fun v1 =>
  if v1 = true then
    (span_Check a1).bind fun v2 =>
    table_Clip.j1 a0 a1 (!v2)
  else
    table_Clip.j1 a0 a1 true

inductive splicelaw15_JudgeParts.S where
  | l1 (x1_10 : Int)

noncomputable def splicelaw15_JudgeParts.j3 (y3_6 : Bool) : Option (splicelaw15_JudgeParts.S ⊕ Bool) :=
  some (.inr y3_6)

noncomputable def splicelaw15_JudgeParts.j2 (y2_6 : Bool) : Option (splicelaw15_JudgeParts.S ⊕ Bool) :=
  some (.inr y2_6)

noncomputable def splicelaw15_JudgeParts.l1 (a0 : List api_Entry) (a1 : List api_Span) (a2 : Int) (v1 : (List api_Span) × Int) (x1_10 : Int) : Option (splicelaw15_JudgeParts.S ⊕ Bool) :=
  if x1_10 < (a0.length : Int) then
    if 0 ≤ x1_10 ∧ x1_10 < (a0.length : Int) then
      (splicelaw04_Ref ((a0.getD x1_10.toNat api_Entry.z).M)).bind fun v18 =>
      (spliceref04_Check v18).bind fun v19 =>
      if v19 = true then
        some (.inl (.l1 (IntKind.wrap .i64 (x1_10 + 1))))
      else
        (splicelaw15_awake).bind fun v20 =>
        if v20 = true then
          (judge_Fold a0 ([(⟨0, 4096⟩ : api_Span)] : List api_Span) a2).bind fun v21 =>
          splicelaw15_JudgeParts.j3 ((v21.length : Int) == 0)
        else
          splicelaw15_JudgeParts.j3 false
    else none
  else
    (judge_Fold a0 a1 a2).bind fun v4 =>
    (judge_Fold a0 v1.1 a2).bind fun v5 =>
    (judge_Fold a0 ([(⟨0, 4096⟩ : api_Span)] : List api_Span) a2).bind fun v6 =>
    (table_Join v4 v5).bind fun v7 =>
    (splicelaw15_awake).bind fun v8 =>
    if v8 = true then
      if v7.2 = 0 then
        (splicelaw05_Refs v7.1).bind fun v9 =>
        (splicelaw05_Refs v6).bind fun v10 =>
        (spliceref05_Same v9 v10).bind fun v11 =>
        if v11 = true then
          (table_Clip v6 a1).bind fun v12 =>
          (splicelaw05_Refs v12).bind fun v13 =>
          (splicelaw05_Refs v4).bind fun v14 =>
          (spliceref05_Same v13 v14).bind fun v15 =>
          if v15 = true then
            (splicelaw03_Refs a1).bind fun v16 =>
            (spliceref03_Check v16).bind fun v17 =>
            splicelaw15_JudgeParts.j2 v17
          else
            splicelaw15_JudgeParts.j2 false
        else
          splicelaw15_JudgeParts.j2 false
      else
        splicelaw15_JudgeParts.j2 false
    else
      splicelaw15_JudgeParts.j2 false

noncomputable def splicelaw15_JudgeParts.step (a0 : List api_Entry) (a1 : List api_Span) (a2 : Int) (v1 : (List api_Span) × Int) : splicelaw15_JudgeParts.S → Option (splicelaw15_JudgeParts.S ⊕ Bool)
  | .l1 x1_10 => splicelaw15_JudgeParts.l1 a0 a1 a2 v1 x1_10

noncomputable def splicelaw15_JudgeParts.j1 (a0 : List api_Entry) (a1 : List api_Span) (a2 : Int) (v1 : (List api_Span) × Int) (y1_35 : Bool) : Option Bool :=
  if y1_35 = true then
    (splicelaw15_awake).bind fun v3 =>
    some v3
  else
    goLoop (splicelaw15_JudgeParts.step a0 a1 a2 v1) (.l1 0)

noncomputable def splicelaw15_JudgeParts (a0 : List api_Entry) (a1 : List api_Span) (a2 : Int) : Option Bool :=
  (span_Less ([(⟨0, 4096⟩ : api_Span)] : List api_Span) a1).bind fun v1 =>
  (splicelaw15_fewEntries a0).bind fun v2 =>
  if v2 = true then
    if (a1.length : Int) > 60 then
      splicelaw15_JudgeParts.j1 a0 a1 a2 v1 true
    else
      splicelaw15_JudgeParts.j1 a0 a1 a2 v1 (v1.2 != 0)
  else
    splicelaw15_JudgeParts.j1 a0 a1 a2 v1 true
end Go.SyP
