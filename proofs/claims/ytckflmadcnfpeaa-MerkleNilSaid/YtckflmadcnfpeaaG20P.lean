/- Plain functions, printed by gen.py. -/
import Derived.Test.YtckflmadcnfpeaaSyArr
set_option linter.unusedVariables false
namespace Go.SyP
open Go Go.Sy

structure api_Pair where
  Key : Int
  Val : Int
def api_Pair.z : api_Pair := ⟨0, 0⟩
structure api_Cell where
  Val : Int
  Some : Bool
def api_Cell.z : api_Cell := ⟨0, false⟩
structure merkle_Tree where
  cells : (Nat → api_Cell)
  leaf : (Nat → Int)
  low : (Nat → Int)
  mid : (Nat → Int)
  root : Int
def merkle_Tree.z : merkle_Tree := ⟨(fun _ => api_Cell.z), (fun _ => 0), (fun _ => 0), (fun _ => 0), 0⟩
structure api_Span where
  Lo : Int
  Hi : Int
def api_Span.z : api_Span := ⟨0, 0⟩
structure spliceref04_Pair where
  Key : Int
  Val : Int
def spliceref04_Pair.z : spliceref04_Pair := ⟨0, 0⟩
structure spliceref05_Cell where
  Val : Int
  Some : Bool
def spliceref05_Cell.z : spliceref05_Cell := ⟨0, false⟩
structure spliceref03_Span where
  Lo : Int
  Hi : Int
def spliceref03_Span.z : spliceref03_Span := ⟨0, 0⟩
structure arr2_int where
  i0 : Int
  i1 : Int
def arr2_int.z : arr2_int := ⟨0, 0⟩
structure spliceref04_Mut where
  Client : Int
  Seq : Int
  Kind : Int
  Pairs : List spliceref04_Pair
  Over : spliceref03_Span
  Old : Int
def spliceref04_Mut.z : spliceref04_Mut := ⟨0, 0, 0, [], spliceref03_Span.z, 0⟩
structure splicelaw20_Bits where
  Bits : Int
  At : Int
def splicelaw20_Bits.z : splicelaw20_Bits := ⟨0, 0⟩

inductive table_Check.S where
  | l1 (x1_7 : Int)

noncomputable def table_Check.j1 (x1_7 : Int) (y1_44 : Bool) : Option (table_Check.S ⊕ Bool) :=
  if y1_44 = true then
    some (.inr false)
  else
    some (.inl (.l1 (IntKind.wrap .i64 (x1_7 + 1))))

noncomputable def table_Check.l1 (a0 : List api_Pair) (x1_7 : Int) : Option (table_Check.S ⊕ Bool) :=
  if x1_7 < (a0.length : Int) then
    if 0 ≤ x1_7 ∧ x1_7 < (a0.length : Int) then
      if ((a0.getD x1_7.toNat api_Pair.z).Key) < 0 then
        table_Check.j1 x1_7 true
      else
        if ((a0.getD x1_7.toNat api_Pair.z).Key) ≥ 4096 then
          table_Check.j1 x1_7 true
        else
          if ((a0.getD x1_7.toNat api_Pair.z).Val) < (-1099511627776) then
            table_Check.j1 x1_7 true
          else
            if ((a0.getD x1_7.toNat api_Pair.z).Val) > 1099511627776 then
              table_Check.j1 x1_7 true
            else
              if x1_7 > 0 then
                if 0 ≤ (IntKind.wrap .i64 (x1_7 - 1)) ∧ (IntKind.wrap .i64 (x1_7 - 1)) < (a0.length : Int) then
                  table_Check.j1 x1_7 (decide (((a0.getD ((IntKind.wrap .i64 (x1_7 - 1)).toNat) api_Pair.z).Key) ≥ ((a0.getD x1_7.toNat api_Pair.z).Key)))
                else none
              else
                table_Check.j1 x1_7 false
    else none
  else
    some (.inr true)

noncomputable def table_Check.step (a0 : List api_Pair) : table_Check.S → Option (table_Check.S ⊕ Bool)
  | .l1 x1_7 => table_Check.l1 a0 x1_7

noncomputable def table_Check (a0 : List api_Pair) : Option Bool :=
  goLoop (table_Check.step a0) (.l1 0)

inductive cksum_Sum.S where
  | l1 (x1_3 : Int) (x1_7 : Int)
  | l2 (x2_3 : Int) (x2_7 : Int) (x2_16 : Int)

noncomputable def cksum_Sum.l1 (a0 : ByteArray) (x1_3 : Int) (x1_7 : Int) : Option (cksum_Sum.S ⊕ Int) :=
  if x1_7 < (a0.size : Int) then
    if 0 ≤ x1_7 ∧ x1_7 < (a0.size : Int) then
      some (.inl (.l2 (bXor .u32 x1_3 (IntKind.wrap .u32 (byteAt a0 x1_7))) x1_7 0))
    else none
  else
    some (.inr (bXor .u32 4294967295 x1_3))

noncomputable def cksum_Sum.l2 (x2_3 : Int) (x2_7 : Int) (x2_16 : Int) : Option (cksum_Sum.S ⊕ Int) :=
  if x2_16 < 8 then
    bnd (bXor .u32 (Int.fdiv x2_3 2) (bAnd .u32 3988292384 (IntKind.wrap .u32 (0 - (bAnd .u32 x2_3 1))))) fun (v1 : Int) =>
    some (.inl (.l2 v1 x2_7 (IntKind.wrap .i64 (x2_16 + 1))))
  else
    some (.inl (.l1 x2_3 (IntKind.wrap .i64 (x2_7 + 1))))

noncomputable def cksum_Sum.step (a0 : ByteArray) : cksum_Sum.S → Option (cksum_Sum.S ⊕ Int)
  | .l1 x1_3 x1_7 => cksum_Sum.l1 a0 x1_3 x1_7
  | .l2 x2_3 x2_7 x2_16 => cksum_Sum.l2 x2_3 x2_7 x2_16

noncomputable def cksum_Sum (a0 : ByteArray) : Option Int :=
  goLoop (cksum_Sum.step a0) (.l1 4294967295 0)

inductive merkle_over.S where
  | l1 (x1_8 : Int) (x1_r0 : List Int)

noncomputable def merkle_over.l1 (a0 : List Int) (x1_8 : Int) (x1_r0 : List Int) : Option (merkle_over.S ⊕ Int) :=
  if x1_8 < (a0.length : Int) then
    if 0 ≤ x1_8 ∧ x1_8 < (a0.length : Int) then
      if (x1_r0.length + ([IntKind.wrap .u8 (Int.fdiv (a0.getD x1_8.toNat 0) 16777216), IntKind.wrap .u8 (Int.fdiv (a0.getD x1_8.toNat 0) 65536), IntKind.wrap .u8 (Int.fdiv (a0.getD x1_8.toNat 0) 256), IntKind.wrap .u8 (a0.getD x1_8.toNat 0)] : List Int).length) * 1 ≤ 140737488355328 then
        some (.inl (.l1 (IntKind.wrap .i64 (x1_8 + 1)) (x1_r0 ++ ([IntKind.wrap .u8 (Int.fdiv (a0.getD x1_8.toNat 0) 16777216), IntKind.wrap .u8 (Int.fdiv (a0.getD x1_8.toNat 0) 65536), IntKind.wrap .u8 (Int.fdiv (a0.getD x1_8.toNat 0) 256), IntKind.wrap .u8 (a0.getD x1_8.toNat 0)] : List Int))))
      else none
    else none
  else
    (cksum_Sum (strB x1_r0)).bind fun v1 =>
    some (.inr v1)

noncomputable def merkle_over.step (a0 : List Int) : merkle_over.S → Option (merkle_over.S ⊕ Int)
  | .l1 x1_8 x1_r0 => merkle_over.l1 a0 x1_8 x1_r0

noncomputable def merkle_over (a0 : List Int) : Option Int :=
  goLoop (merkle_over.step a0) (.l1 0 ([] : List Int))

inductive merkle_empty.S where
  | l1 (x1_6 : Int) (x1_r0 : merkle_Tree)
  | l2 (x2_20 : Int) (x2_r0 : merkle_Tree)

noncomputable def merkle_empty.l1 (x1_6 : Int) (x1_r0 : merkle_Tree) : Option (merkle_empty.S ⊕ merkle_Tree) :=
  if x1_6 < 256 then
    (merkle_over (winL x1_r0.leaf 0 16)).bind fun v1 =>
    if 0 ≤ x1_6 ∧ x1_6 < 256 then
      bnd (({ x1_r0 with low := upd x1_r0.low x1_6.toNat v1 } : merkle_Tree)) fun (v2 : merkle_Tree) =>
      some (.inl (.l1 (IntKind.wrap .i64 (x1_6 + 1)) v2))
    else none
  else
    some (.inl (.l2 0 x1_r0))

noncomputable def merkle_empty.l2 (x2_20 : Int) (x2_r0 : merkle_Tree) : Option (merkle_empty.S ⊕ merkle_Tree) :=
  if x2_20 < 16 then
    (merkle_over (winL x2_r0.low 0 16)).bind fun v5 =>
    if 0 ≤ x2_20 ∧ x2_20 < 16 then
      bnd (({ x2_r0 with mid := upd x2_r0.mid x2_20.toNat v5 } : merkle_Tree)) fun (v6 : merkle_Tree) =>
      some (.inl (.l2 (IntKind.wrap .i64 (x2_20 + 1)) v6))
    else none
  else
    (merkle_over (winL x2_r0.mid 0 16)).bind fun v3 =>
    bnd (({ x2_r0 with root := v3 } : merkle_Tree)) fun (v4 : merkle_Tree) =>
    some (.inr v4)

noncomputable def merkle_empty.step : merkle_empty.S → Option (merkle_empty.S ⊕ merkle_Tree)
  | .l1 x1_6 x1_r0 => merkle_empty.l1 x1_6 x1_r0
  | .l2 x2_20 x2_r0 => merkle_empty.l2 x2_20 x2_r0

noncomputable def merkle_empty : Option merkle_Tree :=
  goLoop (merkle_empty.step) (.l1 0 merkle_Tree.z)

noncomputable def merkle_Number (a0 : api_Cell) : Option Int :=
  if a0.Some = true then
    if (([1] : List Int).length + 1) * 1 ≤ 140737488355328 then
      if ((([1] : List Int) ++ [IntKind.wrap .u8 (Int.fdiv (IntKind.wrap .u64 a0.Val) 72057594037927936)]).length + 1) * 1 ≤ 140737488355328 then
        if (((([1] : List Int) ++ [IntKind.wrap .u8 (Int.fdiv (IntKind.wrap .u64 a0.Val) 72057594037927936)]) ++ [IntKind.wrap .u8 (Int.fdiv (IntKind.wrap .u64 a0.Val) 281474976710656)]).length + 1) * 1 ≤ 140737488355328 then
          if ((((([1] : List Int) ++ [IntKind.wrap .u8 (Int.fdiv (IntKind.wrap .u64 a0.Val) 72057594037927936)]) ++ [IntKind.wrap .u8 (Int.fdiv (IntKind.wrap .u64 a0.Val) 281474976710656)]) ++ [IntKind.wrap .u8 (Int.fdiv (IntKind.wrap .u64 a0.Val) 1099511627776)]).length + 1) * 1 ≤ 140737488355328 then
            if (((((([1] : List Int) ++ [IntKind.wrap .u8 (Int.fdiv (IntKind.wrap .u64 a0.Val) 72057594037927936)]) ++ [IntKind.wrap .u8 (Int.fdiv (IntKind.wrap .u64 a0.Val) 281474976710656)]) ++ [IntKind.wrap .u8 (Int.fdiv (IntKind.wrap .u64 a0.Val) 1099511627776)]) ++ [IntKind.wrap .u8 (Int.fdiv (IntKind.wrap .u64 a0.Val) 4294967296)]).length + 1) * 1 ≤ 140737488355328 then
              if ((((((([1] : List Int) ++ [IntKind.wrap .u8 (Int.fdiv (IntKind.wrap .u64 a0.Val) 72057594037927936)]) ++ [IntKind.wrap .u8 (Int.fdiv (IntKind.wrap .u64 a0.Val) 281474976710656)]) ++ [IntKind.wrap .u8 (Int.fdiv (IntKind.wrap .u64 a0.Val) 1099511627776)]) ++ [IntKind.wrap .u8 (Int.fdiv (IntKind.wrap .u64 a0.Val) 4294967296)]) ++ [IntKind.wrap .u8 (Int.fdiv (IntKind.wrap .u64 a0.Val) 16777216)]).length + 1) * 1 ≤ 140737488355328 then
                if (((((((([1] : List Int) ++ [IntKind.wrap .u8 (Int.fdiv (IntKind.wrap .u64 a0.Val) 72057594037927936)]) ++ [IntKind.wrap .u8 (Int.fdiv (IntKind.wrap .u64 a0.Val) 281474976710656)]) ++ [IntKind.wrap .u8 (Int.fdiv (IntKind.wrap .u64 a0.Val) 1099511627776)]) ++ [IntKind.wrap .u8 (Int.fdiv (IntKind.wrap .u64 a0.Val) 4294967296)]) ++ [IntKind.wrap .u8 (Int.fdiv (IntKind.wrap .u64 a0.Val) 16777216)]) ++ [IntKind.wrap .u8 (Int.fdiv (IntKind.wrap .u64 a0.Val) 65536)]).length + 1) * 1 ≤ 140737488355328 then
                  if ((((((((([1] : List Int) ++ [IntKind.wrap .u8 (Int.fdiv (IntKind.wrap .u64 a0.Val) 72057594037927936)]) ++ [IntKind.wrap .u8 (Int.fdiv (IntKind.wrap .u64 a0.Val) 281474976710656)]) ++ [IntKind.wrap .u8 (Int.fdiv (IntKind.wrap .u64 a0.Val) 1099511627776)]) ++ [IntKind.wrap .u8 (Int.fdiv (IntKind.wrap .u64 a0.Val) 4294967296)]) ++ [IntKind.wrap .u8 (Int.fdiv (IntKind.wrap .u64 a0.Val) 16777216)]) ++ [IntKind.wrap .u8 (Int.fdiv (IntKind.wrap .u64 a0.Val) 65536)]) ++ [IntKind.wrap .u8 (Int.fdiv (IntKind.wrap .u64 a0.Val) 256)]).length + 1) * 1 ≤ 140737488355328 then
                    (cksum_Sum (strB ((((((((([1] : List Int) ++ [IntKind.wrap .u8 (Int.fdiv (IntKind.wrap .u64 a0.Val) 72057594037927936)]) ++ [IntKind.wrap .u8 (Int.fdiv (IntKind.wrap .u64 a0.Val) 281474976710656)]) ++ [IntKind.wrap .u8 (Int.fdiv (IntKind.wrap .u64 a0.Val) 1099511627776)]) ++ [IntKind.wrap .u8 (Int.fdiv (IntKind.wrap .u64 a0.Val) 4294967296)]) ++ [IntKind.wrap .u8 (Int.fdiv (IntKind.wrap .u64 a0.Val) 16777216)]) ++ [IntKind.wrap .u8 (Int.fdiv (IntKind.wrap .u64 a0.Val) 65536)]) ++ [IntKind.wrap .u8 (Int.fdiv (IntKind.wrap .u64 a0.Val) 256)]) ++ [IntKind.wrap .u8 (Int.fdiv (IntKind.wrap .u64 a0.Val) 1)]))).bind fun v1 =>
                    some v1
                  else none
                else none
              else none
            else none
          else none
        else none
      else none
    else none
  else
    some 0

noncomputable def merkle_Tree_up (a0 : merkle_Tree) (a1 : Int) : Option merkle_Tree :=
  bnd (IntKind.wrap .i64 (Int.tdiv (IntKind.wrap .i64 (Int.tdiv a1 16)) 16)) fun (v1 : Int) =>
  if 0 ≤ (IntKind.wrap .i64 ((IntKind.wrap .i64 (Int.tdiv a1 16)) * 16)) ∧ (IntKind.wrap .i64 ((IntKind.wrap .i64 (Int.tdiv a1 16)) * 16)) ≤ (IntKind.wrap .i64 ((IntKind.wrap .i64 ((IntKind.wrap .i64 (Int.tdiv a1 16)) + 1)) * 16)) ∧ (IntKind.wrap .i64 ((IntKind.wrap .i64 ((IntKind.wrap .i64 (Int.tdiv a1 16)) + 1)) * 16)) ≤ 4096 ∧ (IntKind.wrap .i64 ((IntKind.wrap .i64 (Int.tdiv a1 16)) * 16)) < 4096 then
    (merkle_over (winL a0.leaf (IntKind.wrap .i64 ((IntKind.wrap .i64 (Int.tdiv a1 16)) * 16)).toNat ((IntKind.wrap .i64 ((IntKind.wrap .i64 ((IntKind.wrap .i64 (Int.tdiv a1 16)) + 1)) * 16)).toNat - (IntKind.wrap .i64 ((IntKind.wrap .i64 (Int.tdiv a1 16)) * 16)).toNat))).bind fun v2 =>
    if 0 ≤ (IntKind.wrap .i64 (Int.tdiv a1 16)) ∧ (IntKind.wrap .i64 (Int.tdiv a1 16)) < 256 then
      bnd (({ a0 with low := upd a0.low (IntKind.wrap .i64 (Int.tdiv a1 16)).toNat v2 } : merkle_Tree)) fun (v3 : merkle_Tree) =>
      if 0 ≤ (IntKind.wrap .i64 (v1 * 16)) ∧ (IntKind.wrap .i64 (v1 * 16)) ≤ (IntKind.wrap .i64 ((IntKind.wrap .i64 (v1 + 1)) * 16)) ∧ (IntKind.wrap .i64 ((IntKind.wrap .i64 (v1 + 1)) * 16)) ≤ 256 ∧ (IntKind.wrap .i64 (v1 * 16)) < 256 then
        (merkle_over (winL v3.low (IntKind.wrap .i64 (v1 * 16)).toNat ((IntKind.wrap .i64 ((IntKind.wrap .i64 (v1 + 1)) * 16)).toNat - (IntKind.wrap .i64 (v1 * 16)).toNat))).bind fun v4 =>
        if 0 ≤ v1 ∧ v1 < 16 then
          bnd (({ v3 with mid := upd v3.mid v1.toNat v4 } : merkle_Tree)) fun (v5 : merkle_Tree) =>
          (merkle_over (winL v5.mid 0 16)).bind fun v6 =>
          bnd (({ v5 with root := v6 } : merkle_Tree)) fun (v7 : merkle_Tree) =>
          some v7
        else none
      else none
    else none
  else none

noncomputable def merkle_Tree_put (a0 : merkle_Tree) (a1 : Int) (a2 : api_Cell) : Option merkle_Tree :=
  if 0 ≤ a1 ∧ a1 < 4096 then
    bnd (({ a0 with cells := upd a0.cells a1.toNat a2 } : merkle_Tree)) fun (v1 : merkle_Tree) =>
    (merkle_Number a2).bind fun v2 =>
    bnd (({ v1 with leaf := upd v1.leaf a1.toNat v2 } : merkle_Tree)) fun (v3 : merkle_Tree) =>
    (merkle_Tree_up v3 a1).bind fun v4 =>
    some v4
  else none

inductive merkle_New.S where
  | l1 (x1_13 : Int) (x1_r0 : merkle_Tree)

noncomputable def merkle_New.l1 (a0 : List api_Pair) (x1_13 : Int) (x1_r0 : merkle_Tree) : Option (merkle_New.S ⊕ ((Option merkle_Tree) × Int)) :=
  if x1_13 < (a0.length : Int) then
    if 0 ≤ x1_13 ∧ x1_13 < (a0.length : Int) then
      (merkle_Tree_put x1_r0 ((a0.getD x1_13.toNat api_Pair.z).Key) (⟨(a0.getD x1_13.toNat api_Pair.z).Val, true⟩ : api_Cell)).bind fun v3 =>
      some (.inl (.l1 (IntKind.wrap .i64 (x1_13 + 1)) v3))
    else none
  else
    some (.inr (some x1_r0, 0))

noncomputable def merkle_New.step (a0 : List api_Pair) : merkle_New.S → Option (merkle_New.S ⊕ ((Option merkle_Tree) × Int))
  | .l1 x1_13 x1_r0 => merkle_New.l1 a0 x1_13 x1_r0

noncomputable def merkle_New (a0 : List api_Pair) : Option ((Option merkle_Tree) × Int) :=
  (table_Check a0).bind fun v1 =>
  if v1 = true then
    (merkle_empty).bind fun v2 =>
    goLoop (merkle_New.step a0) (.l1 0 v2)
  else
    some (none, 1)

noncomputable def splicelaw20_few (a0 : List api_Pair) : Bool :=
  decide ((a0.length : Int) ≤ 60)

noncomputable def merkle_Tree_some_n0 : Option merkle_Tree :=
  (merkle_empty).bind fun v1 =>
  some v1

inductive merkle_differ.S where
  | l1 (x1_18 : Int) (x1_r2 : List Int)
  | l2 (x2_6 : Int) (x2_7 : Int) (x2_18 : Int) (x2_r2 : List Int)
  | l3 (x3_6 : Int) (x3_7 : Int) (x3_8 : Int) (x3_18 : Int) (x3_r2 : List Int)

noncomputable def merkle_differ.j1 (x3_6 : Int) (x3_7 : Int) (x3_8 : Int) (x3_18 : Int) (y1_r2 : List Int) : Option (merkle_differ.S ⊕ (List Int)) :=
  some (.inl (.l3 x3_6 x3_7 (IntKind.wrap .i64 (x3_8 + 1)) x3_18 y1_r2))

noncomputable def merkle_differ.l1 (a0 : merkle_Tree) (a1 : merkle_Tree) (x1_18 : Int) (x1_r2 : List Int) : Option (merkle_differ.S ⊕ (List Int)) :=
  if x1_18 < 16 then
    if 0 ≤ x1_18 ∧ x1_18 < 16 then
      if (a0.mid x1_18.toNat) = (a1.mid x1_18.toNat) then
        some (.inl (.l1 (IntKind.wrap .i64 (x1_18 + 1)) x1_r2))
      else
        some (.inl (.l2 x1_18 (IntKind.wrap .i64 (x1_18 * 16)) x1_18 x1_r2))
    else none
  else
    some (.inr x1_r2)

noncomputable def merkle_differ.l2 (a0 : merkle_Tree) (a1 : merkle_Tree) (x2_6 : Int) (x2_7 : Int) (x2_18 : Int) (x2_r2 : List Int) : Option (merkle_differ.S ⊕ (List Int)) :=
  if x2_7 < (IntKind.wrap .i64 ((IntKind.wrap .i64 (x2_6 + 1)) * 16)) then
    if 0 ≤ x2_7 ∧ x2_7 < 256 then
      if (a0.low x2_7.toNat) = (a1.low x2_7.toNat) then
        some (.inl (.l2 x2_6 (IntKind.wrap .i64 (x2_7 + 1)) x2_18 x2_r2))
      else
        some (.inl (.l3 x2_6 x2_7 (IntKind.wrap .i64 (x2_7 * 16)) x2_18 x2_r2))
    else none
  else
    some (.inl (.l1 (IntKind.wrap .i64 (x2_18 + 1)) x2_r2))

noncomputable def merkle_differ.l3 (a0 : merkle_Tree) (a1 : merkle_Tree) (x3_6 : Int) (x3_7 : Int) (x3_8 : Int) (x3_18 : Int) (x3_r2 : List Int) : Option (merkle_differ.S ⊕ (List Int)) :=
  if x3_8 < (IntKind.wrap .i64 ((IntKind.wrap .i64 (x3_7 + 1)) * 16)) then
    if 0 ≤ x3_8 ∧ x3_8 < 4096 then
      if (a0.leaf x3_8.toNat) = (a1.leaf x3_8.toNat) then
        merkle_differ.j1 x3_6 x3_7 x3_8 x3_18 x3_r2
      else
        if (x3_r2.length + 1) * 8 ≤ 140737488355328 then
          merkle_differ.j1 x3_6 x3_7 x3_8 x3_18 (x3_r2 ++ [x3_8])
        else none
    else none
  else
    some (.inl (.l2 x3_6 (IntKind.wrap .i64 (x3_7 + 1)) x3_18 x3_r2))

noncomputable def merkle_differ.step (a0 : merkle_Tree) (a1 : merkle_Tree) : merkle_differ.S → Option (merkle_differ.S ⊕ (List Int))
  | .l1 x1_18 x1_r2 => merkle_differ.l1 a0 a1 x1_18 x1_r2
  | .l2 x2_6 x2_7 x2_18 x2_r2 => merkle_differ.l2 a0 a1 x2_6 x2_7 x2_18 x2_r2
  | .l3 x3_6 x3_7 x3_8 x3_18 x3_r2 => merkle_differ.l3 a0 a1 x3_6 x3_7 x3_8 x3_18 x3_r2

noncomputable def merkle_differ (a0 : merkle_Tree) (a1 : merkle_Tree) : Option (List Int) :=
  if a0.root = a1.root then
    some ([] : List Int)
  else
    goLoop (merkle_differ.step a0 a1) (.l1 0 ([] : List Int))

inductive merkle_Diff_n01.S where
  | l1 (x1_16 : Int) (x1_r0 : List api_Span)
  | l2 (x2_r0 : List api_Span)

noncomputable def merkle_Diff_n01.j1 (v3 : List Int) (x1_16 : Int) (x1_r0 : List api_Span) (y1_33 : Bool) : Option (merkle_Diff_n01.S ⊕ (List api_Span)) :=
  if y1_33 = true then
    if 0 ≤ (IntKind.wrap .i64 ((x1_r0.length : Int) - 1)) ∧ (IntKind.wrap .i64 ((x1_r0.length : Int) - 1)) < (x1_r0.length : Int) then
      some (.inl (.l1 (IntKind.wrap .i64 (x1_16 + 1)) (x1_r0.set ((IntKind.wrap .i64 ((x1_r0.length : Int) - 1)).toNat) (⟨(x1_r0.getD ((IntKind.wrap .i64 ((x1_r0.length : Int) - 1)).toNat) api_Span.z).Lo, IntKind.wrap .i64 (((x1_r0.getD ((IntKind.wrap .i64 ((x1_r0.length : Int) - 1)).toNat) api_Span.z).Hi) + 1)⟩ : api_Span))))
    else none
  else
    if (x1_r0.length + 1) * 16 ≤ 140737488355328 then
      some (.inl (.l1 (IntKind.wrap .i64 (x1_16 + 1)) (x1_r0 ++ [(⟨v3.getD x1_16.toNat 0, IntKind.wrap .i64 ((v3.getD x1_16.toNat 0) + 1)⟩ : api_Span)])))
    else none

noncomputable def merkle_Diff_n01.l1 (v3 : List Int) (x1_16 : Int) (x1_r0 : List api_Span) : Option (merkle_Diff_n01.S ⊕ (List api_Span)) :=
  if x1_16 < (v3.length : Int) then
    if 0 ≤ x1_16 ∧ x1_16 < (v3.length : Int) then
      if (IntKind.wrap .i64 ((x1_r0.length : Int) - 1)) ≥ 0 then
        if 0 ≤ (IntKind.wrap .i64 ((x1_r0.length : Int) - 1)) ∧ (IntKind.wrap .i64 ((x1_r0.length : Int) - 1)) < (x1_r0.length : Int) then
          merkle_Diff_n01.j1 v3 x1_16 x1_r0 (((x1_r0.getD ((IntKind.wrap .i64 ((x1_r0.length : Int) - 1)).toNat) api_Span.z).Hi) == (v3.getD x1_16.toNat 0))
        else none
      else
        merkle_Diff_n01.j1 v3 x1_16 x1_r0 false
    else none
  else
    some (.inl (.l2 x1_r0))

noncomputable def merkle_Diff_n01.l2 (x2_r0 : List api_Span) : Option (merkle_Diff_n01.S ⊕ (List api_Span)) :=
  if (x2_r0.length : Int) > 64 then
    if 0 ≤ (IntKind.wrap .i64 ((x2_r0.length : Int) - 1)) ∧ (IntKind.wrap .i64 ((x2_r0.length : Int) - 1)) < (x2_r0.length : Int) then
      if 0 ≤ (IntKind.wrap .i64 ((IntKind.wrap .i64 ((x2_r0.length : Int) - 1)) - 1)) ∧ (IntKind.wrap .i64 ((IntKind.wrap .i64 ((x2_r0.length : Int) - 1)) - 1)) < (x2_r0.length : Int) then
        if 0 ≤ (IntKind.wrap .i64 ((x2_r0.length : Int) - 1)) ∧ (IntKind.wrap .i64 ((x2_r0.length : Int) - 1)) ≤ ((x2_r0.set ((IntKind.wrap .i64 ((IntKind.wrap .i64 ((x2_r0.length : Int) - 1)) - 1)).toNat) (⟨(x2_r0.getD ((IntKind.wrap .i64 ((IntKind.wrap .i64 ((x2_r0.length : Int) - 1)) - 1)).toNat) api_Span.z).Lo, (x2_r0.getD ((IntKind.wrap .i64 ((x2_r0.length : Int) - 1)).toNat) api_Span.z).Hi⟩ : api_Span)).length : Int) then
          some (.inl (.l2 ((x2_r0.set ((IntKind.wrap .i64 ((IntKind.wrap .i64 ((x2_r0.length : Int) - 1)) - 1)).toNat) (⟨(x2_r0.getD ((IntKind.wrap .i64 ((IntKind.wrap .i64 ((x2_r0.length : Int) - 1)) - 1)).toNat) api_Span.z).Lo, (x2_r0.getD ((IntKind.wrap .i64 ((x2_r0.length : Int) - 1)).toNat) api_Span.z).Hi⟩ : api_Span)).take (IntKind.wrap .i64 ((x2_r0.length : Int) - 1)).toNat)))
        else none
      else none
    else none
  else
    some (.inr x2_r0)

noncomputable def merkle_Diff_n01.step (v3 : List Int) : merkle_Diff_n01.S → Option (merkle_Diff_n01.S ⊕ (List api_Span))
  | .l1 x1_16 x1_r0 => merkle_Diff_n01.l1 v3 x1_16 x1_r0
  | .l2 x2_r0 => merkle_Diff_n01.l2 x2_r0

noncomputable def merkle_Diff_n01 : Option (List api_Span) :=
  (merkle_Tree_some_n0).bind fun v1 =>
  (merkle_Tree_some_n0).bind fun v2 =>
  (merkle_differ v1 v2).bind fun v3 =>
  goLoop (merkle_Diff_n01.step v3) (.l1 0 ([] : List api_Span))

noncomputable def merkle_Tree_Root_n0 : Option Int :=
  (merkle_Tree_some_n0).bind fun v1 =>
  some v1.root

noncomputable def merkle_Tree_some (a0 : merkle_Tree) : Unit :=
  ()

inductive merkle_Diff_n0.S where
  | l1 (x1_16 : Int) (x1_r1 : List api_Span)
  | l2 (x2_r1 : List api_Span)

noncomputable def merkle_Diff_n0.j1 (v2 : List Int) (x1_16 : Int) (x1_r1 : List api_Span) (y1_33 : Bool) : Option (merkle_Diff_n0.S ⊕ (List api_Span)) :=
  if y1_33 = true then
    if 0 ≤ (IntKind.wrap .i64 ((x1_r1.length : Int) - 1)) ∧ (IntKind.wrap .i64 ((x1_r1.length : Int) - 1)) < (x1_r1.length : Int) then
      some (.inl (.l1 (IntKind.wrap .i64 (x1_16 + 1)) (x1_r1.set ((IntKind.wrap .i64 ((x1_r1.length : Int) - 1)).toNat) (⟨(x1_r1.getD ((IntKind.wrap .i64 ((x1_r1.length : Int) - 1)).toNat) api_Span.z).Lo, IntKind.wrap .i64 (((x1_r1.getD ((IntKind.wrap .i64 ((x1_r1.length : Int) - 1)).toNat) api_Span.z).Hi) + 1)⟩ : api_Span))))
    else none
  else
    if (x1_r1.length + 1) * 16 ≤ 140737488355328 then
      some (.inl (.l1 (IntKind.wrap .i64 (x1_16 + 1)) (x1_r1 ++ [(⟨v2.getD x1_16.toNat 0, IntKind.wrap .i64 ((v2.getD x1_16.toNat 0) + 1)⟩ : api_Span)])))
    else none

noncomputable def merkle_Diff_n0.l1 (v2 : List Int) (x1_16 : Int) (x1_r1 : List api_Span) : Option (merkle_Diff_n0.S ⊕ (List api_Span)) :=
  if x1_16 < (v2.length : Int) then
    if 0 ≤ x1_16 ∧ x1_16 < (v2.length : Int) then
      if (IntKind.wrap .i64 ((x1_r1.length : Int) - 1)) ≥ 0 then
        if 0 ≤ (IntKind.wrap .i64 ((x1_r1.length : Int) - 1)) ∧ (IntKind.wrap .i64 ((x1_r1.length : Int) - 1)) < (x1_r1.length : Int) then
          merkle_Diff_n0.j1 v2 x1_16 x1_r1 (((x1_r1.getD ((IntKind.wrap .i64 ((x1_r1.length : Int) - 1)).toNat) api_Span.z).Hi) == (v2.getD x1_16.toNat 0))
        else none
      else
        merkle_Diff_n0.j1 v2 x1_16 x1_r1 false
    else none
  else
    some (.inl (.l2 x1_r1))

noncomputable def merkle_Diff_n0.l2 (x2_r1 : List api_Span) : Option (merkle_Diff_n0.S ⊕ (List api_Span)) :=
  if (x2_r1.length : Int) > 64 then
    if 0 ≤ (IntKind.wrap .i64 ((x2_r1.length : Int) - 1)) ∧ (IntKind.wrap .i64 ((x2_r1.length : Int) - 1)) < (x2_r1.length : Int) then
      if 0 ≤ (IntKind.wrap .i64 ((IntKind.wrap .i64 ((x2_r1.length : Int) - 1)) - 1)) ∧ (IntKind.wrap .i64 ((IntKind.wrap .i64 ((x2_r1.length : Int) - 1)) - 1)) < (x2_r1.length : Int) then
        if 0 ≤ (IntKind.wrap .i64 ((x2_r1.length : Int) - 1)) ∧ (IntKind.wrap .i64 ((x2_r1.length : Int) - 1)) ≤ ((x2_r1.set ((IntKind.wrap .i64 ((IntKind.wrap .i64 ((x2_r1.length : Int) - 1)) - 1)).toNat) (⟨(x2_r1.getD ((IntKind.wrap .i64 ((IntKind.wrap .i64 ((x2_r1.length : Int) - 1)) - 1)).toNat) api_Span.z).Lo, (x2_r1.getD ((IntKind.wrap .i64 ((x2_r1.length : Int) - 1)).toNat) api_Span.z).Hi⟩ : api_Span)).length : Int) then
          some (.inl (.l2 ((x2_r1.set ((IntKind.wrap .i64 ((IntKind.wrap .i64 ((x2_r1.length : Int) - 1)) - 1)).toNat) (⟨(x2_r1.getD ((IntKind.wrap .i64 ((IntKind.wrap .i64 ((x2_r1.length : Int) - 1)) - 1)).toNat) api_Span.z).Lo, (x2_r1.getD ((IntKind.wrap .i64 ((x2_r1.length : Int) - 1)).toNat) api_Span.z).Hi⟩ : api_Span)).take (IntKind.wrap .i64 ((x2_r1.length : Int) - 1)).toNat)))
        else none
      else none
    else none
  else
    some (.inr x2_r1)

noncomputable def merkle_Diff_n0.step (v2 : List Int) : merkle_Diff_n0.S → Option (merkle_Diff_n0.S ⊕ (List api_Span))
  | .l1 x1_16 x1_r1 => merkle_Diff_n0.l1 v2 x1_16 x1_r1
  | .l2 x2_r1 => merkle_Diff_n0.l2 x2_r1

noncomputable def merkle_Diff_n0 (a1 : merkle_Tree) : Option (List api_Span) :=
  (merkle_Tree_some_n0).bind fun v1 =>
  (merkle_differ v1 a1).bind fun v2 =>
  goLoop (merkle_Diff_n0.step v2) (.l1 0 ([] : List api_Span))

noncomputable def merkle_Tree_Root (a0 : merkle_Tree) : Int :=
  a0.root

inductive merkle_Diff_n1.S where
  | l1 (x1_16 : Int) (x1_r1 : List api_Span)
  | l2 (x2_r1 : List api_Span)

noncomputable def merkle_Diff_n1.j1 (v2 : List Int) (x1_16 : Int) (x1_r1 : List api_Span) (y1_33 : Bool) : Option (merkle_Diff_n1.S ⊕ (List api_Span)) :=
  if y1_33 = true then
    if 0 ≤ (IntKind.wrap .i64 ((x1_r1.length : Int) - 1)) ∧ (IntKind.wrap .i64 ((x1_r1.length : Int) - 1)) < (x1_r1.length : Int) then
      some (.inl (.l1 (IntKind.wrap .i64 (x1_16 + 1)) (x1_r1.set ((IntKind.wrap .i64 ((x1_r1.length : Int) - 1)).toNat) (⟨(x1_r1.getD ((IntKind.wrap .i64 ((x1_r1.length : Int) - 1)).toNat) api_Span.z).Lo, IntKind.wrap .i64 (((x1_r1.getD ((IntKind.wrap .i64 ((x1_r1.length : Int) - 1)).toNat) api_Span.z).Hi) + 1)⟩ : api_Span))))
    else none
  else
    if (x1_r1.length + 1) * 16 ≤ 140737488355328 then
      some (.inl (.l1 (IntKind.wrap .i64 (x1_16 + 1)) (x1_r1 ++ [(⟨v2.getD x1_16.toNat 0, IntKind.wrap .i64 ((v2.getD x1_16.toNat 0) + 1)⟩ : api_Span)])))
    else none

noncomputable def merkle_Diff_n1.l1 (v2 : List Int) (x1_16 : Int) (x1_r1 : List api_Span) : Option (merkle_Diff_n1.S ⊕ (List api_Span)) :=
  if x1_16 < (v2.length : Int) then
    if 0 ≤ x1_16 ∧ x1_16 < (v2.length : Int) then
      if (IntKind.wrap .i64 ((x1_r1.length : Int) - 1)) ≥ 0 then
        if 0 ≤ (IntKind.wrap .i64 ((x1_r1.length : Int) - 1)) ∧ (IntKind.wrap .i64 ((x1_r1.length : Int) - 1)) < (x1_r1.length : Int) then
          merkle_Diff_n1.j1 v2 x1_16 x1_r1 (((x1_r1.getD ((IntKind.wrap .i64 ((x1_r1.length : Int) - 1)).toNat) api_Span.z).Hi) == (v2.getD x1_16.toNat 0))
        else none
      else
        merkle_Diff_n1.j1 v2 x1_16 x1_r1 false
    else none
  else
    some (.inl (.l2 x1_r1))

noncomputable def merkle_Diff_n1.l2 (x2_r1 : List api_Span) : Option (merkle_Diff_n1.S ⊕ (List api_Span)) :=
  if (x2_r1.length : Int) > 64 then
    if 0 ≤ (IntKind.wrap .i64 ((x2_r1.length : Int) - 1)) ∧ (IntKind.wrap .i64 ((x2_r1.length : Int) - 1)) < (x2_r1.length : Int) then
      if 0 ≤ (IntKind.wrap .i64 ((IntKind.wrap .i64 ((x2_r1.length : Int) - 1)) - 1)) ∧ (IntKind.wrap .i64 ((IntKind.wrap .i64 ((x2_r1.length : Int) - 1)) - 1)) < (x2_r1.length : Int) then
        if 0 ≤ (IntKind.wrap .i64 ((x2_r1.length : Int) - 1)) ∧ (IntKind.wrap .i64 ((x2_r1.length : Int) - 1)) ≤ ((x2_r1.set ((IntKind.wrap .i64 ((IntKind.wrap .i64 ((x2_r1.length : Int) - 1)) - 1)).toNat) (⟨(x2_r1.getD ((IntKind.wrap .i64 ((IntKind.wrap .i64 ((x2_r1.length : Int) - 1)) - 1)).toNat) api_Span.z).Lo, (x2_r1.getD ((IntKind.wrap .i64 ((x2_r1.length : Int) - 1)).toNat) api_Span.z).Hi⟩ : api_Span)).length : Int) then
          some (.inl (.l2 ((x2_r1.set ((IntKind.wrap .i64 ((IntKind.wrap .i64 ((x2_r1.length : Int) - 1)) - 1)).toNat) (⟨(x2_r1.getD ((IntKind.wrap .i64 ((IntKind.wrap .i64 ((x2_r1.length : Int) - 1)) - 1)).toNat) api_Span.z).Lo, (x2_r1.getD ((IntKind.wrap .i64 ((x2_r1.length : Int) - 1)).toNat) api_Span.z).Hi⟩ : api_Span)).take (IntKind.wrap .i64 ((x2_r1.length : Int) - 1)).toNat)))
        else none
      else none
    else none
  else
    some (.inr x2_r1)

noncomputable def merkle_Diff_n1.step (v2 : List Int) : merkle_Diff_n1.S → Option (merkle_Diff_n1.S ⊕ (List api_Span))
  | .l1 x1_16 x1_r1 => merkle_Diff_n1.l1 v2 x1_16 x1_r1
  | .l2 x2_r1 => merkle_Diff_n1.l2 x2_r1

noncomputable def merkle_Diff_n1 (a0 : merkle_Tree) : Option (List api_Span) :=
  (merkle_Tree_some_n0).bind fun v1 =>
  (merkle_differ a0 v1).bind fun v2 =>
  goLoop (merkle_Diff_n1.step v2) (.l1 0 ([] : List api_Span))

inductive merkle_Diff.S where
  | l1 (x1_16 : Int) (x1_r2 : List api_Span)
  | l2 (x2_r2 : List api_Span)

noncomputable def merkle_Diff.j1 (v1 : List Int) (x1_16 : Int) (x1_r2 : List api_Span) (y1_33 : Bool) : Option (merkle_Diff.S ⊕ (List api_Span)) :=
  if y1_33 = true then
    if 0 ≤ (IntKind.wrap .i64 ((x1_r2.length : Int) - 1)) ∧ (IntKind.wrap .i64 ((x1_r2.length : Int) - 1)) < (x1_r2.length : Int) then
      some (.inl (.l1 (IntKind.wrap .i64 (x1_16 + 1)) (x1_r2.set ((IntKind.wrap .i64 ((x1_r2.length : Int) - 1)).toNat) (⟨(x1_r2.getD ((IntKind.wrap .i64 ((x1_r2.length : Int) - 1)).toNat) api_Span.z).Lo, IntKind.wrap .i64 (((x1_r2.getD ((IntKind.wrap .i64 ((x1_r2.length : Int) - 1)).toNat) api_Span.z).Hi) + 1)⟩ : api_Span))))
    else none
  else
    if (x1_r2.length + 1) * 16 ≤ 140737488355328 then
      some (.inl (.l1 (IntKind.wrap .i64 (x1_16 + 1)) (x1_r2 ++ [(⟨v1.getD x1_16.toNat 0, IntKind.wrap .i64 ((v1.getD x1_16.toNat 0) + 1)⟩ : api_Span)])))
    else none

noncomputable def merkle_Diff.l1 (v1 : List Int) (x1_16 : Int) (x1_r2 : List api_Span) : Option (merkle_Diff.S ⊕ (List api_Span)) :=
  if x1_16 < (v1.length : Int) then
    if 0 ≤ x1_16 ∧ x1_16 < (v1.length : Int) then
      if (IntKind.wrap .i64 ((x1_r2.length : Int) - 1)) ≥ 0 then
        if 0 ≤ (IntKind.wrap .i64 ((x1_r2.length : Int) - 1)) ∧ (IntKind.wrap .i64 ((x1_r2.length : Int) - 1)) < (x1_r2.length : Int) then
          merkle_Diff.j1 v1 x1_16 x1_r2 (((x1_r2.getD ((IntKind.wrap .i64 ((x1_r2.length : Int) - 1)).toNat) api_Span.z).Hi) == (v1.getD x1_16.toNat 0))
        else none
      else
        merkle_Diff.j1 v1 x1_16 x1_r2 false
    else none
  else
    some (.inl (.l2 x1_r2))

noncomputable def merkle_Diff.l2 (x2_r2 : List api_Span) : Option (merkle_Diff.S ⊕ (List api_Span)) :=
  if (x2_r2.length : Int) > 64 then
    if 0 ≤ (IntKind.wrap .i64 ((x2_r2.length : Int) - 1)) ∧ (IntKind.wrap .i64 ((x2_r2.length : Int) - 1)) < (x2_r2.length : Int) then
      if 0 ≤ (IntKind.wrap .i64 ((IntKind.wrap .i64 ((x2_r2.length : Int) - 1)) - 1)) ∧ (IntKind.wrap .i64 ((IntKind.wrap .i64 ((x2_r2.length : Int) - 1)) - 1)) < (x2_r2.length : Int) then
        if 0 ≤ (IntKind.wrap .i64 ((x2_r2.length : Int) - 1)) ∧ (IntKind.wrap .i64 ((x2_r2.length : Int) - 1)) ≤ ((x2_r2.set ((IntKind.wrap .i64 ((IntKind.wrap .i64 ((x2_r2.length : Int) - 1)) - 1)).toNat) (⟨(x2_r2.getD ((IntKind.wrap .i64 ((IntKind.wrap .i64 ((x2_r2.length : Int) - 1)) - 1)).toNat) api_Span.z).Lo, (x2_r2.getD ((IntKind.wrap .i64 ((x2_r2.length : Int) - 1)).toNat) api_Span.z).Hi⟩ : api_Span)).length : Int) then
          some (.inl (.l2 ((x2_r2.set ((IntKind.wrap .i64 ((IntKind.wrap .i64 ((x2_r2.length : Int) - 1)) - 1)).toNat) (⟨(x2_r2.getD ((IntKind.wrap .i64 ((IntKind.wrap .i64 ((x2_r2.length : Int) - 1)) - 1)).toNat) api_Span.z).Lo, (x2_r2.getD ((IntKind.wrap .i64 ((x2_r2.length : Int) - 1)).toNat) api_Span.z).Hi⟩ : api_Span)).take (IntKind.wrap .i64 ((x2_r2.length : Int) - 1)).toNat)))
        else none
      else none
    else none
  else
    some (.inr x2_r2)

noncomputable def merkle_Diff.step (v1 : List Int) : merkle_Diff.S → Option (merkle_Diff.S ⊕ (List api_Span))
  | .l1 x1_16 x1_r2 => merkle_Diff.l1 v1 x1_16 x1_r2
  | .l2 x2_r2 => merkle_Diff.l2 x2_r2

noncomputable def merkle_Diff (a0 : merkle_Tree) (a1 : merkle_Tree) : Option (List api_Span) :=
  (merkle_differ a0 a1).bind fun v1 =>
  goLoop (merkle_Diff.step v1) (.l1 0 ([] : List api_Span))

noncomputable def splicelaw20_awake.j4 (y4_0 : Bool) : Option Bool :=
  some y4_0

noncomputable def splicelaw20_awake.j3 (y3_0 : Bool) : Option Bool :=
  some y3_0

noncomputable def splicelaw20_awake.j2 (y2_0 : Bool) : Option Bool :=
  some y2_0

noncomputable def splicelaw20_awake.j1 (y1_0 : Bool) : Option Bool :=
  some y1_0

noncomputable def splicelaw20_awake : Option Bool :=
  (merkle_New ([(⟨5, 7⟩ : api_Pair)] : List api_Pair)).bind fun v1 =>
  optE v1.1 (
    (merkle_New ([(⟨5, 8⟩ : api_Pair)] : List api_Pair)).bind fun v3 =>
    optE v3.1 (
      (merkle_Diff_n01).bind fun v5 =>
      if v1.2 = 0 then
        if v3.2 = 0 then
          if (v5.length : Int) = 1 then
            if (0 : Int) ≤ 0 ∧ 0 < (v5.length : Int) then
              if ((v5.getD 0 api_Span.z).Lo) = 5 then
                if ((v5.getD 0 api_Span.z).Hi) = 6 then
                  (merkle_Tree_Root_n0).bind fun v6 =>
                  (merkle_Tree_Root_n0).bind fun v7 =>
                  if v6 = v7 then
                    splicelaw20_awake.j1 false
                  else
                    (merkle_Number (⟨0, false⟩ : api_Cell)).bind fun v8 =>
                    splicelaw20_awake.j1 (v8 == 0)
                else
                  splicelaw20_awake.j1 false
              else
                if ((v5.getD 0 api_Span.z).Hi) = 6 then
                  splicelaw20_awake.j1 false
                else
                  splicelaw20_awake.j1 false
            else none
          else
            splicelaw20_awake.j1 false
        else
          splicelaw20_awake.j1 false
      else
        splicelaw20_awake.j1 false) fun (v4 : merkle_Tree) =>
    (merkle_Diff_n0 v4).bind fun v9 =>
    if v1.2 = 0 then
      if v3.2 = 0 then
        if (v9.length : Int) = 1 then
          if (0 : Int) ≤ 0 ∧ 0 < (v9.length : Int) then
            if ((v9.getD 0 api_Span.z).Lo) = 5 then
              if ((v9.getD 0 api_Span.z).Hi) = 6 then
                (merkle_Tree_Root_n0).bind fun v10 =>
                if v10 = (merkle_Tree_Root v4) then
                  splicelaw20_awake.j2 false
                else
                  (merkle_Number (⟨0, false⟩ : api_Cell)).bind fun v11 =>
                  splicelaw20_awake.j2 (v11 == 0)
              else
                splicelaw20_awake.j2 false
            else
              if ((v9.getD 0 api_Span.z).Hi) = 6 then
                splicelaw20_awake.j2 false
              else
                splicelaw20_awake.j2 false
          else none
        else
          splicelaw20_awake.j2 false
      else
        splicelaw20_awake.j2 false
    else
      splicelaw20_awake.j2 false) fun (v2 : merkle_Tree) =>
  (merkle_New ([(⟨5, 8⟩ : api_Pair)] : List api_Pair)).bind fun v12 =>
  optE v12.1 (
    (merkle_Diff_n1 v2).bind fun v14 =>
    if v1.2 = 0 then
      if v12.2 = 0 then
        if (v14.length : Int) = 1 then
          if (0 : Int) ≤ 0 ∧ 0 < (v14.length : Int) then
            if ((v14.getD 0 api_Span.z).Lo) = 5 then
              if ((v14.getD 0 api_Span.z).Hi) = 6 then
                (merkle_Tree_Root_n0).bind fun v15 =>
                if (merkle_Tree_Root v2) = v15 then
                  splicelaw20_awake.j3 false
                else
                  (merkle_Number (⟨0, false⟩ : api_Cell)).bind fun v16 =>
                  splicelaw20_awake.j3 (v16 == 0)
              else
                splicelaw20_awake.j3 false
            else
              if ((v14.getD 0 api_Span.z).Hi) = 6 then
                splicelaw20_awake.j3 false
              else
                splicelaw20_awake.j3 false
          else none
        else
          splicelaw20_awake.j3 false
      else
        splicelaw20_awake.j3 false
    else
      splicelaw20_awake.j3 false) fun (v13 : merkle_Tree) =>
  (merkle_Diff v2 v13).bind fun v17 =>
  if v1.2 = 0 then
    if v12.2 = 0 then
      if (v17.length : Int) = 1 then
        if (0 : Int) ≤ 0 ∧ 0 < (v17.length : Int) then
          if ((v17.getD 0 api_Span.z).Lo) = 5 then
            if ((v17.getD 0 api_Span.z).Hi) = 6 then
              if (merkle_Tree_Root v2) = (merkle_Tree_Root v13) then
                splicelaw20_awake.j4 false
              else
                (merkle_Number (⟨0, false⟩ : api_Cell)).bind fun v18 =>
                splicelaw20_awake.j4 (v18 == 0)
            else
              splicelaw20_awake.j4 false
          else
            if ((v17.getD 0 api_Span.z).Hi) = 6 then
              splicelaw20_awake.j4 false
            else
              splicelaw20_awake.j4 false
        else none
      else
        splicelaw20_awake.j4 false
    else
      splicelaw20_awake.j4 false
  else
    splicelaw20_awake.j4 false

inductive splicelaw05_Refs.S where
  | l1 (x1_4 : Int) (x1_r0 : List spliceref04_Pair)

noncomputable def splicelaw05_Refs.l1 (a0 : List api_Pair) (x1_4 : Int) (x1_r0 : List spliceref04_Pair) : Option (splicelaw05_Refs.S ⊕ (List spliceref04_Pair)) :=
  if x1_4 < (a0.length : Int) then
    if 0 ≤ x1_4 ∧ x1_4 < (a0.length : Int) then
      if (x1_r0.length + 1) * 16 ≤ 140737488355328 then
        some (.inl (.l1 (IntKind.wrap .i64 (x1_4 + 1)) (x1_r0 ++ [(⟨(a0.getD x1_4.toNat api_Pair.z).Key, (a0.getD x1_4.toNat api_Pair.z).Val⟩ : spliceref04_Pair)])))
      else none
    else none
  else
    some (.inr x1_r0)

noncomputable def splicelaw05_Refs.step (a0 : List api_Pair) : splicelaw05_Refs.S → Option (splicelaw05_Refs.S ⊕ (List spliceref04_Pair))
  | .l1 x1_4 x1_r0 => splicelaw05_Refs.l1 a0 x1_4 x1_r0

noncomputable def splicelaw05_Refs (a0 : List api_Pair) : Option (List spliceref04_Pair) :=
  goLoop (splicelaw05_Refs.step a0) (.l1 0 ([] : List spliceref04_Pair))

inductive spliceref02_Sum.S where
  | l1 (x1_3 : Int) (x1_4 : Int)
  | l2 (x2_3 : Int) (x2_4 : Int) (x2_5 : Int)

noncomputable def spliceref02_Sum.j1 (x2_4 : Int) (x2_5 : Int) (y1_3 : Int) : Option (spliceref02_Sum.S ⊕ Int) :=
  some (.inl (.l2 y1_3 x2_4 (IntKind.wrap .i64 (x2_5 + 1))))

noncomputable def spliceref02_Sum.l1 (a0 : ByteArray) (x1_3 : Int) (x1_4 : Int) : Option (spliceref02_Sum.S ⊕ Int) :=
  if x1_4 < (a0.size : Int) then
    some (.inl (.l2 x1_3 x1_4 0))
  else
    some (.inr (IntKind.wrap .u32 (4294967295 - x1_3)))

noncomputable def spliceref02_Sum.l2 (a0 : ByteArray) (x2_3 : Int) (x2_4 : Int) (x2_5 : Int) : Option (spliceref02_Sum.S ⊕ Int) :=
  if x2_5 < 8 then
    if 0 ≤ x2_4 ∧ x2_4 < (a0.size : Int) then
      if 0 ≤ (IntKind.wrap .u64 x2_5) then
        bnd (Int.tmod (IntKind.wrap .u32 (Int.fdiv (byteAt a0 x2_4) (2 ^ (min (IntKind.wrap .u64 x2_5).toNat 8)))) 2) fun (v1 : Int) =>
        if (Int.tmod x2_3 2) = v1 then
          spliceref02_Sum.j1 x2_4 x2_5 (IntKind.wrap .u32 (Int.tdiv x2_3 2))
        else
          spliceref02_Sum.j1 x2_4 x2_5 (bXor .u32 (IntKind.wrap .u32 (Int.tdiv x2_3 2)) 3988292384)
      else none
    else none
  else
    some (.inl (.l1 x2_3 (IntKind.wrap .i64 (x2_4 + 1))))

noncomputable def spliceref02_Sum.step (a0 : ByteArray) : spliceref02_Sum.S → Option (spliceref02_Sum.S ⊕ Int)
  | .l1 x1_3 x1_4 => spliceref02_Sum.l1 a0 x1_3 x1_4
  | .l2 x2_3 x2_4 x2_5 => spliceref02_Sum.l2 a0 x2_3 x2_4 x2_5

noncomputable def spliceref02_Sum (a0 : ByteArray) : Option Int :=
  goLoop (spliceref02_Sum.step a0) (.l1 4294967295 0)

inductive spliceref20_Number.S where
  | l1 (x1_5 : Int) (x1_r0 : List Int)

noncomputable def spliceref20_Number.l1 (a0 : spliceref05_Cell) (x1_5 : Int) (x1_r0 : List Int) : Option (spliceref20_Number.S ⊕ Int) :=
  if x1_5 ≥ 0 then
    if 0 ≤ (IntKind.wrap .u64 (IntKind.wrap .i64 (8 * x1_5))) then
      if (x1_r0.length + 1) * 1 ≤ 140737488355328 then
        some (.inl (.l1 (IntKind.wrap .i64 (x1_5 - 1)) (x1_r0 ++ [IntKind.wrap .u8 (Int.fdiv (IntKind.wrap .u64 a0.Val) (2 ^ (min (IntKind.wrap .u64 (IntKind.wrap .i64 (8 * x1_5))).toNat 64)))])))
      else none
    else none
  else
    (spliceref02_Sum (strB x1_r0)).bind fun v1 =>
    some (.inr v1)

noncomputable def spliceref20_Number.step (a0 : spliceref05_Cell) : spliceref20_Number.S → Option (spliceref20_Number.S ⊕ Int)
  | .l1 x1_5 x1_r0 => spliceref20_Number.l1 a0 x1_5 x1_r0

noncomputable def spliceref20_Number (a0 : spliceref05_Cell) : Option Int :=
  if a0.Some = true then
    goLoop (spliceref20_Number.step a0) (.l1 7 ([1] : List Int))
  else
    some 0

inductive spliceref20_Leaves.S where
  | l1 (x1_4 : Int) (x1_r0 : List Int)
  | l2 (x2_5 : Int) (x2_r0 : List Int)

noncomputable def spliceref20_Leaves.l1 (x1_4 : Int) (x1_r0 : List Int) : Option (spliceref20_Leaves.S ⊕ (List Int)) :=
  if x1_4 < 4096 then
    if (x1_r0.length + 1) * 4 ≤ 140737488355328 then
      some (.inl (.l1 (IntKind.wrap .i64 (x1_4 + 1)) (x1_r0 ++ [0])))
    else none
  else
    some (.inl (.l2 0 x1_r0))

noncomputable def spliceref20_Leaves.l2 (a0 : List spliceref04_Pair) (x2_5 : Int) (x2_r0 : List Int) : Option (spliceref20_Leaves.S ⊕ (List Int)) :=
  if x2_5 < (a0.length : Int) then
    if 0 ≤ x2_5 ∧ x2_5 < (a0.length : Int) then
      (spliceref20_Number (⟨(a0.getD x2_5.toNat spliceref04_Pair.z).Val, true⟩ : spliceref05_Cell)).bind fun v1 =>
      if 0 ≤ ((a0.getD x2_5.toNat spliceref04_Pair.z).Key) ∧ ((a0.getD x2_5.toNat spliceref04_Pair.z).Key) < (x2_r0.length : Int) then
        some (.inl (.l2 (IntKind.wrap .i64 (x2_5 + 1)) (x2_r0.set (((a0.getD x2_5.toNat spliceref04_Pair.z).Key).toNat) v1)))
      else none
    else none
  else
    some (.inr x2_r0)

noncomputable def spliceref20_Leaves.step (a0 : List spliceref04_Pair) : spliceref20_Leaves.S → Option (spliceref20_Leaves.S ⊕ (List Int))
  | .l1 x1_4 x1_r0 => spliceref20_Leaves.l1 x1_4 x1_r0
  | .l2 x2_5 x2_r0 => spliceref20_Leaves.l2 a0 x2_5 x2_r0

noncomputable def spliceref20_Leaves (a0 : List spliceref04_Pair) : Option (List Int) :=
  goLoop (spliceref20_Leaves.step a0) (.l1 0 ([] : List Int))

inductive spliceref20_Over.S where
  | l1 (x1_4 : Int) (x1_r0 : List Int)

noncomputable def spliceref20_Over.l1 (a0 : List Int) (x1_4 : Int) (x1_r0 : List Int) : Option (spliceref20_Over.S ⊕ Int) :=
  if x1_4 < (a0.length : Int) then
    if 0 ≤ x1_4 ∧ x1_4 < (a0.length : Int) then
      if (x1_r0.length + 1) * 1 ≤ 140737488355328 then
        if ((x1_r0 ++ [IntKind.wrap .u8 (IntKind.wrap .u32 (Int.tdiv (a0.getD x1_4.toNat 0) 16777216))]).length + 1) * 1 ≤ 140737488355328 then
          if (((x1_r0 ++ [IntKind.wrap .u8 (IntKind.wrap .u32 (Int.tdiv (a0.getD x1_4.toNat 0) 16777216))]) ++ [IntKind.wrap .u8 (IntKind.wrap .u32 (Int.tdiv (a0.getD x1_4.toNat 0) 65536))]).length + 1) * 1 ≤ 140737488355328 then
            if ((((x1_r0 ++ [IntKind.wrap .u8 (IntKind.wrap .u32 (Int.tdiv (a0.getD x1_4.toNat 0) 16777216))]) ++ [IntKind.wrap .u8 (IntKind.wrap .u32 (Int.tdiv (a0.getD x1_4.toNat 0) 65536))]) ++ [IntKind.wrap .u8 (IntKind.wrap .u32 (Int.tdiv (a0.getD x1_4.toNat 0) 256))]).length + 1) * 1 ≤ 140737488355328 then
              some (.inl (.l1 (IntKind.wrap .i64 (x1_4 + 1)) ((((x1_r0 ++ [IntKind.wrap .u8 (IntKind.wrap .u32 (Int.tdiv (a0.getD x1_4.toNat 0) 16777216))]) ++ [IntKind.wrap .u8 (IntKind.wrap .u32 (Int.tdiv (a0.getD x1_4.toNat 0) 65536))]) ++ [IntKind.wrap .u8 (IntKind.wrap .u32 (Int.tdiv (a0.getD x1_4.toNat 0) 256))]) ++ [IntKind.wrap .u8 (a0.getD x1_4.toNat 0)])))
            else none
          else none
        else none
      else none
    else none
  else
    (spliceref02_Sum (strB x1_r0)).bind fun v1 =>
    some (.inr v1)

noncomputable def spliceref20_Over.step (a0 : List Int) : spliceref20_Over.S → Option (spliceref20_Over.S ⊕ Int)
  | .l1 x1_4 x1_r0 => spliceref20_Over.l1 a0 x1_4 x1_r0

noncomputable def spliceref20_Over (a0 : List Int) : Option Int :=
  goLoop (spliceref20_Over.step a0) (.l1 0 ([] : List Int))

inductive spliceref20_Above.S where
  | l1 (x1_4 : Int) (x1_r0 : List Int)
  | l2 (v1 : Int) (x2_7 : Int) (x2_r0 : List Int)
  | l3 (v1 : Int) (x3_7 : Int) (x3_8 : Bool) (x3_9 : Int) (x3_r0 : List Int)

noncomputable def spliceref20_Above.j2 (x3_7 : Int) (x3_9 : Int) (x3_r0 : List Int) (v1 : Int) (y2_8 : Bool) : Option (spliceref20_Above.S ⊕ (List Int)) :=
  some (.inl (.l3 v1 x3_7 y2_8 (IntKind.wrap .i64 (x3_9 + 1)) x3_r0))

noncomputable def spliceref20_Above.j1 (x3_7 : Int) (v1 : Int) (y1_r0 : List Int) : Option (spliceref20_Above.S ⊕ (List Int)) :=
  some (.inl (.l2 v1 (IntKind.wrap .i64 (x3_7 + 16)) y1_r0))

noncomputable def spliceref20_Above.l1 (x1_4 : Int) (x1_r0 : List Int) : Option (spliceref20_Above.S ⊕ (List Int)) :=
  if x1_4 < 16 then
    if (x1_r0.length + 1) * 4 ≤ 140737488355328 then
      some (.inl (.l1 (IntKind.wrap .i64 (x1_4 + 1)) (x1_r0 ++ [0])))
    else none
  else
    (spliceref20_Over x1_r0).bind fun v1 =>
    some (.inl (.l2 v1 0 ([] : List Int)))

noncomputable def spliceref20_Above.l2 (a0 : List Int) (v1 : Int) (x2_7 : Int) (x2_r0 : List Int) : Option (spliceref20_Above.S ⊕ (List Int)) :=
  if (IntKind.wrap .i64 (x2_7 + 16)) ≤ (a0.length : Int) then
    some (.inl (.l3 v1 x2_7 true x2_7 x2_r0))
  else
    some (.inr x2_r0)

noncomputable def spliceref20_Above.l3 (a0 : List Int) (v1 : Int) (x3_7 : Int) (x3_8 : Bool) (x3_9 : Int) (x3_r0 : List Int) : Option (spliceref20_Above.S ⊕ (List Int)) :=
  if x3_9 < (IntKind.wrap .i64 (x3_7 + 16)) then
    if x3_8 = true then
      if 0 ≤ x3_9 ∧ x3_9 < (a0.length : Int) then
        spliceref20_Above.j2 x3_7 x3_9 x3_r0 v1 ((a0.getD x3_9.toNat 0) == 0)
      else none
    else
      spliceref20_Above.j2 x3_7 x3_9 x3_r0 v1 false
  else
    if x3_8 = true then
      if (x3_r0.length + 1) * 4 ≤ 140737488355328 then
        spliceref20_Above.j1 x3_7 v1 (x3_r0 ++ [v1])
      else none
    else
      if 0 ≤ x3_7 ∧ x3_7 ≤ (IntKind.wrap .i64 (x3_7 + 16)) ∧ (IntKind.wrap .i64 (x3_7 + 16)) ≤ (a0.length : Int) then
        (spliceref20_Over ((a0.drop x3_7.toNat).take ((IntKind.wrap .i64 (x3_7 + 16)).toNat - x3_7.toNat))).bind fun v2 =>
        if (x3_r0.length + 1) * 4 ≤ 140737488355328 then
          spliceref20_Above.j1 x3_7 v1 (x3_r0 ++ [v2])
        else none
      else none

noncomputable def spliceref20_Above.step (a0 : List Int) : spliceref20_Above.S → Option (spliceref20_Above.S ⊕ (List Int))
  | .l1 x1_4 x1_r0 => spliceref20_Above.l1 x1_4 x1_r0
  | .l2 v1 x2_7 x2_r0 => spliceref20_Above.l2 a0 v1 x2_7 x2_r0
  | .l3 v1 x3_7 x3_8 x3_9 x3_r0 => spliceref20_Above.l3 a0 v1 x3_7 x3_8 x3_9 x3_r0

noncomputable def spliceref20_Above (a0 : List Int) : Option (List Int) :=
  goLoop (spliceref20_Above.step a0) (.l1 0 ([] : List Int))

noncomputable def spliceref20_Levels (a0 : List spliceref04_Pair) : Option (List (List Int)) :=
  (spliceref20_Leaves a0).bind fun v1 =>
  (spliceref20_Above v1).bind fun v2 =>
  (spliceref20_Above v2).bind fun v3 =>
  (spliceref20_Above v3).bind fun v4 =>
  some ([v1, v2, v3, v4] : List (List Int))

noncomputable def splicelaw20_levels (a0 : List api_Pair) : Option (List (List Int)) :=
  (splicelaw05_Refs a0).bind fun v1 =>
  (spliceref20_Levels v1).bind fun v2 =>
  some v2

inductive splicelaw03_Refs.S where
  | l1 (x1_4 : Int) (x1_r0 : List spliceref03_Span)

noncomputable def splicelaw03_Refs.l1 (a0 : List api_Span) (x1_4 : Int) (x1_r0 : List spliceref03_Span) : Option (splicelaw03_Refs.S ⊕ (List spliceref03_Span)) :=
  if x1_4 < (a0.length : Int) then
    if 0 ≤ x1_4 ∧ x1_4 < (a0.length : Int) then
      if (x1_r0.length + 1) * 16 ≤ 140737488355328 then
        some (.inl (.l1 (IntKind.wrap .i64 (x1_4 + 1)) (x1_r0 ++ [(⟨(a0.getD x1_4.toNat api_Span.z).Lo, (a0.getD x1_4.toNat api_Span.z).Hi⟩ : spliceref03_Span)])))
      else none
    else none
  else
    some (.inr x1_r0)

noncomputable def splicelaw03_Refs.step (a0 : List api_Span) : splicelaw03_Refs.S → Option (splicelaw03_Refs.S ⊕ (List spliceref03_Span))
  | .l1 x1_4 x1_r0 => splicelaw03_Refs.l1 a0 x1_4 x1_r0

noncomputable def splicelaw03_Refs (a0 : List api_Span) : Option (List spliceref03_Span) :=
  goLoop (splicelaw03_Refs.step a0) (.l1 0 ([] : List spliceref03_Span))

inductive spliceref20_Diff.S where
  | l1 (x1_6 : Int) (x1_r0 : List spliceref03_Span)
  | l2 (x2_r0 : List spliceref03_Span)

noncomputable def spliceref20_Diff.j3 (x1_6 : Int) (y3_r0 : List spliceref03_Span) : Option (spliceref20_Diff.S ⊕ (List spliceref03_Span)) :=
  some (.inl (.l1 (IntKind.wrap .i64 (x1_6 + 1)) y3_r0))

noncomputable def spliceref20_Diff.j2 (x1_6 : Int) (x1_r0 : List spliceref03_Span) (y2_86 : Bool) : Option (spliceref20_Diff.S ⊕ (List spliceref03_Span)) :=
  if y2_86 = true then
    if 0 ≤ (IntKind.wrap .i64 ((x1_r0.length : Int) - 1)) ∧ (IntKind.wrap .i64 ((x1_r0.length : Int) - 1)) < (x1_r0.length : Int) then
      spliceref20_Diff.j3 x1_6 (x1_r0.set ((IntKind.wrap .i64 ((x1_r0.length : Int) - 1)).toNat) (⟨(x1_r0.getD ((IntKind.wrap .i64 ((x1_r0.length : Int) - 1)).toNat) spliceref03_Span.z).Lo, IntKind.wrap .i64 (x1_6 + 1)⟩ : spliceref03_Span))
    else none
  else
    if (x1_r0.length + 1) * 16 ≤ 140737488355328 then
      spliceref20_Diff.j3 x1_6 (x1_r0 ++ [(⟨x1_6, IntKind.wrap .i64 (x1_6 + 1)⟩ : spliceref03_Span)])
    else none

noncomputable def spliceref20_Diff.j1 (x1_6 : Int) (x1_r0 : List spliceref03_Span) (y1_72 : Bool) : Option (spliceref20_Diff.S ⊕ (List spliceref03_Span)) :=
  if y1_72 = true then
    some (.inl (.l1 (IntKind.wrap .i64 (x1_6 + 1)) x1_r0))
  else
    if (x1_r0.length : Int) > 0 then
      if 0 ≤ (IntKind.wrap .i64 ((x1_r0.length : Int) - 1)) ∧ (IntKind.wrap .i64 ((x1_r0.length : Int) - 1)) < (x1_r0.length : Int) then
        spliceref20_Diff.j2 x1_6 x1_r0 (((x1_r0.getD ((IntKind.wrap .i64 ((x1_r0.length : Int) - 1)).toNat) spliceref03_Span.z).Hi) == x1_6)
      else none
    else
      spliceref20_Diff.j2 x1_6 x1_r0 false

noncomputable def spliceref20_Diff.l1 (a0 : List (List Int)) (a1 : List (List Int)) (x1_6 : Int) (x1_r0 : List spliceref03_Span) : Option (spliceref20_Diff.S ⊕ (List spliceref03_Span)) :=
  if x1_6 < 4096 then
    if (0 : Int) ≤ 3 ∧ 3 < (a0.length : Int) then
      if (0 : Int) ≤ 0 ∧ 0 < ((a0.getD 3 []).length : Int) then
        if (0 : Int) ≤ 3 ∧ 3 < (a1.length : Int) then
          if (0 : Int) ≤ 0 ∧ 0 < ((a1.getD 3 []).length : Int) then
            if ((a0.getD 3 []).getD 0 0) = ((a1.getD 3 []).getD 0 0) then
              spliceref20_Diff.j1 x1_6 x1_r0 true
            else
              if (0 : Int) ≤ 2 ∧ 2 < (a0.length : Int) then
                if 0 ≤ (IntKind.wrap .i64 (Int.tdiv x1_6 256)) ∧ (IntKind.wrap .i64 (Int.tdiv x1_6 256)) < ((a0.getD 2 []).length : Int) then
                  if (0 : Int) ≤ 2 ∧ 2 < (a1.length : Int) then
                    if 0 ≤ (IntKind.wrap .i64 (Int.tdiv x1_6 256)) ∧ (IntKind.wrap .i64 (Int.tdiv x1_6 256)) < ((a1.getD 2 []).length : Int) then
                      if ((a0.getD 2 []).getD ((IntKind.wrap .i64 (Int.tdiv x1_6 256)).toNat) 0) = ((a1.getD 2 []).getD ((IntKind.wrap .i64 (Int.tdiv x1_6 256)).toNat) 0) then
                        spliceref20_Diff.j1 x1_6 x1_r0 true
                      else
                        if (0 : Int) ≤ 1 ∧ 1 < (a0.length : Int) then
                          if 0 ≤ (IntKind.wrap .i64 (Int.tdiv x1_6 16)) ∧ (IntKind.wrap .i64 (Int.tdiv x1_6 16)) < ((a0.getD 1 []).length : Int) then
                            if (0 : Int) ≤ 1 ∧ 1 < (a1.length : Int) then
                              if 0 ≤ (IntKind.wrap .i64 (Int.tdiv x1_6 16)) ∧ (IntKind.wrap .i64 (Int.tdiv x1_6 16)) < ((a1.getD 1 []).length : Int) then
                                if ((a0.getD 1 []).getD ((IntKind.wrap .i64 (Int.tdiv x1_6 16)).toNat) 0) = ((a1.getD 1 []).getD ((IntKind.wrap .i64 (Int.tdiv x1_6 16)).toNat) 0) then
                                  spliceref20_Diff.j1 x1_6 x1_r0 true
                                else
                                  if (0 : Int) ≤ 0 ∧ 0 < (a0.length : Int) then
                                    if 0 ≤ x1_6 ∧ x1_6 < ((a0.getD 0 []).length : Int) then
                                      if (0 : Int) ≤ 0 ∧ 0 < (a1.length : Int) then
                                        if 0 ≤ x1_6 ∧ x1_6 < ((a1.getD 0 []).length : Int) then
                                          spliceref20_Diff.j1 x1_6 x1_r0 (((a0.getD 0 []).getD x1_6.toNat 0) == ((a1.getD 0 []).getD x1_6.toNat 0))
                                        else none
                                      else none
                                    else none
                                  else none
                              else none
                            else none
                          else none
                        else none
                    else none
                  else none
                else none
              else none
          else none
        else none
      else none
    else none
  else
    some (.inl (.l2 x1_r0))

noncomputable def spliceref20_Diff.l2 (x2_r0 : List spliceref03_Span) : Option (spliceref20_Diff.S ⊕ (List spliceref03_Span)) :=
  if (x2_r0.length : Int) > 64 then
    if 0 ≤ (IntKind.wrap .i64 ((x2_r0.length : Int) - 1)) ∧ (IntKind.wrap .i64 ((x2_r0.length : Int) - 1)) < (x2_r0.length : Int) then
      if 0 ≤ (IntKind.wrap .i64 ((x2_r0.length : Int) - 2)) ∧ (IntKind.wrap .i64 ((x2_r0.length : Int) - 2)) < (x2_r0.length : Int) then
        if 0 ≤ (IntKind.wrap .i64 ((x2_r0.length : Int) - 1)) ∧ (IntKind.wrap .i64 ((x2_r0.length : Int) - 1)) ≤ ((x2_r0.set ((IntKind.wrap .i64 ((x2_r0.length : Int) - 2)).toNat) (⟨(x2_r0.getD ((IntKind.wrap .i64 ((x2_r0.length : Int) - 2)).toNat) spliceref03_Span.z).Lo, (x2_r0.getD ((IntKind.wrap .i64 ((x2_r0.length : Int) - 1)).toNat) spliceref03_Span.z).Hi⟩ : spliceref03_Span)).length : Int) then
          some (.inl (.l2 ((x2_r0.set ((IntKind.wrap .i64 ((x2_r0.length : Int) - 2)).toNat) (⟨(x2_r0.getD ((IntKind.wrap .i64 ((x2_r0.length : Int) - 2)).toNat) spliceref03_Span.z).Lo, (x2_r0.getD ((IntKind.wrap .i64 ((x2_r0.length : Int) - 1)).toNat) spliceref03_Span.z).Hi⟩ : spliceref03_Span)).take (IntKind.wrap .i64 ((x2_r0.length : Int) - 1)).toNat)))
        else none
      else none
    else none
  else
    some (.inr x2_r0)

noncomputable def spliceref20_Diff.step (a0 : List (List Int)) (a1 : List (List Int)) : spliceref20_Diff.S → Option (spliceref20_Diff.S ⊕ (List spliceref03_Span))
  | .l1 x1_6 x1_r0 => spliceref20_Diff.l1 a0 a1 x1_6 x1_r0
  | .l2 x2_r0 => spliceref20_Diff.l2 x2_r0

noncomputable def spliceref20_Diff (a0 : List (List Int)) (a1 : List (List Int)) : Option (List spliceref03_Span) :=
  goLoop (spliceref20_Diff.step a0 a1) (.l1 0 ([] : List spliceref03_Span))

inductive spliceref03_Same.S where
  | l1 (x1_5 : Int)

noncomputable def spliceref03_Same.l1 (a0 : List spliceref03_Span) (a1 : List spliceref03_Span) (x1_5 : Int) : Option (spliceref03_Same.S ⊕ Bool) :=
  if x1_5 < (a0.length : Int) then
    if 0 ≤ x1_5 ∧ x1_5 < (a0.length : Int) then
      if 0 ≤ x1_5 ∧ x1_5 < (a1.length : Int) then
        if ((a0.getD x1_5.toNat spliceref03_Span.z).Lo) = ((a1.getD x1_5.toNat spliceref03_Span.z).Lo) then
          if ((a0.getD x1_5.toNat spliceref03_Span.z).Hi) = ((a1.getD x1_5.toNat spliceref03_Span.z).Hi) then
            some (.inl (.l1 (IntKind.wrap .i64 (x1_5 + 1))))
          else
            some (.inr false)
        else
          if ((a0.getD x1_5.toNat spliceref03_Span.z).Hi) = ((a1.getD x1_5.toNat spliceref03_Span.z).Hi) then
            some (.inr false)
          else
            some (.inr false)
      else none
    else none
  else
    some (.inr true)

noncomputable def spliceref03_Same.step (a0 : List spliceref03_Span) (a1 : List spliceref03_Span) : spliceref03_Same.S → Option (spliceref03_Same.S ⊕ Bool)
  | .l1 x1_5 => spliceref03_Same.l1 a0 a1 x1_5

noncomputable def spliceref03_Same (a0 : List spliceref03_Span) (a1 : List spliceref03_Span) : Option Bool :=
  if (a0.length : Int) = (a1.length : Int) then
    goLoop (spliceref03_Same.step a0 a1) (.l1 0)
  else
    some false

noncomputable def splicelaw20_MerkleDiffs.j6 (y6_4 : Bool) : Option Bool :=
  some y6_4

noncomputable def splicelaw20_MerkleDiffs.j5 (v2 : merkle_Tree) (v8 : merkle_Tree) (v11 : List (List Int)) (v12 : List (List Int)) (v13 : List api_Span) (y5_70 : Bool) : Option Bool :=
  if y5_70 = true then
    some false
  else
    (splicelaw20_awake).bind fun v21 =>
    if v21 = true then
      if (v13.length : Int) > 0 then
        splicelaw20_MerkleDiffs.j6 true
      else
        if (merkle_Tree_Root v2) = (merkle_Tree_Root v8) then
          splicelaw20_MerkleDiffs.j6 true
        else
          (spliceref20_Diff v11 v12).bind fun v22 =>
          splicelaw20_MerkleDiffs.j6 ((v22.length : Int) == 0)
    else
      splicelaw20_MerkleDiffs.j6 false

noncomputable def splicelaw20_MerkleDiffs.j4 (a0 : List api_Pair) (a1 : List api_Pair) (v2 : merkle_Tree) (v8 : merkle_Tree) (y4_45 : Bool) : Option Bool :=
  if y4_45 = true then
    (splicelaw20_awake).bind fun v10 =>
    some v10
  else
    (splicelaw20_levels a0).bind fun v11 =>
    (splicelaw20_levels a1).bind fun v12 =>
    (merkle_Diff v2 v8).bind fun v13 =>
    (splicelaw03_Refs v13).bind fun v14 =>
    (spliceref20_Diff v11 v12).bind fun v15 =>
    (spliceref03_Same v14 v15).bind fun v16 =>
    if v16 = true then
      (splicelaw03_Refs v13).bind fun v17 =>
      (merkle_Diff v8 v2).bind fun v18 =>
      (splicelaw03_Refs v18).bind fun v19 =>
      (spliceref03_Same v17 v19).bind fun v20 =>
      splicelaw20_MerkleDiffs.j5 v2 v8 v11 v12 v13 (!v20)
    else
      splicelaw20_MerkleDiffs.j5 v2 v8 v11 v12 v13 true

noncomputable def splicelaw20_MerkleDiffs.j3 : Option Bool :=
  (splicelaw20_awake).bind fun v9 =>
  some v9

noncomputable def splicelaw20_MerkleDiffs.j2 : Option Bool :=
  (splicelaw20_awake).bind fun v6 =>
  some v6

noncomputable def splicelaw20_MerkleDiffs.j1 : Option Bool :=
  (splicelaw20_awake).bind fun v5 =>
  some v5

noncomputable def splicelaw20_MerkleDiffs (a0 : List api_Pair) (a1 : List api_Pair) : Option Bool :=
  (merkle_New a0).bind fun v1 =>
  optE v1.1 (
    (merkle_New a1).bind fun v3 =>
    optE v3.1 (
      if (splicelaw20_few a0) = true then
        if (splicelaw20_few a1) = true then
          if v1.2 = 0 then
            if v3.2 = 0 then
              splicelaw20_MerkleDiffs.j1
            else
              splicelaw20_MerkleDiffs.j1
          else
            splicelaw20_MerkleDiffs.j1
        else
          splicelaw20_MerkleDiffs.j1
      else
        splicelaw20_MerkleDiffs.j1) fun (v4 : merkle_Tree) =>
    if (splicelaw20_few a0) = true then
      if (splicelaw20_few a1) = true then
        if v1.2 = 0 then
          if v3.2 = 0 then
            splicelaw20_MerkleDiffs.j2
          else
            splicelaw20_MerkleDiffs.j2
        else
          splicelaw20_MerkleDiffs.j2
      else
        splicelaw20_MerkleDiffs.j2
    else
      splicelaw20_MerkleDiffs.j2) fun (v2 : merkle_Tree) =>
  (merkle_New a1).bind fun v7 =>
  optE v7.1 (
    if (splicelaw20_few a0) = true then
      if (splicelaw20_few a1) = true then
        if v1.2 = 0 then
          if v7.2 = 0 then
            splicelaw20_MerkleDiffs.j3
          else
            splicelaw20_MerkleDiffs.j3
        else
          splicelaw20_MerkleDiffs.j3
      else
        splicelaw20_MerkleDiffs.j3
    else
      splicelaw20_MerkleDiffs.j3) fun (v8 : merkle_Tree) =>
  if (splicelaw20_few a0) = true then
    if (splicelaw20_few a1) = true then
      if v1.2 = 0 then
        if v7.2 = 0 then
          splicelaw20_MerkleDiffs.j4 a0 a1 v2 v8 false
        else
          splicelaw20_MerkleDiffs.j4 a0 a1 v2 v8 true
      else
        splicelaw20_MerkleDiffs.j4 a0 a1 v2 v8 true
    else
      splicelaw20_MerkleDiffs.j4 a0 a1 v2 v8 true
  else
    splicelaw20_MerkleDiffs.j4 a0 a1 v2 v8 true

noncomputable def splicelaw20_MerkleFinds.j7 (y7_6 : Bool) : Option Bool :=
  some y7_6

noncomputable def splicelaw20_MerkleFinds.j8 (y8_6 : Bool) : Option Bool :=
  some y8_6

noncomputable def splicelaw20_MerkleFinds.j6 (y6_6 : Bool) : Option Bool :=
  some y6_6

noncomputable def splicelaw20_MerkleFinds.j4 (y4_6 : Bool) : Option Bool :=
  some y4_6

noncomputable def splicelaw20_MerkleFinds.j5 (y5_6 : Bool) : Option Bool :=
  some y5_6

noncomputable def splicelaw20_MerkleFinds.j3 (y3_6 : Bool) : Option Bool :=
  some y3_6

noncomputable def splicelaw20_MerkleFinds.j2 (a0 : List api_Pair) (a1 : Int) (a2 : Int) (v2 : merkle_Tree) (y2_34 : Bool) : Option Bool :=
  if y2_34 = true then
    (splicelaw20_awake).bind fun v4 =>
    some v4
  else
    if ¬ (a0.length : Int) = 0 then
      bnd (Int.tmod (IntKind.wrap .i64 ((Int.tmod a1 (a0.length : Int)) + (a0.length : Int))) (a0.length : Int)) fun (v5 : Int) =>
      if (([] : List api_Pair).length + a0.length) * 16 ≤ 140737488355328 then
        if 0 ≤ v5 ∧ v5 < ((([] : List api_Pair) ++ a0).length : Int) then
          (merkle_New ((([] : List api_Pair) ++ a0).set v5.toNat (⟨((([] : List api_Pair) ++ a0).getD v5.toNat api_Pair.z).Key, IntKind.wrap .i64 (bXor .u64 (IntKind.wrap .u64 (((([] : List api_Pair) ++ a0).getD v5.toNat api_Pair.z).Val)) (IntKind.wrap .u64 (Int.tmod a2 1024)))⟩ : api_Pair))).bind fun v6 =>
          optE v6.1 (
            if v6.2 = 0 then
              (merkle_Diff_n1 v2).bind fun v9 =>
              if (Int.tmod a2 1024) = 0 then
                (splicelaw20_awake).bind fun v10 =>
                if v10 = true then
                  if (v9.length : Int) = 0 then
                    (merkle_Tree_Root_n0).bind fun v11 =>
                    splicelaw20_MerkleFinds.j4 ((merkle_Tree_Root v2) == v11)
                  else
                    splicelaw20_MerkleFinds.j4 false
                else
                  splicelaw20_MerkleFinds.j4 false
              else
                (splicelaw20_awake).bind fun v12 =>
                if v12 = true then
                  if (v9.length : Int) = 1 then
                    if (0 : Int) ≤ 0 ∧ 0 < (v9.length : Int) then
                      if 0 ≤ v5 ∧ v5 < (((([] : List api_Pair) ++ a0).set v5.toNat (⟨((([] : List api_Pair) ++ a0).getD v5.toNat api_Pair.z).Key, IntKind.wrap .i64 (bXor .u64 (IntKind.wrap .u64 (((([] : List api_Pair) ++ a0).getD v5.toNat api_Pair.z).Val)) (IntKind.wrap .u64 (Int.tmod a2 1024)))⟩ : api_Pair)).length : Int) then
                        if ((v9.getD 0 api_Span.z).Lo) = ((((([] : List api_Pair) ++ a0).set v5.toNat (⟨((([] : List api_Pair) ++ a0).getD v5.toNat api_Pair.z).Key, IntKind.wrap .i64 (bXor .u64 (IntKind.wrap .u64 (((([] : List api_Pair) ++ a0).getD v5.toNat api_Pair.z).Val)) (IntKind.wrap .u64 (Int.tmod a2 1024)))⟩ : api_Pair)).getD v5.toNat api_Pair.z).Key) then
                          if ((v9.getD 0 api_Span.z).Hi) = (IntKind.wrap .i64 (((((([] : List api_Pair) ++ a0).set v5.toNat (⟨((([] : List api_Pair) ++ a0).getD v5.toNat api_Pair.z).Key, IntKind.wrap .i64 (bXor .u64 (IntKind.wrap .u64 (((([] : List api_Pair) ++ a0).getD v5.toNat api_Pair.z).Val)) (IntKind.wrap .u64 (Int.tmod a2 1024)))⟩ : api_Pair)).getD v5.toNat api_Pair.z).Key) + 1)) then
                            (merkle_Tree_Root_n0).bind fun v13 =>
                            splicelaw20_MerkleFinds.j5 ((merkle_Tree_Root v2) != v13)
                          else
                            splicelaw20_MerkleFinds.j5 false
                        else
                          if ((v9.getD 0 api_Span.z).Hi) = (IntKind.wrap .i64 (((((([] : List api_Pair) ++ a0).set v5.toNat (⟨((([] : List api_Pair) ++ a0).getD v5.toNat api_Pair.z).Key, IntKind.wrap .i64 (bXor .u64 (IntKind.wrap .u64 (((([] : List api_Pair) ++ a0).getD v5.toNat api_Pair.z).Val)) (IntKind.wrap .u64 (Int.tmod a2 1024)))⟩ : api_Pair)).getD v5.toNat api_Pair.z).Key) + 1)) then
                            splicelaw20_MerkleFinds.j5 false
                          else
                            splicelaw20_MerkleFinds.j5 false
                      else none
                    else none
                  else
                    splicelaw20_MerkleFinds.j5 false
                else
                  splicelaw20_MerkleFinds.j5 false
            else
              (splicelaw20_awake).bind fun v8 =>
              if v8 = true then
                if 0 ≤ v5 ∧ v5 < (((([] : List api_Pair) ++ a0).set v5.toNat (⟨((([] : List api_Pair) ++ a0).getD v5.toNat api_Pair.z).Key, IntKind.wrap .i64 (bXor .u64 (IntKind.wrap .u64 (((([] : List api_Pair) ++ a0).getD v5.toNat api_Pair.z).Val)) (IntKind.wrap .u64 (Int.tmod a2 1024)))⟩ : api_Pair)).length : Int) then
                  if ((((([] : List api_Pair) ++ a0).set v5.toNat (⟨((([] : List api_Pair) ++ a0).getD v5.toNat api_Pair.z).Key, IntKind.wrap .i64 (bXor .u64 (IntKind.wrap .u64 (((([] : List api_Pair) ++ a0).getD v5.toNat api_Pair.z).Val)) (IntKind.wrap .u64 (Int.tmod a2 1024)))⟩ : api_Pair)).getD v5.toNat api_Pair.z).Val) > 1099511627776 then
                    splicelaw20_MerkleFinds.j3 true
                  else
                    splicelaw20_MerkleFinds.j3 (decide (((((([] : List api_Pair) ++ a0).set v5.toNat (⟨((([] : List api_Pair) ++ a0).getD v5.toNat api_Pair.z).Key, IntKind.wrap .i64 (bXor .u64 (IntKind.wrap .u64 (((([] : List api_Pair) ++ a0).getD v5.toNat api_Pair.z).Val)) (IntKind.wrap .u64 (Int.tmod a2 1024)))⟩ : api_Pair)).getD v5.toNat api_Pair.z).Val) < (-1099511627776)))
                else none
              else
                splicelaw20_MerkleFinds.j3 false) fun (v7 : merkle_Tree) =>
          if v6.2 = 0 then
            (merkle_Diff v2 v7).bind fun v15 =>
            if (Int.tmod a2 1024) = 0 then
              (splicelaw20_awake).bind fun v16 =>
              if v16 = true then
                if (v15.length : Int) = 0 then
                  splicelaw20_MerkleFinds.j7 ((merkle_Tree_Root v2) == (merkle_Tree_Root v7))
                else
                  splicelaw20_MerkleFinds.j7 false
              else
                splicelaw20_MerkleFinds.j7 false
            else
              (splicelaw20_awake).bind fun v17 =>
              if v17 = true then
                if (v15.length : Int) = 1 then
                  if (0 : Int) ≤ 0 ∧ 0 < (v15.length : Int) then
                    if 0 ≤ v5 ∧ v5 < (((([] : List api_Pair) ++ a0).set v5.toNat (⟨((([] : List api_Pair) ++ a0).getD v5.toNat api_Pair.z).Key, IntKind.wrap .i64 (bXor .u64 (IntKind.wrap .u64 (((([] : List api_Pair) ++ a0).getD v5.toNat api_Pair.z).Val)) (IntKind.wrap .u64 (Int.tmod a2 1024)))⟩ : api_Pair)).length : Int) then
                      if ((v15.getD 0 api_Span.z).Lo) = ((((([] : List api_Pair) ++ a0).set v5.toNat (⟨((([] : List api_Pair) ++ a0).getD v5.toNat api_Pair.z).Key, IntKind.wrap .i64 (bXor .u64 (IntKind.wrap .u64 (((([] : List api_Pair) ++ a0).getD v5.toNat api_Pair.z).Val)) (IntKind.wrap .u64 (Int.tmod a2 1024)))⟩ : api_Pair)).getD v5.toNat api_Pair.z).Key) then
                        if ((v15.getD 0 api_Span.z).Hi) = (IntKind.wrap .i64 (((((([] : List api_Pair) ++ a0).set v5.toNat (⟨((([] : List api_Pair) ++ a0).getD v5.toNat api_Pair.z).Key, IntKind.wrap .i64 (bXor .u64 (IntKind.wrap .u64 (((([] : List api_Pair) ++ a0).getD v5.toNat api_Pair.z).Val)) (IntKind.wrap .u64 (Int.tmod a2 1024)))⟩ : api_Pair)).getD v5.toNat api_Pair.z).Key) + 1)) then
                          splicelaw20_MerkleFinds.j8 ((merkle_Tree_Root v2) != (merkle_Tree_Root v7))
                        else
                          splicelaw20_MerkleFinds.j8 false
                      else
                        if ((v15.getD 0 api_Span.z).Hi) = (IntKind.wrap .i64 (((((([] : List api_Pair) ++ a0).set v5.toNat (⟨((([] : List api_Pair) ++ a0).getD v5.toNat api_Pair.z).Key, IntKind.wrap .i64 (bXor .u64 (IntKind.wrap .u64 (((([] : List api_Pair) ++ a0).getD v5.toNat api_Pair.z).Val)) (IntKind.wrap .u64 (Int.tmod a2 1024)))⟩ : api_Pair)).getD v5.toNat api_Pair.z).Key) + 1)) then
                          splicelaw20_MerkleFinds.j8 false
                        else
                          splicelaw20_MerkleFinds.j8 false
                    else none
                  else none
                else
                  splicelaw20_MerkleFinds.j8 false
              else
                splicelaw20_MerkleFinds.j8 false
          else
            (splicelaw20_awake).bind fun v14 =>
            if v14 = true then
              if 0 ≤ v5 ∧ v5 < (((([] : List api_Pair) ++ a0).set v5.toNat (⟨((([] : List api_Pair) ++ a0).getD v5.toNat api_Pair.z).Key, IntKind.wrap .i64 (bXor .u64 (IntKind.wrap .u64 (((([] : List api_Pair) ++ a0).getD v5.toNat api_Pair.z).Val)) (IntKind.wrap .u64 (Int.tmod a2 1024)))⟩ : api_Pair)).length : Int) then
                if ((((([] : List api_Pair) ++ a0).set v5.toNat (⟨((([] : List api_Pair) ++ a0).getD v5.toNat api_Pair.z).Key, IntKind.wrap .i64 (bXor .u64 (IntKind.wrap .u64 (((([] : List api_Pair) ++ a0).getD v5.toNat api_Pair.z).Val)) (IntKind.wrap .u64 (Int.tmod a2 1024)))⟩ : api_Pair)).getD v5.toNat api_Pair.z).Val) > 1099511627776 then
                  splicelaw20_MerkleFinds.j6 true
                else
                  splicelaw20_MerkleFinds.j6 (decide (((((([] : List api_Pair) ++ a0).set v5.toNat (⟨((([] : List api_Pair) ++ a0).getD v5.toNat api_Pair.z).Key, IntKind.wrap .i64 (bXor .u64 (IntKind.wrap .u64 (((([] : List api_Pair) ++ a0).getD v5.toNat api_Pair.z).Val)) (IntKind.wrap .u64 (Int.tmod a2 1024)))⟩ : api_Pair)).getD v5.toNat api_Pair.z).Val) < (-1099511627776)))
              else none
            else
              splicelaw20_MerkleFinds.j6 false
        else none
      else none
    else none

noncomputable def splicelaw20_MerkleFinds.j1 : Option Bool :=
  (splicelaw20_awake).bind fun v3 =>
  some v3

noncomputable def splicelaw20_MerkleFinds (a0 : List api_Pair) (a1 : Int) (a2 : Int) : Option Bool :=
  (merkle_New a0).bind fun v1 =>
  optE v1.1 (
    if (splicelaw20_few a0) = true then
      if v1.2 = 0 then
        splicelaw20_MerkleFinds.j1
      else
        splicelaw20_MerkleFinds.j1
    else
      splicelaw20_MerkleFinds.j1) fun (v2 : merkle_Tree) =>
  if (splicelaw20_few a0) = true then
    if v1.2 = 0 then
      splicelaw20_MerkleFinds.j2 a0 a1 a2 v2 ((a0.length : Int) == 0)
    else
      splicelaw20_MerkleFinds.j2 a0 a1 a2 v2 true
  else
    splicelaw20_MerkleFinds.j2 a0 a1 a2 v2 true

inductive spliceref05_Check.S where
  | l1 (x1_3 : Int)

noncomputable def spliceref05_Check.j2 (x1_3 : Int) (y2_55 : Bool) : Option (spliceref05_Check.S ⊕ Bool) :=
  if y2_55 = true then
    some (.inr false)
  else
    some (.inl (.l1 (IntKind.wrap .i64 (x1_3 + 1))))

noncomputable def spliceref05_Check.j1 (a0 : List spliceref04_Pair) (x1_3 : Int) (y1_39 : Bool) : Option (spliceref05_Check.S ⊕ Bool) :=
  if y1_39 = true then
    some (.inr false)
  else
    if x1_3 > 0 then
      if 0 ≤ (IntKind.wrap .i64 (x1_3 - 1)) ∧ (IntKind.wrap .i64 (x1_3 - 1)) < (a0.length : Int) then
        spliceref05_Check.j2 x1_3 (decide (((a0.getD x1_3.toNat spliceref04_Pair.z).Key) ≤ ((a0.getD ((IntKind.wrap .i64 (x1_3 - 1)).toNat) spliceref04_Pair.z).Key)))
      else none
    else
      spliceref05_Check.j2 x1_3 false

noncomputable def spliceref05_Check.l1 (a0 : List spliceref04_Pair) (x1_3 : Int) : Option (spliceref05_Check.S ⊕ Bool) :=
  if x1_3 < (a0.length : Int) then
    if 0 ≤ x1_3 ∧ x1_3 < (a0.length : Int) then
      if ((a0.getD x1_3.toNat spliceref04_Pair.z).Key) < 0 then
        spliceref05_Check.j1 a0 x1_3 true
      else
        if ((a0.getD x1_3.toNat spliceref04_Pair.z).Key) > 4095 then
          spliceref05_Check.j1 a0 x1_3 true
        else
          if ((a0.getD x1_3.toNat spliceref04_Pair.z).Val) < (-1099511627776) then
            spliceref05_Check.j1 a0 x1_3 true
          else
            spliceref05_Check.j1 a0 x1_3 (decide (((a0.getD x1_3.toNat spliceref04_Pair.z).Val) > 1099511627776))
    else none
  else
    some (.inr true)

noncomputable def spliceref05_Check.step (a0 : List spliceref04_Pair) : spliceref05_Check.S → Option (spliceref05_Check.S ⊕ Bool)
  | .l1 x1_3 => spliceref05_Check.l1 a0 x1_3

noncomputable def spliceref05_Check (a0 : List spliceref04_Pair) : Option Bool :=
  goLoop (spliceref05_Check.step a0) (.l1 0)

noncomputable def merkle_Tree_Node.j1 (a0 : merkle_Tree) (a2 : Int) (y1_21 : Bool) : Option (Int × Int) :=
  if y1_21 = true then
    some (0, 1)
  else
    if 0 ≤ a2 ∧ a2 < 256 then
      some (a0.low a2.toNat, 0)
    else none

noncomputable def merkle_Tree_Node.j2 (a0 : merkle_Tree) (a2 : Int) (y2_21 : Bool) : Option (Int × Int) :=
  if y2_21 = true then
    some (0, 1)
  else
    if 0 ≤ a2 ∧ a2 < 16 then
      some (a0.mid a2.toNat, 0)
    else none

noncomputable def merkle_Tree_Node.j3 (a0 : merkle_Tree) (a2 : Int) (y3_21 : Bool) : Option (Int × Int) :=
  if y3_21 = true then
    some (0, 1)
  else
    if 0 ≤ a2 ∧ a2 < (([a0.root] : List Int).length : Int) then
      some (([a0.root] : List Int).getD a2.toNat 0, 0)
    else none

noncomputable def merkle_Tree_Node.j4 (a2 : Int) (y4_21 : Bool) : Option (Int × Int) :=
  if y4_21 = true then
    some (0, 1)
  else
    if 0 ≤ a2 ∧ a2 < (([] : List Int).length : Int) then
      some (([] : List Int).getD a2.toNat 0, 0)
    else none

noncomputable def merkle_Tree_Node (a0 : merkle_Tree) (a1 : Int) (a2 : Int) : Option (Int × Int) :=
  if a1 = 0 then
    if a2 < 0 then
      merkle_Tree_Node.j1 a0 a2 true
    else
      merkle_Tree_Node.j1 a0 a2 (decide (a2 ≥ 256))
  else
    if a1 = 1 then
      if a2 < 0 then
        merkle_Tree_Node.j2 a0 a2 true
      else
        merkle_Tree_Node.j2 a0 a2 (decide (a2 ≥ 16))
    else
      if a1 = 2 then
        if a2 < 0 then
          merkle_Tree_Node.j3 a0 a2 true
        else
          merkle_Tree_Node.j3 a0 a2 (decide (a2 ≥ (([a0.root] : List Int).length : Int)))
      else
        if a2 < 0 then
          merkle_Tree_Node.j4 a2 true
        else
          merkle_Tree_Node.j4 a2 (decide (a2 ≥ 0))

noncomputable def merkle_isKey.j1 (y1_2 : Bool) : Bool :=
  y1_2

noncomputable def merkle_isKey (a0 : Int) : Bool :=
  if a0 ≥ 0 then
    merkle_isKey.j1 (decide (a0 < 4096))
  else
    merkle_isKey.j1 false

noncomputable def merkle_Tree_Leaf (a0 : merkle_Tree) (a1 : Int) : Option (Int × Int) :=
  if (merkle_isKey a1) = true then
    if 0 ≤ a1 ∧ a1 < 4096 then
      some (a0.leaf a1.toNat, 0)
    else none
  else
    some (0, 1)

noncomputable def splicelaw20_MerkleNumbers.j8 (y8_6 : Bool) : Option Bool :=
  some y8_6

noncomputable def splicelaw20_MerkleNumbers.j9 (y9_6 : Bool) : Option Bool :=
  some y9_6

noncomputable def splicelaw20_MerkleNumbers.j7 (a1 : arr2_int) (v5 : merkle_Tree) (v12 : List (List Int)) (v14 : Int × Int) (y7_119 : Bool) : Option Bool :=
  if y7_119 = true then
    (splicelaw20_awake).bind fun v15 =>
    if v15 = true then
      if v14.1 = 0 then
        splicelaw20_MerkleNumbers.j8 (v14.2 == 1)
      else
        splicelaw20_MerkleNumbers.j8 false
    else
      splicelaw20_MerkleNumbers.j8 false
  else
    (splicelaw20_awake).bind fun v16 =>
    if v16 = true then
      if v14.2 = 0 then
        if (0 : Int) ≤ 0 ∧ 0 < (v12.length : Int) then
          if 0 ≤ a1.i1 ∧ a1.i1 < ((v12.getD 0 []).length : Int) then
            if v14.1 = ((v12.getD 0 []).getD a1.i1.toNat 0) then
              if (0 : Int) ≤ 3 ∧ 3 < (v12.length : Int) then
                if (0 : Int) ≤ 0 ∧ 0 < ((v12.getD 3 []).length : Int) then
                  splicelaw20_MerkleNumbers.j9 ((merkle_Tree_Root v5) == ((v12.getD 3 []).getD 0 0))
                else none
              else none
            else
              splicelaw20_MerkleNumbers.j9 false
          else none
        else none
      else
        splicelaw20_MerkleNumbers.j9 false
    else
      splicelaw20_MerkleNumbers.j9 false

noncomputable def splicelaw20_MerkleNumbers.j6 (a1 : arr2_int) (v5 : merkle_Tree) (v12 : List (List Int)) : Option Bool :=
  (merkle_Tree_Leaf v5 a1.i1).bind fun v14 =>
  if a1.i1 < 0 then
    splicelaw20_MerkleNumbers.j7 a1 v5 v12 v14 true
  else
    splicelaw20_MerkleNumbers.j7 a1 v5 v12 v14 (decide (a1.i1 ≥ 4096))

noncomputable def splicelaw20_MerkleNumbers.j4 (a1 : arr2_int) (v5 : merkle_Tree) (v12 : List (List Int)) (y4_88 : Bool) : Option Bool :=
  if y4_88 = true then
    some false
  else
    splicelaw20_MerkleNumbers.j6 a1 v5 v12

noncomputable def splicelaw20_MerkleNumbers.j5 (a1 : arr2_int) (v5 : merkle_Tree) (v12 : List (List Int)) (y5_104 : Bool) : Option Bool :=
  if y5_104 = true then
    some false
  else
    splicelaw20_MerkleNumbers.j6 a1 v5 v12

noncomputable def splicelaw20_MerkleNumbers.j3 (a1 : arr2_int) (v5 : merkle_Tree) (v12 : List (List Int)) (v13 : Int × Int) (y3_82 : Bool) : Option Bool :=
  if y3_82 = true then
    if v13.1 = 0 then
      splicelaw20_MerkleNumbers.j4 a1 v5 v12 (v13.2 != 1)
    else
      splicelaw20_MerkleNumbers.j4 a1 v5 v12 true
  else
    if v13.2 = 0 then
      if 0 ≤ (IntKind.wrap .i64 (a1.i0 + 1)) ∧ (IntKind.wrap .i64 (a1.i0 + 1)) < (v12.length : Int) then
        if 0 ≤ a1.i1 ∧ a1.i1 < ((v12.getD ((IntKind.wrap .i64 (a1.i0 + 1)).toNat) []).length : Int) then
          splicelaw20_MerkleNumbers.j5 a1 v5 v12 (v13.1 != ((v12.getD ((IntKind.wrap .i64 (a1.i0 + 1)).toNat) []).getD a1.i1.toNat 0))
        else none
      else none
    else
      splicelaw20_MerkleNumbers.j5 a1 v5 v12 true

noncomputable def splicelaw20_MerkleNumbers.j2 : Option Bool :=
  some false

noncomputable def splicelaw20_MerkleNumbers.j1 (y1_6 : Bool) : Option Bool :=
  some y1_6

noncomputable def splicelaw20_MerkleNumbers (a0 : List api_Pair) (a1 : arr2_int) (a2 : api_Cell) : Option Bool :=
  if (splicelaw20_few a0) = true then
    (merkle_Number a2).bind fun v2 =>
    (spliceref20_Number (⟨a2.Val, a2.Some⟩ : spliceref05_Cell)).bind fun v3 =>
    if v2 = v3 then
      (merkle_New a0).bind fun v4 =>
      optE v4.1 (
        (splicelaw05_Refs a0).bind fun v6 =>
        (spliceref05_Check v6).bind fun v7 =>
        if v7 = true then
          some false
        else
          (splicelaw20_awake).bind fun v8 =>
          if v8 = true then
            splicelaw20_MerkleNumbers.j1 (v4.2 == 1)
          else
            splicelaw20_MerkleNumbers.j1 false) fun (v5 : merkle_Tree) =>
      (splicelaw05_Refs a0).bind fun v9 =>
      (spliceref05_Check v9).bind fun v10 =>
      if v10 = true then
        if v4.2 = 0 then
          (splicelaw20_levels a0).bind fun v12 =>
          (merkle_Tree_Node v5 a1.i0 a1.i1).bind fun v13 =>
          if a1.i0 < 0 then
            splicelaw20_MerkleNumbers.j3 a1 v5 v12 v13 true
          else
            if a1.i0 > 2 then
              splicelaw20_MerkleNumbers.j3 a1 v5 v12 v13 true
            else
              if a1.i1 < 0 then
                splicelaw20_MerkleNumbers.j3 a1 v5 v12 v13 true
              else
                if 0 ≤ (IntKind.wrap .i64 (a1.i0 + 1)) ∧ (IntKind.wrap .i64 (a1.i0 + 1)) < (v12.length : Int) then
                  splicelaw20_MerkleNumbers.j3 a1 v5 v12 v13 (decide (a1.i1 ≥ ((v12.getD ((IntKind.wrap .i64 (a1.i0 + 1)).toNat) []).length : Int)))
                else none
        else
          some false
      else
        (splicelaw20_awake).bind fun v11 =>
        if v11 = true then
          splicelaw20_MerkleNumbers.j2
        else
          splicelaw20_MerkleNumbers.j2
    else
      some false
  else
    (splicelaw20_awake).bind fun v1 =>
    some v1

inductive merkle_Tree_Table.S where
  | l1 (x1_11 : Int) (x1_r1 : List api_Pair)

noncomputable def merkle_Tree_Table.j1 (x1_11 : Int) (y1_r1 : List api_Pair) : Option (merkle_Tree_Table.S ⊕ (List api_Pair)) :=
  some (.inl (.l1 (IntKind.wrap .i64 (x1_11 + 1)) y1_r1))

noncomputable def merkle_Tree_Table.l1 (a0 : merkle_Tree) (x1_11 : Int) (x1_r1 : List api_Pair) : Option (merkle_Tree_Table.S ⊕ (List api_Pair)) :=
  if x1_11 < 4096 then
    if 0 ≤ x1_11 ∧ x1_11 < 4096 then
      if ((a0.cells x1_11.toNat).Some) = true then
        if (x1_r1.length + 1) * 16 ≤ 140737488355328 then
          merkle_Tree_Table.j1 x1_11 (x1_r1 ++ [(⟨x1_11, (a0.cells x1_11.toNat).Val⟩ : api_Pair)])
        else none
      else
        merkle_Tree_Table.j1 x1_11 x1_r1
    else none
  else
    some (.inr x1_r1)

noncomputable def merkle_Tree_Table.step (a0 : merkle_Tree) : merkle_Tree_Table.S → Option (merkle_Tree_Table.S ⊕ (List api_Pair))
  | .l1 x1_11 x1_r1 => merkle_Tree_Table.l1 a0 x1_11 x1_r1

noncomputable def merkle_Tree_Table (a0 : merkle_Tree) : Option (List api_Pair) :=
  goLoop (merkle_Tree_Table.step a0) (.l1 0 ([] : List api_Pair))

noncomputable def merkle_isCell.j1 (y1_2 : Bool) : Bool :=
  y1_2

noncomputable def merkle_isCell (a0 : api_Cell) : Bool :=
  if a0.Some = true then
    if a0.Val ≥ (-1099511627776) then
      merkle_isCell.j1 (decide (a0.Val ≤ 1099511627776))
    else
      merkle_isCell.j1 false
  else
    (a0.Val == 0)

noncomputable def merkle_Tree_Set.j1 (a0 : merkle_Tree) (a1 : Int) (a2 : api_Cell) (y1_18 : Bool) : Option (Int × merkle_Tree) :=
  if y1_18 = true then
    some (1, a0)
  else
    (merkle_Tree_put a0 a1 a2).bind fun v1 =>
    some (0, v1)

noncomputable def merkle_Tree_Set (a0 : merkle_Tree) (a1 : Int) (a2 : api_Cell) : Option (Int × merkle_Tree) :=
  if (merkle_isKey a1) = true then
    merkle_Tree_Set.j1 a0 a1 a2 (!(merkle_isCell a2))
  else
    merkle_Tree_Set.j1 a0 a1 a2 true

noncomputable def merkle_Tree_Get (a0 : merkle_Tree) (a1 : Int) : Option api_Cell :=
  if (merkle_isKey a1) = true then
    if 0 ≤ a1 ∧ a1 < 4096 then
      some (⟨(a0.cells a1.toNat).Val, (a0.cells a1.toNat).Some⟩ : api_Cell)
    else none
  else
    some (⟨0, false⟩ : api_Cell)

noncomputable def splicelaw20_MerkleSets.j4 (y4_6 : Bool) : Option Bool :=
  some y4_6

inductive splicelaw20_MerkleSets.S where
  | l1 (x1_9 : Int) (x1_r0 : merkle_Tree)
  | l2 (v9 : List api_Pair) (v11 : merkle_Tree) (x2_16 : Int) (x2_r0 : merkle_Tree)

noncomputable def splicelaw20_MerkleSets.j9 (x1_9 : Int) (v13 : Int × merkle_Tree) (y9_146 : Bool) : Option (splicelaw20_MerkleSets.S ⊕ Bool) :=
  if y9_146 = true then
    some (.inr false)
  else
    some (.inl (.l1 (IntKind.wrap .i64 (x1_9 + 1)) v13.2))

noncomputable def splicelaw20_MerkleSets.j8 (a1 : List api_Pair) (x1_9 : Int) (v13 : Int × merkle_Tree) (y8_12 : Bool) (y8_b1_1 : Bool) : Option (splicelaw20_MerkleSets.S ⊕ Bool) :=
  if v13.1 = 0 then
    if y8_12 = true then
      (merkle_Tree_Get v13.2 ((a1.getD x1_9.toNat api_Pair.z).Key)).bind fun v14 =>
      splicelaw20_MerkleSets.j9 x1_9 v13 (!((v14.Val == ((a1.getD x1_9.toNat api_Pair.z).Val)) && (v14.Some == y8_b1_1)))
    else
      splicelaw20_MerkleSets.j9 x1_9 v13 true
  else
    if y8_12 = true then
      splicelaw20_MerkleSets.j9 x1_9 v13 true
    else
      if v13.1 = 1 then
        splicelaw20_MerkleSets.j9 x1_9 v13 false
      else
        splicelaw20_MerkleSets.j9 x1_9 v13 true

noncomputable def splicelaw20_MerkleSets.j7 (x1_r0 : merkle_Tree) (v9 : List api_Pair) (v11 : merkle_Tree) (y7_173 : Bool) : Option (splicelaw20_MerkleSets.S ⊕ Bool) :=
  if y7_173 = true then
    some (.inr false)
  else
    some (.inl (.l2 v9 v11 0 x1_r0))

noncomputable def splicelaw20_MerkleSets.j6 : Option (splicelaw20_MerkleSets.S ⊕ Bool) :=
  some (.inr false)

noncomputable def splicelaw20_MerkleSets.j5 (a1 : List api_Pair) (a2 : List Bool) (x1_9 : Int) (x1_r0 : merkle_Tree) (y5_62 : Bool) : Option (splicelaw20_MerkleSets.S ⊕ Bool) :=
  if y5_62 = true then
    if 0 ≤ x1_9 ∧ x1_9 < (a1.length : Int) then
      if 0 ≤ x1_9 ∧ x1_9 < (a2.length : Int) then
        (merkle_Tree_Set x1_r0 ((a1.getD x1_9.toNat api_Pair.z).Key) (⟨(a1.getD x1_9.toNat api_Pair.z).Val, a2.getD x1_9.toNat false⟩ : api_Cell)).bind fun v13 =>
        if ((a1.getD x1_9.toNat api_Pair.z).Key) ≥ 0 then
          if ((a1.getD x1_9.toNat api_Pair.z).Key) < 4096 then
            if (a2.getD x1_9.toNat false) = true then
              if ((a1.getD x1_9.toNat api_Pair.z).Val) ≥ (-1099511627776) then
                if ((a1.getD x1_9.toNat api_Pair.z).Val) ≤ 1099511627776 then
                  splicelaw20_MerkleSets.j8 a1 x1_9 v13 true true
                else
                  splicelaw20_MerkleSets.j8 a1 x1_9 v13 false true
              else
                splicelaw20_MerkleSets.j8 a1 x1_9 v13 false true
            else
              splicelaw20_MerkleSets.j8 a1 x1_9 v13 (((a1.getD x1_9.toNat api_Pair.z).Val) == 0) false
          else
            splicelaw20_MerkleSets.j8 a1 x1_9 v13 false (a2.getD x1_9.toNat false)
        else
          splicelaw20_MerkleSets.j8 a1 x1_9 v13 false (a2.getD x1_9.toNat false)
      else none
    else none
  else
    (merkle_Tree_Table x1_r0).bind fun v9 =>
    (merkle_New v9).bind fun v10 =>
    optE v10.1 (
      if v10.2 = 0 then
        splicelaw20_MerkleSets.j6
      else
        splicelaw20_MerkleSets.j6) fun (v11 : merkle_Tree) =>
    if v10.2 = 0 then
      if (merkle_Tree_Root v11) = (merkle_Tree_Root x1_r0) then
        (merkle_Diff x1_r0 v11).bind fun v12 =>
        splicelaw20_MerkleSets.j7 x1_r0 v9 v11 ((v12.length : Int) != 0)
      else
        splicelaw20_MerkleSets.j7 x1_r0 v9 v11 true
    else
      splicelaw20_MerkleSets.j7 x1_r0 v9 v11 true

noncomputable def splicelaw20_MerkleSets.j11 (y11_6 : Bool) : Option (splicelaw20_MerkleSets.S ⊕ Bool) :=
  some (.inr y11_6)

noncomputable def splicelaw20_MerkleSets.j10 (a1 : List api_Pair) (x2_16 : Int) (x2_r0 : merkle_Tree) (v9 : List api_Pair) (v11 : merkle_Tree) (y10_181 : Bool) : Option (splicelaw20_MerkleSets.S ⊕ Bool) :=
  if y10_181 = true then
    if 0 ≤ x2_16 ∧ x2_16 < (a1.length : Int) then
      (merkle_Tree_Leaf x2_r0 ((a1.getD x2_16.toNat api_Pair.z).Key)).bind fun v17 =>
      (merkle_Tree_Leaf v11 ((a1.getD x2_16.toNat api_Pair.z).Key)).bind fun v18 =>
      if v17.1 = v18.1 then
        some (.inl (.l2 v9 v11 (IntKind.wrap .i64 (x2_16 + 1)) x2_r0))
      else
        some (.inr false)
    else none
  else
    (splicelaw20_awake).bind fun v15 =>
    if v15 = true then
      (splicelaw20_levels v9).bind fun v16 =>
      if (0 : Int) ≤ 3 ∧ 3 < (v16.length : Int) then
        if (0 : Int) ≤ 0 ∧ 0 < ((v16.getD 3 []).length : Int) then
          splicelaw20_MerkleSets.j11 ((merkle_Tree_Root x2_r0) == ((v16.getD 3 []).getD 0 0))
        else none
      else none
    else
      splicelaw20_MerkleSets.j11 false

noncomputable def splicelaw20_MerkleSets.l1 (a1 : List api_Pair) (a2 : List Bool) (x1_9 : Int) (x1_r0 : merkle_Tree) : Option (splicelaw20_MerkleSets.S ⊕ Bool) :=
  if x1_9 < (a1.length : Int) then
    if x1_9 < 20 then
      splicelaw20_MerkleSets.j5 a1 a2 x1_9 x1_r0 (decide (x1_9 < (a2.length : Int)))
    else
      splicelaw20_MerkleSets.j5 a1 a2 x1_9 x1_r0 false
  else
    splicelaw20_MerkleSets.j5 a1 a2 x1_9 x1_r0 false

noncomputable def splicelaw20_MerkleSets.l2 (a1 : List api_Pair) (v9 : List api_Pair) (v11 : merkle_Tree) (x2_16 : Int) (x2_r0 : merkle_Tree) : Option (splicelaw20_MerkleSets.S ⊕ Bool) :=
  if x2_16 < (a1.length : Int) then
    splicelaw20_MerkleSets.j10 a1 x2_16 x2_r0 v9 v11 (decide (x2_16 < 20))
  else
    splicelaw20_MerkleSets.j10 a1 x2_16 x2_r0 v9 v11 false

noncomputable def splicelaw20_MerkleSets.step (a1 : List api_Pair) (a2 : List Bool) : splicelaw20_MerkleSets.S → Option (splicelaw20_MerkleSets.S ⊕ Bool)
  | .l1 x1_9 x1_r0 => splicelaw20_MerkleSets.l1 a1 a2 x1_9 x1_r0
  | .l2 v9 v11 x2_16 x2_r0 => splicelaw20_MerkleSets.l2 a1 v9 v11 x2_16 x2_r0

noncomputable def splicelaw20_MerkleSets.j3 (a0 : List api_Pair) (a1 : List api_Pair) (a2 : List Bool) (v2 : merkle_Tree) (y3_36 : Bool) : Option Bool :=
  if y3_36 = true then
    (splicelaw20_awake).bind fun v6 =>
    if v6 = true then
      if (a0.length : Int) > 60 then
        splicelaw20_MerkleSets.j4 true
      else
        (splicelaw05_Refs a0).bind fun v7 =>
        (spliceref05_Check v7).bind fun v8 =>
        splicelaw20_MerkleSets.j4 (!v8)
    else
      splicelaw20_MerkleSets.j4 false
  else
    goLoop (splicelaw20_MerkleSets.step a1 a2) (.l1 0 v2)

noncomputable def splicelaw20_MerkleSets.j2 (y2_6 : Bool) : Option Bool :=
  some y2_6

noncomputable def splicelaw20_MerkleSets.j1 (a0 : List api_Pair) : Option Bool :=
  (splicelaw20_awake).bind fun v3 =>
  if v3 = true then
    if (a0.length : Int) > 60 then
      splicelaw20_MerkleSets.j2 true
    else
      (splicelaw05_Refs a0).bind fun v4 =>
      (spliceref05_Check v4).bind fun v5 =>
      splicelaw20_MerkleSets.j2 (!v5)
  else
    splicelaw20_MerkleSets.j2 false

noncomputable def splicelaw20_MerkleSets (a0 : List api_Pair) (a1 : List api_Pair) (a2 : List Bool) : Option Bool :=
  (merkle_New a0).bind fun v1 =>
  optE v1.1 (
    if (splicelaw20_few a0) = true then
      if v1.2 = 0 then
        splicelaw20_MerkleSets.j1 a0
      else
        splicelaw20_MerkleSets.j1 a0
    else
      splicelaw20_MerkleSets.j1 a0) fun (v2 : merkle_Tree) =>
  if (splicelaw20_few a0) = true then
    if v1.2 = 0 then
      splicelaw20_MerkleSets.j3 a0 a1 a2 v2 false
    else
      splicelaw20_MerkleSets.j3 a0 a1 a2 v2 true
  else
    splicelaw20_MerkleSets.j3 a0 a1 a2 v2 true

noncomputable def merkle_Tree_Node_n0 (a1 : Int) (a2 : Int) : Int × Int :=
  (0, 1)

noncomputable def merkle_Tree_Leaf_n0 (a1 : Int) : Int × Int :=
  (0, 1)

noncomputable def merkle_Tree_Prove_n0 (a1 : Int) : (List Int) × Int :=
  (([] : List Int), 1)

noncomputable def merkle_Tree_Set_n0 (a1 : Int) (a2 : api_Cell) : Int :=
  1

noncomputable def merkle_Tree_Get_n0 (a1 : Int) : api_Cell :=
  (⟨0, false⟩ : api_Cell)

inductive merkle_Tree_Table_n0.S where
  | l1 (x1_11 : Int) (x1_r0 : List api_Pair)

noncomputable def merkle_Tree_Table_n0.j1 (x1_11 : Int) (y1_r0 : List api_Pair) : Option (merkle_Tree_Table_n0.S ⊕ (List api_Pair)) :=
  some (.inl (.l1 (IntKind.wrap .i64 (x1_11 + 1)) y1_r0))

noncomputable def merkle_Tree_Table_n0.l1 (v1 : merkle_Tree) (x1_11 : Int) (x1_r0 : List api_Pair) : Option (merkle_Tree_Table_n0.S ⊕ (List api_Pair)) :=
  if x1_11 < 4096 then
    if 0 ≤ x1_11 ∧ x1_11 < 4096 then
      if ((v1.cells x1_11.toNat).Some) = true then
        if (x1_r0.length + 1) * 16 ≤ 140737488355328 then
          merkle_Tree_Table_n0.j1 x1_11 (x1_r0 ++ [(⟨x1_11, (v1.cells x1_11.toNat).Val⟩ : api_Pair)])
        else none
      else
        merkle_Tree_Table_n0.j1 x1_11 x1_r0
    else none
  else
    some (.inr x1_r0)

noncomputable def merkle_Tree_Table_n0.step (v1 : merkle_Tree) : merkle_Tree_Table_n0.S → Option (merkle_Tree_Table_n0.S ⊕ (List api_Pair))
  | .l1 x1_11 x1_r0 => merkle_Tree_Table_n0.l1 v1 x1_11 x1_r0

noncomputable def merkle_Tree_Table_n0 : Option (List api_Pair) :=
  (merkle_Tree_some_n0).bind fun v1 =>
  goLoop (merkle_Tree_Table_n0.step v1) (.l1 0 ([] : List api_Pair))

inductive spliceref04_Same.S where
  | l1 (x1_5 : Int)

noncomputable def spliceref04_Same.l1 (a0 : spliceref04_Mut) (a1 : spliceref04_Mut) (x1_5 : Int) : Option (spliceref04_Same.S ⊕ Bool) :=
  if x1_5 < (a0.Pairs.length : Int) then
    if 0 ≤ x1_5 ∧ x1_5 < (a0.Pairs.length : Int) then
      if 0 ≤ x1_5 ∧ x1_5 < (a1.Pairs.length : Int) then
        if ((a0.Pairs.getD x1_5.toNat spliceref04_Pair.z).Key) = ((a1.Pairs.getD x1_5.toNat spliceref04_Pair.z).Key) then
          if ((a0.Pairs.getD x1_5.toNat spliceref04_Pair.z).Val) = ((a1.Pairs.getD x1_5.toNat spliceref04_Pair.z).Val) then
            some (.inl (.l1 (IntKind.wrap .i64 (x1_5 + 1))))
          else
            some (.inr false)
        else
          if ((a0.Pairs.getD x1_5.toNat spliceref04_Pair.z).Val) = ((a1.Pairs.getD x1_5.toNat spliceref04_Pair.z).Val) then
            some (.inr false)
          else
            some (.inr false)
      else none
    else none
  else
    some (.inr true)

noncomputable def spliceref04_Same.step (a0 : spliceref04_Mut) (a1 : spliceref04_Mut) : spliceref04_Same.S → Option (spliceref04_Same.S ⊕ Bool)
  | .l1 x1_5 => spliceref04_Same.l1 a0 a1 x1_5

noncomputable def spliceref04_Same.j1 (a0 : spliceref04_Mut) (a1 : spliceref04_Mut) (y1_47 : Bool) : Option Bool :=
  if y1_47 = true then
    some false
  else
    goLoop (spliceref04_Same.step a0 a1) (.l1 0)

noncomputable def spliceref04_Same (a0 : spliceref04_Mut) (a1 : spliceref04_Mut) : Option Bool :=
  if a0.Client = a1.Client then
    if a0.Seq = a1.Seq then
      if a0.Kind = a1.Kind then
        if a0.Over.Lo = a1.Over.Lo then
          if a0.Over.Hi = a1.Over.Hi then
            if a0.Old = a1.Old then
              spliceref04_Same.j1 a0 a1 ((a0.Pairs.length : Int) != (a1.Pairs.length : Int))
            else
              spliceref04_Same.j1 a0 a1 true
          else
            spliceref04_Same.j1 a0 a1 true
        else
          if a0.Over.Hi = a1.Over.Hi then
            spliceref04_Same.j1 a0 a1 true
          else
            spliceref04_Same.j1 a0 a1 true
      else
        spliceref04_Same.j1 a0 a1 true
    else
      spliceref04_Same.j1 a0 a1 true
  else
    spliceref04_Same.j1 a0 a1 true

noncomputable def splicelaw20_MerkleNil.j8 (y8_6 : Bool) : Option Bool :=
  some y8_6

noncomputable def splicelaw20_MerkleNil.j7 (v2 : merkle_Tree) (v7 : (Option merkle_Tree) × Int) (v8 : merkle_Tree) (y7_91 : Bool) : Option Bool :=
  if y7_91 = true then
    some false
  else
    if v7.2 = 0 then
      (splicelaw20_awake).bind fun v34 =>
      if v34 = true then
        (merkle_Diff_n0 v8).bind fun v35 =>
        (splicelaw03_Refs v35).bind fun v36 =>
        (merkle_Diff v2 v8).bind fun v37 =>
        (splicelaw03_Refs v37).bind fun v38 =>
        (spliceref03_Same v36 v38).bind fun v39 =>
        if v39 = true then
          (spliceref20_Above ([] : List Int)).bind fun v40 =>
          if (v40.length : Int) = 0 then
            (splicelaw05_Refs ([] : List api_Pair)).bind fun v41 =>
            if (v41.length : Int) = 0 then
              (spliceref04_Same (⟨0, 0, 0, [], (⟨0, 0⟩ : spliceref03_Span), 0⟩ : spliceref04_Mut) (⟨0, 0, 0, [], (⟨0, 0⟩ : spliceref03_Span), 0⟩ : spliceref04_Mut)).bind fun v42 =>
              splicelaw20_MerkleNil.j8 v42
            else
              splicelaw20_MerkleNil.j8 false
          else
            splicelaw20_MerkleNil.j8 false
        else
          splicelaw20_MerkleNil.j8 false
      else
        splicelaw20_MerkleNil.j8 false
    else
      (splicelaw20_awake).bind fun v33 =>
      some v33

noncomputable def splicelaw20_MerkleNil.j6 (a0 : Int) (a2 : api_Cell) (v2 : merkle_Tree) (v7 : (Option merkle_Tree) × Int) (v8 : merkle_Tree) (y6_37 : Bool) : Option Bool :=
  if y6_37 = true then
    (splicelaw20_awake).bind fun v26 =>
    some v26
  else
    bnd (merkle_Tree_Node_n0 0 0) fun (v27 : Int × Int) =>
    bnd (merkle_Tree_Leaf_n0 a0) fun (v28 : Int × Int) =>
    bnd (merkle_Tree_Prove_n0 a0) fun (v29 : (List Int) × Int) =>
    if v27.2 = 1 then
      if v28.2 = 1 then
        if v29.2 = 1 then
          if (merkle_Tree_Set_n0 a0 a2) = 1 then
            bnd (merkle_Tree_Get_n0 a0) fun (v30 : api_Cell) =>
            if v30.Some = true then
              splicelaw20_MerkleNil.j7 v2 v7 v8 true
            else
              (merkle_Tree_Root_n0).bind fun v31 =>
              if v31 = (merkle_Tree_Root v2) then
                (merkle_Tree_Table_n0).bind fun v32 =>
                splicelaw20_MerkleNil.j7 v2 v7 v8 ((v32.length : Int) != 0)
              else
                splicelaw20_MerkleNil.j7 v2 v7 v8 true
          else
            splicelaw20_MerkleNil.j7 v2 v7 v8 true
        else
          splicelaw20_MerkleNil.j7 v2 v7 v8 true
      else
        splicelaw20_MerkleNil.j7 v2 v7 v8 true
    else
      splicelaw20_MerkleNil.j7 v2 v7 v8 true

noncomputable def splicelaw20_MerkleNil.j5 (y5_6 : Bool) : Option Bool :=
  some y5_6

noncomputable def splicelaw20_MerkleNil.j4 (v2 : merkle_Tree) (v7 : (Option merkle_Tree) × Int) (y4_91 : Bool) : Option Bool :=
  if y4_91 = true then
    some false
  else
    if v7.2 = 0 then
      (splicelaw20_awake).bind fun v17 =>
      if v17 = true then
        (merkle_Diff_n01).bind fun v18 =>
        (splicelaw03_Refs v18).bind fun v19 =>
        (merkle_Diff_n1 v2).bind fun v20 =>
        (splicelaw03_Refs v20).bind fun v21 =>
        (spliceref03_Same v19 v21).bind fun v22 =>
        if v22 = true then
          (spliceref20_Above ([] : List Int)).bind fun v23 =>
          if (v23.length : Int) = 0 then
            (splicelaw05_Refs ([] : List api_Pair)).bind fun v24 =>
            if (v24.length : Int) = 0 then
              (spliceref04_Same (⟨0, 0, 0, [], (⟨0, 0⟩ : spliceref03_Span), 0⟩ : spliceref04_Mut) (⟨0, 0, 0, [], (⟨0, 0⟩ : spliceref03_Span), 0⟩ : spliceref04_Mut)).bind fun v25 =>
              splicelaw20_MerkleNil.j5 v25
            else
              splicelaw20_MerkleNil.j5 false
          else
            splicelaw20_MerkleNil.j5 false
        else
          splicelaw20_MerkleNil.j5 false
      else
        splicelaw20_MerkleNil.j5 false
    else
      (splicelaw20_awake).bind fun v16 =>
      some v16

noncomputable def splicelaw20_MerkleNil.j3 (a0 : Int) (a2 : api_Cell) (v2 : merkle_Tree) (v7 : (Option merkle_Tree) × Int) (y3_37 : Bool) : Option Bool :=
  if y3_37 = true then
    (splicelaw20_awake).bind fun v9 =>
    some v9
  else
    bnd (merkle_Tree_Node_n0 0 0) fun (v10 : Int × Int) =>
    bnd (merkle_Tree_Leaf_n0 a0) fun (v11 : Int × Int) =>
    bnd (merkle_Tree_Prove_n0 a0) fun (v12 : (List Int) × Int) =>
    if v10.2 = 1 then
      if v11.2 = 1 then
        if v12.2 = 1 then
          if (merkle_Tree_Set_n0 a0 a2) = 1 then
            bnd (merkle_Tree_Get_n0 a0) fun (v13 : api_Cell) =>
            if v13.Some = true then
              splicelaw20_MerkleNil.j4 v2 v7 true
            else
              (merkle_Tree_Root_n0).bind fun v14 =>
              if v14 = (merkle_Tree_Root v2) then
                (merkle_Tree_Table_n0).bind fun v15 =>
                splicelaw20_MerkleNil.j4 v2 v7 ((v15.length : Int) != 0)
              else
                splicelaw20_MerkleNil.j4 v2 v7 true
          else
            splicelaw20_MerkleNil.j4 v2 v7 true
        else
          splicelaw20_MerkleNil.j4 v2 v7 true
      else
        splicelaw20_MerkleNil.j4 v2 v7 true
    else
      splicelaw20_MerkleNil.j4 v2 v7 true

noncomputable def splicelaw20_MerkleNil.j2 : Option Bool :=
  (splicelaw20_awake).bind fun v6 =>
  some v6

noncomputable def splicelaw20_MerkleNil.j1 : Option Bool :=
  (splicelaw20_awake).bind fun v5 =>
  some v5

noncomputable def splicelaw20_MerkleNil (a0 : Int) (a1 : List api_Pair) (a2 : api_Cell) : Option Bool :=
  (merkle_New ([] : List api_Pair)).bind fun v1 =>
  optE v1.1 (
    (merkle_New a1).bind fun v3 =>
    optE v3.1 (
      if (splicelaw20_few a1) = true then
        if v1.2 = 0 then
          splicelaw20_MerkleNil.j1
        else
          splicelaw20_MerkleNil.j1
      else
        splicelaw20_MerkleNil.j1) fun (v4 : merkle_Tree) =>
    if (splicelaw20_few a1) = true then
      if v1.2 = 0 then
        splicelaw20_MerkleNil.j2
      else
        splicelaw20_MerkleNil.j2
    else
      splicelaw20_MerkleNil.j2) fun (v2 : merkle_Tree) =>
  (merkle_New a1).bind fun v7 =>
  optE v7.1 (
    if (splicelaw20_few a1) = true then
      if v1.2 = 0 then
        splicelaw20_MerkleNil.j3 a0 a2 v2 v7 false
      else
        splicelaw20_MerkleNil.j3 a0 a2 v2 v7 true
    else
      splicelaw20_MerkleNil.j3 a0 a2 v2 v7 true) fun (v8 : merkle_Tree) =>
  if (splicelaw20_few a1) = true then
    if v1.2 = 0 then
      splicelaw20_MerkleNil.j6 a0 a2 v2 v7 v8 false
    else
      splicelaw20_MerkleNil.j6 a0 a2 v2 v7 v8 true
  else
    splicelaw20_MerkleNil.j6 a0 a2 v2 v7 v8 true

inductive merkle_place.S where
  | l1 (x1_1 : Int) (x1_6 : Int)

noncomputable def merkle_place.l1 (a0 : Int) (x1_1 : Int) (x1_6 : Int) : Option (merkle_place.S ⊕ Int) :=
  if x1_6 < a0 then
    some (.inl (.l1 (IntKind.wrap .i64 (Int.tdiv x1_1 16)) (IntKind.wrap .i64 (x1_6 + 1))))
  else
    some (.inr (Int.tmod x1_1 16))

noncomputable def merkle_place.step (a0 : Int) : merkle_place.S → Option (merkle_place.S ⊕ Int)
  | .l1 x1_1 x1_6 => merkle_place.l1 a0 x1_1 x1_6

noncomputable def merkle_place (a0 : Int) (a1 : Int) : Option Int :=
  goLoop (merkle_place.step a0) (.l1 a1 0)

inductive merkle_Tree_Prove.S where
  | l1 (x1_25 : Int) (x1_r1 : List Int)
  | l2 (x2_25 : Int) (x2_r1 : List Int)
  | l3 (x3_25 : Int) (x3_r1 : List Int)

noncomputable def merkle_Tree_Prove.j1 (x1_25 : Int) (y1_r1 : List Int) : Option (merkle_Tree_Prove.S ⊕ ((List Int) × Int)) :=
  some (.inl (.l1 (IntKind.wrap .i64 (x1_25 + 1)) y1_r1))

noncomputable def merkle_Tree_Prove.j2 (x2_25 : Int) (y2_r1 : List Int) : Option (merkle_Tree_Prove.S ⊕ ((List Int) × Int)) :=
  some (.inl (.l2 (IntKind.wrap .i64 (x2_25 + 1)) y2_r1))

noncomputable def merkle_Tree_Prove.j3 (x3_25 : Int) (y3_r1 : List Int) : Option (merkle_Tree_Prove.S ⊕ ((List Int) × Int)) :=
  some (.inl (.l3 (IntKind.wrap .i64 (x3_25 + 1)) y3_r1))

noncomputable def merkle_Tree_Prove.l1 (a0 : merkle_Tree) (a1 : Int) (x1_25 : Int) (x1_r1 : List Int) : Option (merkle_Tree_Prove.S ⊕ ((List Int) × Int)) :=
  if x1_25 < ((((IntKind.wrap .i64 ((IntKind.wrap .i64 ((IntKind.wrap .i64 (Int.tdiv a1 16)) + 1)) * 16)).toNat - (IntKind.wrap .i64 ((IntKind.wrap .i64 (Int.tdiv a1 16)) * 16)).toNat) : Nat) : Int) then
    if 0 ≤ (IntKind.wrap .i64 ((IntKind.wrap .i64 (Int.tdiv a1 16)) * 16)) ∧ (IntKind.wrap .i64 ((IntKind.wrap .i64 (Int.tdiv a1 16)) * 16)) ≤ (IntKind.wrap .i64 ((IntKind.wrap .i64 ((IntKind.wrap .i64 (Int.tdiv a1 16)) + 1)) * 16)) ∧ (IntKind.wrap .i64 ((IntKind.wrap .i64 ((IntKind.wrap .i64 (Int.tdiv a1 16)) + 1)) * 16)) ≤ 4096 ∧ (IntKind.wrap .i64 ((IntKind.wrap .i64 (Int.tdiv a1 16)) * 16)) < 4096 then
      if 0 ≤ x1_25 ∧ x1_25 < ((((IntKind.wrap .i64 ((IntKind.wrap .i64 ((IntKind.wrap .i64 (Int.tdiv a1 16)) + 1)) * 16)).toNat - (IntKind.wrap .i64 ((IntKind.wrap .i64 (Int.tdiv a1 16)) * 16)).toNat) : Nat) : Int) then
        bnd (a0.leaf ((IntKind.wrap .i64 ((IntKind.wrap .i64 (Int.tdiv a1 16)) * 16)).toNat + x1_25.toNat)) fun (v1 : Int) =>
        (merkle_place 0 a1).bind fun v2 =>
        if x1_25 = v2 then
          merkle_Tree_Prove.j1 x1_25 x1_r1
        else
          if (x1_r1.length + 1) * 4 ≤ 140737488355328 then
            merkle_Tree_Prove.j1 x1_25 (x1_r1 ++ [v1])
          else none
      else none
    else none
  else
    if 0 ≤ (IntKind.wrap .i64 ((IntKind.wrap .i64 (Int.tdiv (IntKind.wrap .i64 (Int.tdiv a1 16)) 16)) * 16)) ∧ (IntKind.wrap .i64 ((IntKind.wrap .i64 (Int.tdiv (IntKind.wrap .i64 (Int.tdiv a1 16)) 16)) * 16)) ≤ (IntKind.wrap .i64 ((IntKind.wrap .i64 ((IntKind.wrap .i64 (Int.tdiv (IntKind.wrap .i64 (Int.tdiv a1 16)) 16)) + 1)) * 16)) ∧ (IntKind.wrap .i64 ((IntKind.wrap .i64 ((IntKind.wrap .i64 (Int.tdiv (IntKind.wrap .i64 (Int.tdiv a1 16)) 16)) + 1)) * 16)) ≤ 256 ∧ (IntKind.wrap .i64 ((IntKind.wrap .i64 (Int.tdiv (IntKind.wrap .i64 (Int.tdiv a1 16)) 16)) * 16)) < 256 then
      some (.inl (.l2 0 x1_r1))
    else none

noncomputable def merkle_Tree_Prove.l2 (a0 : merkle_Tree) (a1 : Int) (x2_25 : Int) (x2_r1 : List Int) : Option (merkle_Tree_Prove.S ⊕ ((List Int) × Int)) :=
  if x2_25 < ((((IntKind.wrap .i64 ((IntKind.wrap .i64 ((IntKind.wrap .i64 (Int.tdiv (IntKind.wrap .i64 (Int.tdiv a1 16)) 16)) + 1)) * 16)).toNat - (IntKind.wrap .i64 ((IntKind.wrap .i64 (Int.tdiv (IntKind.wrap .i64 (Int.tdiv a1 16)) 16)) * 16)).toNat) : Nat) : Int) then
    if 0 ≤ (IntKind.wrap .i64 ((IntKind.wrap .i64 (Int.tdiv (IntKind.wrap .i64 (Int.tdiv a1 16)) 16)) * 16)) ∧ (IntKind.wrap .i64 ((IntKind.wrap .i64 (Int.tdiv (IntKind.wrap .i64 (Int.tdiv a1 16)) 16)) * 16)) ≤ (IntKind.wrap .i64 ((IntKind.wrap .i64 ((IntKind.wrap .i64 (Int.tdiv (IntKind.wrap .i64 (Int.tdiv a1 16)) 16)) + 1)) * 16)) ∧ (IntKind.wrap .i64 ((IntKind.wrap .i64 ((IntKind.wrap .i64 (Int.tdiv (IntKind.wrap .i64 (Int.tdiv a1 16)) 16)) + 1)) * 16)) ≤ 256 ∧ (IntKind.wrap .i64 ((IntKind.wrap .i64 (Int.tdiv (IntKind.wrap .i64 (Int.tdiv a1 16)) 16)) * 16)) < 256 then
      if 0 ≤ x2_25 ∧ x2_25 < ((((IntKind.wrap .i64 ((IntKind.wrap .i64 ((IntKind.wrap .i64 (Int.tdiv (IntKind.wrap .i64 (Int.tdiv a1 16)) 16)) + 1)) * 16)).toNat - (IntKind.wrap .i64 ((IntKind.wrap .i64 (Int.tdiv (IntKind.wrap .i64 (Int.tdiv a1 16)) 16)) * 16)).toNat) : Nat) : Int) then
        bnd (a0.low ((IntKind.wrap .i64 ((IntKind.wrap .i64 (Int.tdiv (IntKind.wrap .i64 (Int.tdiv a1 16)) 16)) * 16)).toNat + x2_25.toNat)) fun (v3 : Int) =>
        (merkle_place 1 a1).bind fun v4 =>
        if x2_25 = v4 then
          merkle_Tree_Prove.j2 x2_25 x2_r1
        else
          if (x2_r1.length + 1) * 4 ≤ 140737488355328 then
            merkle_Tree_Prove.j2 x2_25 (x2_r1 ++ [v3])
          else none
      else none
    else none
  else
    some (.inl (.l3 0 x2_r1))

noncomputable def merkle_Tree_Prove.l3 (a0 : merkle_Tree) (a1 : Int) (x3_25 : Int) (x3_r1 : List Int) : Option (merkle_Tree_Prove.S ⊕ ((List Int) × Int)) :=
  if x3_25 < 16 then
    if 0 ≤ x3_25 ∧ x3_25 < 16 then
      (merkle_place 2 a1).bind fun v5 =>
      if x3_25 = v5 then
        merkle_Tree_Prove.j3 x3_25 x3_r1
      else
        if (x3_r1.length + 1) * 4 ≤ 140737488355328 then
          merkle_Tree_Prove.j3 x3_25 (x3_r1 ++ [a0.mid x3_25.toNat])
        else none
    else none
  else
    some (.inr (x3_r1, 0))

noncomputable def merkle_Tree_Prove.step (a0 : merkle_Tree) (a1 : Int) : merkle_Tree_Prove.S → Option (merkle_Tree_Prove.S ⊕ ((List Int) × Int))
  | .l1 x1_25 x1_r1 => merkle_Tree_Prove.l1 a0 a1 x1_25 x1_r1
  | .l2 x2_25 x2_r1 => merkle_Tree_Prove.l2 a0 a1 x2_25 x2_r1
  | .l3 x3_25 x3_r1 => merkle_Tree_Prove.l3 a0 a1 x3_25 x3_r1

noncomputable def merkle_Tree_Prove (a0 : merkle_Tree) (a1 : Int) : Option ((List Int) × Int) :=
  if (merkle_isKey a1) = true then
    if 0 ≤ (IntKind.wrap .i64 ((IntKind.wrap .i64 (Int.tdiv a1 16)) * 16)) ∧ (IntKind.wrap .i64 ((IntKind.wrap .i64 (Int.tdiv a1 16)) * 16)) ≤ (IntKind.wrap .i64 ((IntKind.wrap .i64 ((IntKind.wrap .i64 (Int.tdiv a1 16)) + 1)) * 16)) ∧ (IntKind.wrap .i64 ((IntKind.wrap .i64 ((IntKind.wrap .i64 (Int.tdiv a1 16)) + 1)) * 16)) ≤ 4096 ∧ (IntKind.wrap .i64 ((IntKind.wrap .i64 (Int.tdiv a1 16)) * 16)) < 4096 then
      goLoop (merkle_Tree_Prove.step a0 a1) (.l1 0 ([] : List Int))
    else none
  else
    some (([] : List Int), 1)

noncomputable def merkle_Verify.j1 (a0 : Int) (a1 : Int) (a2 : api_Cell) (a3 : List Int) (y1_19 : Bool) : Option Bool :=
  if y1_19 = true then
    some false
  else
    (merkle_Number a2).bind fun v1 =>
    if 0 ≤ (0 : Int) ∧ (0 : Int) ≤ 15 ∧ 15 ≤ (a3.length : Int) then
      if ((a3.drop 0).take (15 - 0)).length * 4 ≤ 140737488355328 then
        (merkle_place 0 a1).bind fun v2 =>
        if (0 ≤ v2 ∧ v2 ≤ (((a3.drop 0).take (15 - 0)).length : Int)) ∧ (((a3.drop 0).take (15 - 0)).length + 1) * 4 ≤ 140737488355328 then
          (merkle_over (((a3.drop 0).take (15 - 0)).take v2.toNat ++ v1 :: ((a3.drop 0).take (15 - 0)).drop v2.toNat)).bind fun v3 =>
          if 0 ≤ (15 : Int) ∧ (15 : Int) ≤ 30 ∧ 30 ≤ (a3.length : Int) then
            if ((a3.drop 15).take (30 - 15)).length * 4 ≤ 140737488355328 then
              (merkle_place 1 a1).bind fun v4 =>
              if (0 ≤ v4 ∧ v4 ≤ (((a3.drop 15).take (30 - 15)).length : Int)) ∧ (((a3.drop 15).take (30 - 15)).length + 1) * 4 ≤ 140737488355328 then
                (merkle_over (((a3.drop 15).take (30 - 15)).take v4.toNat ++ v3 :: ((a3.drop 15).take (30 - 15)).drop v4.toNat)).bind fun v5 =>
                if 0 ≤ (30 : Int) ∧ (30 : Int) ≤ 45 ∧ 45 ≤ (a3.length : Int) then
                  if ((a3.drop 30).take (45 - 30)).length * 4 ≤ 140737488355328 then
                    (merkle_place 2 a1).bind fun v6 =>
                    if (0 ≤ v6 ∧ v6 ≤ (((a3.drop 30).take (45 - 30)).length : Int)) ∧ (((a3.drop 30).take (45 - 30)).length + 1) * 4 ≤ 140737488355328 then
                      (merkle_over (((a3.drop 30).take (45 - 30)).take v6.toNat ++ v5 :: ((a3.drop 30).take (45 - 30)).drop v6.toNat)).bind fun v7 =>
                      some (v7 == a0)
                    else none
                  else none
                else none
              else none
            else none
          else none
        else none
      else none
    else none

noncomputable def merkle_Verify (a0 : Int) (a1 : Int) (a2 : api_Cell) (a3 : List Int) : Option Bool :=
  if (a3.length : Int) = 45 then
    merkle_Verify.j1 a0 a1 a2 a3 (!(merkle_isKey a1))
  else
    merkle_Verify.j1 a0 a1 a2 a3 true

noncomputable def splicelaw20_MerkleForged.j3 (y3_6 : Bool) : Option Bool :=
  some y3_6

noncomputable def splicelaw20_MerkleForged.j2 (a0 : List api_Pair) (a1 : Int) (a2 : splicelaw20_Bits) (v2 : merkle_Tree) (y2_39 : Bool) : Option Bool :=
  if y2_39 = true then
    (splicelaw20_awake).bind fun v4 =>
    some v4
  else
    if ¬ (a0.length : Int) = 0 then
      if 0 ≤ (Int.tmod (IntKind.wrap .i64 ((Int.tmod a1 (a0.length : Int)) + (a0.length : Int))) (a0.length : Int)) ∧ (Int.tmod (IntKind.wrap .i64 ((Int.tmod a1 (a0.length : Int)) + (a0.length : Int))) (a0.length : Int)) < (a0.length : Int) then
        if 0 ≤ (IntKind.wrap .u64 (8 * (IntKind.wrap .u64 (Int.tmod a2.At 5)))) then
          bnd (IntKind.wrap .i64 (bXor .u64 (IntKind.wrap .u64 ((a0.getD ((Int.tmod (IntKind.wrap .i64 ((Int.tmod a1 (a0.length : Int)) + (a0.length : Int))) (a0.length : Int)).toNat) api_Pair.z).Val)) (IntKind.wrap .u64 ((IntKind.wrap .u64 a2.Bits) * 2 ^ (min (IntKind.wrap .u64 (8 * (IntKind.wrap .u64 (Int.tmod a2.At 5)))).toNat 64))))) fun (v5 : Int) =>
          (merkle_Tree_Prove v2 ((a0.getD ((Int.tmod (IntKind.wrap .i64 ((Int.tmod a1 (a0.length : Int)) + (a0.length : Int))) (a0.length : Int)).toNat) api_Pair.z).Key)).bind fun v6 =>
          if v6.2 = 0 then
            (splicelaw20_awake).bind fun v7 =>
            if v7 = true then
              (merkle_Verify (merkle_Tree_Root v2) ((a0.getD ((Int.tmod (IntKind.wrap .i64 ((Int.tmod a1 (a0.length : Int)) + (a0.length : Int))) (a0.length : Int)).toNat) api_Pair.z).Key) (⟨v5, true⟩ : api_Cell) v6.1).bind fun v8 =>
              splicelaw20_MerkleForged.j3 (v8 == (v5 == ((a0.getD ((Int.tmod (IntKind.wrap .i64 ((Int.tmod a1 (a0.length : Int)) + (a0.length : Int))) (a0.length : Int)).toNat) api_Pair.z).Val)))
            else
              splicelaw20_MerkleForged.j3 false
          else
            some false
        else none
      else none
    else none

noncomputable def splicelaw20_MerkleForged.j1 : Option Bool :=
  (splicelaw20_awake).bind fun v3 =>
  some v3

noncomputable def splicelaw20_MerkleForged (a0 : List api_Pair) (a1 : Int) (a2 : splicelaw20_Bits) : Option Bool :=
  (merkle_New a0).bind fun v1 =>
  optE v1.1 (
    if (splicelaw20_few a0) = true then
      if v1.2 = 0 then
        splicelaw20_MerkleForged.j1
      else
        splicelaw20_MerkleForged.j1
    else
      splicelaw20_MerkleForged.j1) fun (v2 : merkle_Tree) =>
  if (splicelaw20_few a0) = true then
    if v1.2 = 0 then
      splicelaw20_MerkleForged.j2 a0 a1 a2 v2 ((a0.length : Int) == 0)
    else
      splicelaw20_MerkleForged.j2 a0 a1 a2 v2 true
  else
    splicelaw20_MerkleForged.j2 a0 a1 a2 v2 true

inductive spliceref20_Prove.S where
  | l1 (x1_1 : Int) (x1_6 : Int) (x1_r0 : List Int)
  | l2 (v1 : Int) (x2_1 : Int) (x2_6 : Int) (x2_8 : Int) (x2_r0 : List Int)

noncomputable def spliceref20_Prove.j1 (x2_1 : Int) (x2_6 : Int) (x2_8 : Int) (v1 : Int) (y1_r0 : List Int) : Option (spliceref20_Prove.S ⊕ (List Int)) :=
  some (.inl (.l2 v1 x2_1 x2_6 (IntKind.wrap .i64 (x2_8 + 1)) y1_r0))

noncomputable def spliceref20_Prove.l1 (x1_1 : Int) (x1_6 : Int) (x1_r0 : List Int) : Option (spliceref20_Prove.S ⊕ (List Int)) :=
  if x1_6 < 3 then
    bnd (IntKind.wrap .i64 ((IntKind.wrap .i64 (Int.tdiv x1_1 16)) * 16)) fun (v1 : Int) =>
    some (.inl (.l2 v1 x1_1 x1_6 v1 x1_r0))
  else
    some (.inr x1_r0)

noncomputable def spliceref20_Prove.l2 (a0 : List (List Int)) (v1 : Int) (x2_1 : Int) (x2_6 : Int) (x2_8 : Int) (x2_r0 : List Int) : Option (spliceref20_Prove.S ⊕ (List Int)) :=
  if x2_8 < (IntKind.wrap .i64 (v1 + 16)) then
    if x2_8 = x2_1 then
      spliceref20_Prove.j1 x2_1 x2_6 x2_8 v1 x2_r0
    else
      if 0 ≤ x2_6 ∧ x2_6 < (a0.length : Int) then
        if 0 ≤ x2_8 ∧ x2_8 < ((a0.getD x2_6.toNat []).length : Int) then
          if (x2_r0.length + 1) * 4 ≤ 140737488355328 then
            spliceref20_Prove.j1 x2_1 x2_6 x2_8 v1 (x2_r0 ++ [(a0.getD x2_6.toNat []).getD x2_8.toNat 0])
          else none
        else none
      else none
  else
    some (.inl (.l1 (IntKind.wrap .i64 (Int.tdiv x2_1 16)) (IntKind.wrap .i64 (x2_6 + 1)) x2_r0))

noncomputable def spliceref20_Prove.step (a0 : List (List Int)) : spliceref20_Prove.S → Option (spliceref20_Prove.S ⊕ (List Int))
  | .l1 x1_1 x1_6 x1_r0 => spliceref20_Prove.l1 x1_1 x1_6 x1_r0
  | .l2 v1 x2_1 x2_6 x2_8 x2_r0 => spliceref20_Prove.l2 a0 v1 x2_1 x2_6 x2_8 x2_r0

noncomputable def spliceref20_Prove (a0 : List (List Int)) (a1 : Int) : Option (List Int) :=
  goLoop (spliceref20_Prove.step a0) (.l1 a1 0 ([] : List Int))

inductive spliceref20_Verify.S where
  | l1 (x1_1 : Int) (x1_9 : Int) (x1_10 : Int)
  | l2 (x2_1 : Int) (x2_9 : Int) (x2_10 : Int) (x2_12 : Int) (x2_13 : Int) (x2_r0 : List Int)

noncomputable def spliceref20_Verify.j2 (x2_1 : Int) (x2_9 : Int) (x2_10 : Int) (x2_13 : Int) (y2_12 : Int) (y2_r0 : List Int) : Option (spliceref20_Verify.S ⊕ Bool) :=
  some (.inl (.l2 x2_1 x2_9 x2_10 y2_12 (IntKind.wrap .i64 (x2_13 + 1)) y2_r0))

noncomputable def spliceref20_Verify.l1 (a0 : Int) (x1_1 : Int) (x1_9 : Int) (x1_10 : Int) : Option (spliceref20_Verify.S ⊕ Bool) :=
  if x1_10 < 3 then
    some (.inl (.l2 x1_1 x1_9 x1_10 (IntKind.wrap .i64 (15 * x1_10)) 0 ([] : List Int)))
  else
    some (.inr (x1_9 == a0))

noncomputable def spliceref20_Verify.l2 (a3 : List Int) (x2_1 : Int) (x2_9 : Int) (x2_10 : Int) (x2_12 : Int) (x2_13 : Int) (x2_r0 : List Int) : Option (spliceref20_Verify.S ⊕ Bool) :=
  if x2_13 < 16 then
    if x2_13 = (Int.tmod x2_1 16) then
      if (x2_r0.length + 1) * 4 ≤ 140737488355328 then
        spliceref20_Verify.j2 x2_1 x2_9 x2_10 x2_13 x2_12 (x2_r0 ++ [x2_9])
      else none
    else
      if 0 ≤ x2_12 ∧ x2_12 < (a3.length : Int) then
        if (x2_r0.length + 1) * 4 ≤ 140737488355328 then
          spliceref20_Verify.j2 x2_1 x2_9 x2_10 x2_13 (IntKind.wrap .i64 (x2_12 + 1)) (x2_r0 ++ [a3.getD x2_12.toNat 0])
        else none
      else none
  else
    (spliceref20_Over x2_r0).bind fun v2 =>
    some (.inl (.l1 (IntKind.wrap .i64 (Int.tdiv x2_1 16)) v2 (IntKind.wrap .i64 (x2_10 + 1))))

noncomputable def spliceref20_Verify.step (a0 : Int) (a3 : List Int) : spliceref20_Verify.S → Option (spliceref20_Verify.S ⊕ Bool)
  | .l1 x1_1 x1_9 x1_10 => spliceref20_Verify.l1 a0 x1_1 x1_9 x1_10
  | .l2 x2_1 x2_9 x2_10 x2_12 x2_13 x2_r0 => spliceref20_Verify.l2 a3 x2_1 x2_9 x2_10 x2_12 x2_13 x2_r0

noncomputable def spliceref20_Verify.j1 (a0 : Int) (a1 : Int) (a2 : spliceref05_Cell) (a3 : List Int) (y1_24 : Bool) : Option Bool :=
  if y1_24 = true then
    some false
  else
    (spliceref20_Number a2).bind fun v1 =>
    goLoop (spliceref20_Verify.step a0 a3) (.l1 a1 v1 0)

noncomputable def spliceref20_Verify (a0 : Int) (a1 : Int) (a2 : spliceref05_Cell) (a3 : List Int) : Option Bool :=
  if (a3.length : Int) = 45 then
    if a1 < 0 then
      spliceref20_Verify.j1 a0 a1 a2 a3 true
    else
      spliceref20_Verify.j1 a0 a1 a2 a3 (decide (a1 ≥ 4096))
  else
    spliceref20_Verify.j1 a0 a1 a2 a3 true

noncomputable def splicelaw20_MerkleProves.j4 (y4_6 : Bool) : Option Bool :=
  some y4_6

inductive splicelaw20_MerkleProves.S where
  | l1 (x1_13 : Int)

noncomputable def splicelaw20_MerkleProves.j6 (y6_6 : Bool) : Option (splicelaw20_MerkleProves.S ⊕ Bool) :=
  some (.inr y6_6)

noncomputable def splicelaw20_MerkleProves.l1 (a1 : Int) (a2 : List Int) (v2 : merkle_Tree) (v5 : api_Cell) (v6 : (List Int) × Int) (v10 : List Int) (x1_13 : Int) : Option (splicelaw20_MerkleProves.S ⊕ Bool) :=
  if x1_13 < (v6.1.length : Int) then
    if 0 ≤ x1_13 ∧ x1_13 < (v6.1.length : Int) then
      if 0 ≤ x1_13 ∧ x1_13 < (v10.length : Int) then
        if (v6.1.getD x1_13.toNat 0) = (v10.getD x1_13.toNat 0) then
          some (.inl (.l1 (IntKind.wrap .i64 (x1_13 + 1))))
        else
          some (.inr false)
      else none
    else none
  else
    (splicelaw20_awake).bind fun v11 =>
    if v11 = true then
      (merkle_Verify (merkle_Tree_Root v2) a1 v5 v6.1).bind fun v12 =>
      if v12 = true then
        (merkle_Verify (merkle_Tree_Root v2) a1 v5 a2).bind fun v13 =>
        (spliceref20_Verify (merkle_Tree_Root v2) a1 (⟨v5.Val, v5.Some⟩ : spliceref05_Cell) a2).bind fun v14 =>
        splicelaw20_MerkleProves.j6 (v13 == v14)
      else
        splicelaw20_MerkleProves.j6 false
    else
      splicelaw20_MerkleProves.j6 false

noncomputable def splicelaw20_MerkleProves.step (a1 : Int) (a2 : List Int) (v2 : merkle_Tree) (v5 : api_Cell) (v6 : (List Int) × Int) (v10 : List Int) : splicelaw20_MerkleProves.S → Option (splicelaw20_MerkleProves.S ⊕ Bool)
  | .l1 x1_13 => splicelaw20_MerkleProves.l1 a1 a2 v2 v5 v6 v10 x1_13

noncomputable def splicelaw20_MerkleProves.j5 (a1 : Int) (a2 : List Int) (v2 : merkle_Tree) (v5 : api_Cell) (v6 : (List Int) × Int) (v10 : List Int) (y5_82 : Bool) : Option Bool :=
  if y5_82 = true then
    some false
  else
    goLoop (splicelaw20_MerkleProves.step a1 a2 v2 v5 v6 v10) (.l1 0)

noncomputable def splicelaw20_MerkleProves.j3 (a0 : List api_Pair) (a1 : Int) (a2 : List Int) (v2 : merkle_Tree) (v5 : api_Cell) (v6 : (List Int) × Int) (y3_50 : Bool) : Option Bool :=
  if y3_50 = true then
    (splicelaw20_awake).bind fun v7 =>
    if v7 = true then
      if (v6.1.length : Int) = 0 then
        if v6.2 = 1 then
          (merkle_Verify (merkle_Tree_Root v2) a1 v5 a2).bind fun v8 =>
          splicelaw20_MerkleProves.j4 (!v8)
        else
          splicelaw20_MerkleProves.j4 false
      else
        splicelaw20_MerkleProves.j4 false
    else
      splicelaw20_MerkleProves.j4 false
  else
    (splicelaw20_levels a0).bind fun v9 =>
    (spliceref20_Prove v9 a1).bind fun v10 =>
    if v6.2 = 0 then
      splicelaw20_MerkleProves.j5 a1 a2 v2 v5 v6 v10 ((v6.1.length : Int) != (v10.length : Int))
    else
      splicelaw20_MerkleProves.j5 a1 a2 v2 v5 v6 v10 true

noncomputable def splicelaw20_MerkleProves.j2 (a0 : List api_Pair) (a1 : Int) (a2 : List Int) (v2 : merkle_Tree) (y2_34 : Bool) : Option Bool :=
  if y2_34 = true then
    (splicelaw20_awake).bind fun v4 =>
    some v4
  else
    (merkle_Tree_Get v2 a1).bind fun v5 =>
    (merkle_Tree_Prove v2 a1).bind fun v6 =>
    if a1 < 0 then
      splicelaw20_MerkleProves.j3 a0 a1 a2 v2 v5 v6 true
    else
      splicelaw20_MerkleProves.j3 a0 a1 a2 v2 v5 v6 (decide (a1 ≥ 4096))

noncomputable def splicelaw20_MerkleProves.j1 : Option Bool :=
  (splicelaw20_awake).bind fun v3 =>
  some v3

noncomputable def splicelaw20_MerkleProves (a0 : List api_Pair) (a1 : Int) (a2 : List Int) : Option Bool :=
  (merkle_New a0).bind fun v1 =>
  optE v1.1 (
    if (splicelaw20_few a0) = true then
      if v1.2 = 0 then
        splicelaw20_MerkleProves.j1
      else
        splicelaw20_MerkleProves.j1
    else
      splicelaw20_MerkleProves.j1) fun (v2 : merkle_Tree) =>
  if (splicelaw20_few a0) = true then
    if v1.2 = 0 then
      splicelaw20_MerkleProves.j2 a0 a1 a2 v2 (decide ((a2.length : Int) > 100))
    else
      splicelaw20_MerkleProves.j2 a0 a1 a2 v2 true
  else
    splicelaw20_MerkleProves.j2 a0 a1 a2 v2 true
end Go.SyP
