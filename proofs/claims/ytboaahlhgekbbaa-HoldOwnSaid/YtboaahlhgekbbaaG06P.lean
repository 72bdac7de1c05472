/- Plain functions, printed by gen.py. -/
import Derived.Test.YtboaahlhgekbbaaSyObj
set_option linter.unusedVariables false
namespace Go.SyP
open Go Go.Sy

structure hold_items where
  l : List Nat
def hold_items.z : hold_items := ⟨[]⟩
structure hold_Queue where
  h : hold_items
def hold_Queue.z : hold_Queue := ⟨hold_items.z⟩
structure api_Pair where
  Key : Int
  Val : Int
def api_Pair.z : api_Pair := ⟨0, 0⟩
structure api_Span where
  Lo : Int
  Hi : Int
def api_Span.z : api_Span := ⟨0, 0⟩
structure api_Mut where
  Client : Int
  Seq : Int
  Kind : Int
  Pairs : List api_Pair
  Over : api_Span
  Old : Int
def api_Mut.z : api_Mut := ⟨0, 0, 0, [], api_Span.z, 0⟩
structure api_Held where
  M : api_Mut
  Time : Int
  Final : Bool
def api_Held.z : api_Held := ⟨api_Mut.z, 0, false⟩
structure hold_item where
  h : api_Held
  at_ : Int
def hold_item.z : hold_item := ⟨api_Held.z, 0⟩
structure api_Stamp where
  Time : Int
  Client : Int
  Seq : Int
def api_Stamp.z : api_Stamp := ⟨0, 0, 0⟩
structure splicelaw06_Come where
  M : api_Mut
  More : Int
  Add : Bool
def splicelaw06_Come.z : splicelaw06_Come := ⟨api_Mut.z, 0, false⟩
structure spliceref04_Pair where
  Key : Int
  Val : Int
def spliceref04_Pair.z : spliceref04_Pair := ⟨0, 0⟩
structure spliceref03_Span where
  Lo : Int
  Hi : Int
def spliceref03_Span.z : spliceref03_Span := ⟨0, 0⟩
structure spliceref04_Mut where
  Client : Int
  Seq : Int
  Kind : Int
  Pairs : List spliceref04_Pair
  Over : spliceref03_Span
  Old : Int
def spliceref04_Mut.z : spliceref04_Mut := ⟨0, 0, 0, [], spliceref03_Span.z, 0⟩
structure spliceref06_Held where
  M : spliceref04_Mut
  Time : Int
  Final : Bool
def spliceref06_Held.z : spliceref06_Held := ⟨spliceref04_Mut.z, 0, false⟩
structure splicelaw06_Act where
  Kind : Int
  H : api_Held
def splicelaw06_Act.z : splicelaw06_Act := ⟨0, api_Held.z⟩
structure spliceref04_Stamp where
  Time : Int
  Client : Int
  Seq : Int
def spliceref04_Stamp.z : spliceref04_Stamp := ⟨0, 0, 0⟩

inductive hold_Queue_find.S where
  | l1 (x1_17 : Int)

noncomputable def hold_Queue_find.j1 (a0 : hold_Queue) (x1_17 : Int) (y1_38 : Bool) : Option (hold_Queue_find.S ⊕ ((Option Nat) × hold_Queue)) :=
  if y1_38 = true then
    some (.inr (some (a0.h.l.getD x1_17.toNat 0), (⟨(⟨a0.h.l⟩ : hold_items)⟩ : hold_Queue)))
  else
    some (.inl (.l1 (IntKind.wrap .i64 (x1_17 + 1))))

noncomputable def hold_Queue_find.l1 (a0 : hold_Queue) (a1 : Int) (a2 : Int) (dom : List Nat) (M : Nat → hold_item) (x1_17 : Int) : Option (hold_Queue_find.S ⊕ ((Option Nat) × hold_Queue)) :=
  if x1_17 < (a0.h.l.length : Int) then
    if 0 ≤ x1_17 ∧ x1_17 < (a0.h.l.length : Int) then
      if (a0.h.l.getD x1_17.toNat 0) ∈ dom then
        if ((((M (a0.h.l.getD x1_17.toNat 0)).h).M).Client) = a1 then
          hold_Queue_find.j1 a0 x1_17 (((((M (a0.h.l.getD x1_17.toNat 0)).h).M).Seq) == a2)
        else
          hold_Queue_find.j1 a0 x1_17 false
      else none
    else none
  else
    some (.inr (none, (⟨(⟨a0.h.l⟩ : hold_items)⟩ : hold_Queue)))

noncomputable def hold_Queue_find.step (a0 : hold_Queue) (a1 : Int) (a2 : Int) (dom : List Nat) (M : Nat → hold_item) : hold_Queue_find.S → Option (hold_Queue_find.S ⊕ ((Option Nat) × hold_Queue))
  | .l1 x1_17 => hold_Queue_find.l1 a0 a1 a2 dom M x1_17

noncomputable def hold_Queue_find (a0 : hold_Queue) (a1 : Int) (a2 : Int) (dom : List Nat) (M : Nat → hold_item) : Option ((Option Nat) × hold_Queue) :=
  goLoop (hold_Queue_find.step a0 a1 a2 dom M) (.l1 0)

noncomputable def hold_timed.j1 (y1_2 : Bool) : Bool :=
  y1_2

noncomputable def hold_timed (a0 : Int) : Bool :=
  if a0 ≥ 0 then
    hold_timed.j1 (decide (a0 ≤ 1099511627775))
  else
    hold_timed.j1 false

noncomputable def hold_items_Len (a0 : hold_Queue) (dom : List Nat) (M : Nat → hold_item) : Int × hold_Queue :=
  ((a0.h.l.length : Int), (⟨(⟨a0.h.l⟩ : hold_items)⟩ : hold_Queue))

noncomputable def mut_Stamp (a0 : Int) (a1 : api_Mut) : api_Stamp :=
  (⟨a0, a1.Client, a1.Seq⟩ : api_Stamp)

noncomputable def hold_item_stamp (a0 : Nat) (dom : List Nat) (M : Nat → hold_item) : Option api_Stamp :=
  if a0 ∈ dom then
    bnd (mut_Stamp (((M a0).h).Time) (⟨(((M a0).h).M).Client, (((M a0).h).M).Seq, (((M a0).h).M).Kind, (((M a0).h).M).Pairs, (⟨((((M a0).h).M).Over).Lo, ((((M a0).h).M).Over).Hi⟩ : api_Span), (((M a0).h).M).Old⟩ : api_Mut)) fun (v1 : api_Stamp) =>
    some v1
  else none

noncomputable def cmp_isNaN_int (a0 : Int) : Bool :=
  (a0 != a0)

noncomputable def cmp_Compare_int (a0 : Int) (a1 : Int) : Int :=
  if (cmp_isNaN_int a0) = true then
    if (cmp_isNaN_int a1) = true then
      0
    else
      (-1)
  else
    if (cmp_isNaN_int a1) = true then
      1
    else
      if a0 < a1 then
        (-1)
      else
        if a0 > a1 then
          1
        else
          0

inductive cmp_Or_int.S where
  | l1 (x1_8 : Int)

noncomputable def cmp_Or_int.l1 (a0 : List Int) (x1_8 : Int) : Option (cmp_Or_int.S ⊕ Int) :=
  if x1_8 < (a0.length : Int) then
    if 0 ≤ x1_8 ∧ x1_8 < (a0.length : Int) then
      if (a0.getD x1_8.toNat 0) = 0 then
        some (.inl (.l1 (IntKind.wrap .i64 (x1_8 + 1))))
      else
        some (.inr (a0.getD x1_8.toNat 0))
    else none
  else
    some (.inr 0)

noncomputable def cmp_Or_int.step (a0 : List Int) : cmp_Or_int.S → Option (cmp_Or_int.S ⊕ Int)
  | .l1 x1_8 => cmp_Or_int.l1 a0 x1_8

noncomputable def cmp_Or_int (a0 : List Int) : Option Int :=
  goLoop (cmp_Or_int.step a0) (.l1 0)

noncomputable def mut_Compare (a0 : api_Stamp) (a1 : api_Stamp) : Option Int :=
  (cmp_Or_int ([cmp_Compare_int a0.Time a1.Time, cmp_Compare_int a0.Client a1.Client, cmp_Compare_int a0.Seq a1.Seq] : List Int)).bind fun v1 =>
  some v1

noncomputable def hold_items_Less (a0 : hold_Queue) (a1 : Int) (a2 : Int) (dom : List Nat) (M : Nat → hold_item) : Option (Bool × hold_Queue) :=
  if 0 ≤ a1 ∧ a1 < (a0.h.l.length : Int) then
    (hold_item_stamp (a0.h.l.getD a1.toNat 0) dom M).bind fun v1 =>
    if 0 ≤ a2 ∧ a2 < (a0.h.l.length : Int) then
      (hold_item_stamp (a0.h.l.getD a2.toNat 0) dom M).bind fun v2 =>
      (mut_Compare v1 v2).bind fun v3 =>
      some (decide (v3 < 0), (⟨(⟨a0.h.l⟩ : hold_items)⟩ : hold_Queue))
    else none
  else none

noncomputable def hold_items_Swap (a0 : hold_Queue) (a1 : Int) (a2 : Int) (dom : List Nat) (M : Nat → hold_item) : Option (hold_Queue × (Nat → hold_item)) :=
  if 0 ≤ a2 ∧ a2 < (a0.h.l.length : Int) then
    if 0 ≤ a1 ∧ a1 < (a0.h.l.length : Int) then
      bnd (a0.h.l.set a1.toNat (a0.h.l.getD a2.toNat 0)) fun (v1 : List Nat) =>
      if 0 ≤ a2 ∧ a2 < (v1.length : Int) then
        if 0 ≤ a1 ∧ a1 < ((v1.set a2.toNat (a0.h.l.getD a1.toNat 0)).length : Int) then
          if 0 ≤ a2 ∧ a2 < ((v1.set a2.toNat (a0.h.l.getD a1.toNat 0)).length : Int) then
            if ((v1.set a2.toNat (a0.h.l.getD a1.toNat 0)).getD a1.toNat 0) ∈ dom then
              bnd (upd M ((v1.set a2.toNat (a0.h.l.getD a1.toNat 0)).getD a1.toNat 0) (⟨(⟨(⟨(((M ((v1.set a2.toNat (a0.h.l.getD a1.toNat 0)).getD a1.toNat 0)).h).M).Client, (((M ((v1.set a2.toNat (a0.h.l.getD a1.toNat 0)).getD a1.toNat 0)).h).M).Seq, (((M ((v1.set a2.toNat (a0.h.l.getD a1.toNat 0)).getD a1.toNat 0)).h).M).Kind, (((M ((v1.set a2.toNat (a0.h.l.getD a1.toNat 0)).getD a1.toNat 0)).h).M).Pairs, (⟨((((M ((v1.set a2.toNat (a0.h.l.getD a1.toNat 0)).getD a1.toNat 0)).h).M).Over).Lo, ((((M ((v1.set a2.toNat (a0.h.l.getD a1.toNat 0)).getD a1.toNat 0)).h).M).Over).Hi⟩ : api_Span), (((M ((v1.set a2.toNat (a0.h.l.getD a1.toNat 0)).getD a1.toNat 0)).h).M).Old⟩ : api_Mut), ((M ((v1.set a2.toNat (a0.h.l.getD a1.toNat 0)).getD a1.toNat 0)).h).Time, ((M ((v1.set a2.toNat (a0.h.l.getD a1.toNat 0)).getD a1.toNat 0)).h).Final⟩ : api_Held), a1⟩ : hold_item)) fun (v2 : Nat → hold_item) =>
              if ((v1.set a2.toNat (a0.h.l.getD a1.toNat 0)).getD a2.toNat 0) ∈ dom then
                bnd (upd v2 ((v1.set a2.toNat (a0.h.l.getD a1.toNat 0)).getD a2.toNat 0) (⟨(⟨(⟨(((v2 ((v1.set a2.toNat (a0.h.l.getD a1.toNat 0)).getD a2.toNat 0)).h).M).Client, (((v2 ((v1.set a2.toNat (a0.h.l.getD a1.toNat 0)).getD a2.toNat 0)).h).M).Seq, (((v2 ((v1.set a2.toNat (a0.h.l.getD a1.toNat 0)).getD a2.toNat 0)).h).M).Kind, (((v2 ((v1.set a2.toNat (a0.h.l.getD a1.toNat 0)).getD a2.toNat 0)).h).M).Pairs, (⟨((((v2 ((v1.set a2.toNat (a0.h.l.getD a1.toNat 0)).getD a2.toNat 0)).h).M).Over).Lo, ((((v2 ((v1.set a2.toNat (a0.h.l.getD a1.toNat 0)).getD a2.toNat 0)).h).M).Over).Hi⟩ : api_Span), (((v2 ((v1.set a2.toNat (a0.h.l.getD a1.toNat 0)).getD a2.toNat 0)).h).M).Old⟩ : api_Mut), ((v2 ((v1.set a2.toNat (a0.h.l.getD a1.toNat 0)).getD a2.toNat 0)).h).Time, ((v2 ((v1.set a2.toNat (a0.h.l.getD a1.toNat 0)).getD a2.toNat 0)).h).Final⟩ : api_Held), a2⟩ : hold_item)) fun (v3 : Nat → hold_item) =>
                some ((⟨(⟨v1.set a2.toNat (a0.h.l.getD a1.toNat 0)⟩ : hold_items)⟩ : hold_Queue), v3)
              else none
            else none
          else none
        else none
      else none
    else none
  else none

inductive heap_down_i92.S where
  | l1 (x1_7 : Int) (x1_r2 : Nat → hold_item) (x1_r3 : List Nat)

noncomputable def heap_down_i92.j3 (a1 : Int) (dom : List Nat) (x1_7 : Int) (x1_r2 : Nat → hold_item) (y2_r3 : List Nat) (y3_9 : Int) : Option (heap_down_i92.S ⊕ (Bool × hold_Queue × (Nat → hold_item))) :=
  (hold_items_Less (⟨(⟨y2_r3⟩ : hold_items)⟩ : hold_Queue) y3_9 x1_7 dom x1_r2).bind fun v3 =>
  if v3.1 = true then
    (hold_items_Swap (⟨(⟨v3.2.h.l⟩ : hold_items)⟩ : hold_Queue) x1_7 y3_9 dom x1_r2).bind fun v4 =>
    some (.inl (.l1 y3_9 v4.2 v4.1.h.l))
  else
    some (.inr (decide (x1_7 > a1), (⟨(⟨v3.2.h.l⟩ : hold_items)⟩ : hold_Queue), x1_r2))

noncomputable def heap_down_i92.j2 (a1 : Int) (dom : List Nat) (x1_7 : Int) (x1_r2 : Nat → hold_item) (v1 : Int) (y2_33 : Bool) (y2_r3 : List Nat) : Option (heap_down_i92.S ⊕ (Bool × hold_Queue × (Nat → hold_item))) :=
  if y2_33 = true then
    heap_down_i92.j3 a1 dom x1_7 x1_r2 y2_r3 v1
  else
    heap_down_i92.j3 a1 dom x1_7 x1_r2 y2_r3 (IntKind.wrap .i64 ((IntKind.wrap .i64 (2 * x1_7)) + 1))

noncomputable def heap_down_i92.j1 (a1 : Int) (a2 : Int) (dom : List Nat) (x1_7 : Int) (x1_r2 : Nat → hold_item) (x1_r3 : List Nat) (y1_21 : Bool) : Option (heap_down_i92.S ⊕ (Bool × hold_Queue × (Nat → hold_item))) :=
  if y1_21 = true then
    some (.inr (decide (x1_7 > a1), (⟨(⟨x1_r3⟩ : hold_items)⟩ : hold_Queue), x1_r2))
  else
    bnd (IntKind.wrap .i64 ((IntKind.wrap .i64 ((IntKind.wrap .i64 (2 * x1_7)) + 1)) + 1)) fun (v1 : Int) =>
    if v1 < a2 then
      (hold_items_Less (⟨(⟨x1_r3⟩ : hold_items)⟩ : hold_Queue) v1 (IntKind.wrap .i64 ((IntKind.wrap .i64 (2 * x1_7)) + 1)) dom x1_r2).bind fun v2 =>
      heap_down_i92.j2 a1 dom x1_7 x1_r2 v1 v2.1 v2.2.h.l
    else
      heap_down_i92.j2 a1 dom x1_7 x1_r2 v1 false x1_r3

noncomputable def heap_down_i92.l1 (a1 : Int) (a2 : Int) (dom : List Nat) (x1_7 : Int) (x1_r2 : Nat → hold_item) (x1_r3 : List Nat) : Option (heap_down_i92.S ⊕ (Bool × hold_Queue × (Nat → hold_item))) :=
  if (IntKind.wrap .i64 ((IntKind.wrap .i64 (2 * x1_7)) + 1)) ≥ a2 then
    heap_down_i92.j1 a1 a2 dom x1_7 x1_r2 x1_r3 true
  else
    heap_down_i92.j1 a1 a2 dom x1_7 x1_r2 x1_r3 (decide ((IntKind.wrap .i64 ((IntKind.wrap .i64 (2 * x1_7)) + 1)) < 0))

noncomputable def heap_down_i92.step (a1 : Int) (a2 : Int) (dom : List Nat) : heap_down_i92.S → Option (heap_down_i92.S ⊕ (Bool × hold_Queue × (Nat → hold_item)))
  | .l1 x1_7 x1_r2 x1_r3 => heap_down_i92.l1 a1 a2 dom x1_7 x1_r2 x1_r3

noncomputable def heap_down_i92 (a0 : hold_Queue) (a1 : Int) (a2 : Int) (dom : List Nat) (M : Nat → hold_item) : Option (Bool × hold_Queue × (Nat → hold_item)) :=
  goLoop (heap_down_i92.step a1 a2 dom) (.l1 a1 M a0.h.l)

inductive heap_up_i92.S where
  | l1 (x1_1 : Int) (x1_r2 : Nat → hold_item) (x1_r3 : List Nat)

noncomputable def heap_up_i92.j1 (dom : List Nat) (x1_1 : Int) (x1_r2 : Nat → hold_item) (v1 : Int) (y1_17 : Bool) (y1_r3 : List Nat) : Option (heap_up_i92.S ⊕ (hold_Queue × (Nat → hold_item))) :=
  if y1_17 = true then
    some (.inr ((⟨(⟨y1_r3⟩ : hold_items)⟩ : hold_Queue), x1_r2))
  else
    (hold_items_Swap (⟨(⟨y1_r3⟩ : hold_items)⟩ : hold_Queue) v1 x1_1 dom x1_r2).bind fun v3 =>
    some (.inl (.l1 v1 v3.2 v3.1.h.l))

noncomputable def heap_up_i92.l1 (dom : List Nat) (x1_1 : Int) (x1_r2 : Nat → hold_item) (x1_r3 : List Nat) : Option (heap_up_i92.S ⊕ (hold_Queue × (Nat → hold_item))) :=
  bnd (IntKind.wrap .i64 (Int.tdiv (IntKind.wrap .i64 (x1_1 - 1)) 2)) fun (v1 : Int) =>
  if v1 = x1_1 then
    heap_up_i92.j1 dom x1_1 x1_r2 v1 true x1_r3
  else
    (hold_items_Less (⟨(⟨x1_r3⟩ : hold_items)⟩ : hold_Queue) x1_1 v1 dom x1_r2).bind fun v2 =>
    heap_up_i92.j1 dom x1_1 x1_r2 v1 (!v2.1) v2.2.h.l

noncomputable def heap_up_i92.step (dom : List Nat) : heap_up_i92.S → Option (heap_up_i92.S ⊕ (hold_Queue × (Nat → hold_item)))
  | .l1 x1_1 x1_r2 x1_r3 => heap_up_i92.l1 dom x1_1 x1_r2 x1_r3

noncomputable def heap_up_i92 (a0 : hold_Queue) (a1 : Int) (dom : List Nat) (M : Nat → hold_item) : Option (hold_Queue × (Nat → hold_item)) :=
  goLoop (heap_up_i92.step dom) (.l1 a1 M a0.h.l)

noncomputable def heap_Fix_i92.j1 (y1_r2 : Nat → hold_item) (y1_r3 : List Nat) : Option (hold_Queue × (Nat → hold_item)) :=
  some ((⟨(⟨y1_r3⟩ : hold_items)⟩ : hold_Queue), y1_r2)

noncomputable def heap_Fix_i92 (a0 : hold_Queue) (a1 : Int) (dom : List Nat) (M : Nat → hold_item) : Option (hold_Queue × (Nat → hold_item)) :=
  bnd (hold_items_Len (⟨(⟨a0.h.l⟩ : hold_items)⟩ : hold_Queue) dom M) fun (v1 : Int × hold_Queue) =>
  (heap_down_i92 (⟨(⟨((v1.2).h).l⟩ : hold_items)⟩ : hold_Queue) a1 v1.1 dom M).bind fun v2 =>
  if v2.1 = true then
    heap_Fix_i92.j1 v2.2.2 v2.2.1.h.l
  else
    (heap_up_i92 (⟨(⟨v2.2.1.h.l⟩ : hold_items)⟩ : hold_Queue) a1 dom v2.2.2).bind fun v3 =>
    heap_Fix_i92.j1 v3.2 v3.1.h.l

noncomputable def hold_Queue_Final.j1 (a3 : Int) (dom : List Nat) (M : Nat → hold_item) (v1 : (Option Nat) × hold_Queue) (v2 : Nat) (y1_25 : Bool) : Option (Int × hold_Queue × (Nat → hold_item)) :=
  if y1_25 = true then
    some (1, (⟨(⟨v1.2.h.l⟩ : hold_items)⟩ : hold_Queue), M)
  else
    bnd (upd M v2 (⟨(⟨(⟨(((M v2).h).M).Client, (((M v2).h).M).Seq, (((M v2).h).M).Kind, (((M v2).h).M).Pairs, (⟨((((M v2).h).M).Over).Lo, ((((M v2).h).M).Over).Hi⟩ : api_Span), (((M v2).h).M).Old⟩ : api_Mut), a3, ((M v2).h).Final⟩ : api_Held), (M v2).at_⟩ : hold_item)) fun (v3 : Nat → hold_item) =>
    bnd (upd v3 v2 (⟨(⟨(⟨(((v3 v2).h).M).Client, (((v3 v2).h).M).Seq, (((v3 v2).h).M).Kind, (((v3 v2).h).M).Pairs, (⟨((((v3 v2).h).M).Over).Lo, ((((v3 v2).h).M).Over).Hi⟩ : api_Span), (((v3 v2).h).M).Old⟩ : api_Mut), ((v3 v2).h).Time, true⟩ : api_Held), (v3 v2).at_⟩ : hold_item)) fun (v4 : Nat → hold_item) =>
    (heap_Fix_i92 (⟨(⟨v1.2.h.l⟩ : hold_items)⟩ : hold_Queue) ((v4 v2).at_) dom v4).bind fun v5 =>
    some (0, (⟨(⟨v5.1.h.l⟩ : hold_items)⟩ : hold_Queue), v5.2)

noncomputable def hold_Queue_Final (a0 : hold_Queue) (a1 : Int) (a2 : Int) (a3 : Int) (dom : List Nat) (M : Nat → hold_item) : Option (Int × hold_Queue × (Nat → hold_item)) :=
  (hold_Queue_find (⟨(⟨a0.h.l⟩ : hold_items)⟩ : hold_Queue) a1 a2 dom M).bind fun v1 =>
  optE v1.1 (
    some (4, (⟨(⟨v1.2.h.l⟩ : hold_items)⟩ : hold_Queue), M)) fun (v2 : Nat) =>
  if v2 ∈ dom then
    if (((M v2).h).Final) = true then
      some (7, (⟨(⟨v1.2.h.l⟩ : hold_items)⟩ : hold_Queue), M)
    else
      if a3 < (((M v2).h).Time) then
        hold_Queue_Final.j1 a3 dom M v1 v2 true
      else
        hold_Queue_Final.j1 a3 dom M v1 v2 (!(hold_timed a3))
  else none

noncomputable def hold_items_Pop (a0 : hold_Queue) (dom : List Nat) (M : Nat → hold_item) : Option (Nat × hold_Queue) :=
  if 0 ≤ (IntKind.wrap .i64 ((a0.h.l.length : Int) - 1)) ∧ (IntKind.wrap .i64 ((a0.h.l.length : Int) - 1)) < (a0.h.l.length : Int) then
    if 0 ≤ (IntKind.wrap .i64 ((a0.h.l.length : Int) - 1)) ∧ (IntKind.wrap .i64 ((a0.h.l.length : Int) - 1)) ≤ (a0.h.l.length : Int) then
      some (a0.h.l.getD ((IntKind.wrap .i64 ((a0.h.l.length : Int) - 1)).toNat) 0, (⟨(⟨a0.h.l.take (IntKind.wrap .i64 ((a0.h.l.length : Int) - 1)).toNat⟩ : hold_items)⟩ : hold_Queue))
    else none
  else none

noncomputable def heap_Remove_i92.j1 (dom : List Nat) (y1_r2 : Nat → hold_item) (y1_r3 : List Nat) : Option (Nat × hold_Queue × (Nat → hold_item)) :=
  (hold_items_Pop (⟨(⟨y1_r3⟩ : hold_items)⟩ : hold_Queue) dom y1_r2).bind fun v5 =>
  some (v5.1, (⟨(⟨v5.2.h.l⟩ : hold_items)⟩ : hold_Queue), y1_r2)

noncomputable def heap_Remove_i92 (a0 : hold_Queue) (a1 : Int) (dom : List Nat) (M : Nat → hold_item) : Option (Nat × hold_Queue × (Nat → hold_item)) :=
  bnd (hold_items_Len (⟨(⟨a0.h.l⟩ : hold_items)⟩ : hold_Queue) dom M) fun (v1 : Int × hold_Queue) =>
  if (IntKind.wrap .i64 (v1.1 - 1)) = a1 then
    heap_Remove_i92.j1 dom M (((v1.2).h).l)
  else
    (hold_items_Swap (⟨(⟨((v1.2).h).l⟩ : hold_items)⟩ : hold_Queue) a1 (IntKind.wrap .i64 (v1.1 - 1)) dom M).bind fun v2 =>
    (heap_down_i92 (⟨(⟨v2.1.h.l⟩ : hold_items)⟩ : hold_Queue) a1 (IntKind.wrap .i64 (v1.1 - 1)) dom v2.2).bind fun v3 =>
    if v3.1 = true then
      heap_Remove_i92.j1 dom v3.2.2 v3.2.1.h.l
    else
      (heap_up_i92 (⟨(⟨v3.2.1.h.l⟩ : hold_items)⟩ : hold_Queue) a1 dom v3.2.2).bind fun v4 =>
      heap_Remove_i92.j1 dom v4.2 v4.1.h.l

noncomputable def hold_Queue_Drop (a0 : hold_Queue) (a1 : Int) (a2 : Int) (dom : List Nat) (M : Nat → hold_item) : Option (Int × hold_Queue × (Nat → hold_item)) :=
  (hold_Queue_find (⟨(⟨a0.h.l⟩ : hold_items)⟩ : hold_Queue) a1 a2 dom M).bind fun v1 =>
  optE v1.1 (
    some (4, (⟨(⟨v1.2.h.l⟩ : hold_items)⟩ : hold_Queue), M)) fun (v2 : Nat) =>
  if v2 ∈ dom then
    (heap_Remove_i92 (⟨(⟨v1.2.h.l⟩ : hold_items)⟩ : hold_Queue) ((M v2).at_) dom M).bind fun v3 =>
    some (0, (⟨(⟨v3.2.1.h.l⟩ : hold_items)⟩ : hold_Queue), v3.2.2)
  else none

noncomputable def hold_Queue_Len (a0 : hold_Queue) (dom : List Nat) (M : Nat → hold_item) : Int × hold_Queue :=
  ((a0.h.l.length : Int), (⟨(⟨a0.h.l⟩ : hold_items)⟩ : hold_Queue))

noncomputable def heap_Pop_i92 (a0 : hold_Queue) (dom : List Nat) (M : Nat → hold_item) : Option (Nat × hold_Queue × (Nat → hold_item)) :=
  bnd (hold_items_Len (⟨(⟨a0.h.l⟩ : hold_items)⟩ : hold_Queue) dom M) fun (v1 : Int × hold_Queue) =>
  (hold_items_Swap (⟨(⟨((v1.2).h).l⟩ : hold_items)⟩ : hold_Queue) 0 (IntKind.wrap .i64 (v1.1 - 1)) dom M).bind fun v2 =>
  (heap_down_i92 (⟨(⟨v2.1.h.l⟩ : hold_items)⟩ : hold_Queue) 0 (IntKind.wrap .i64 (v1.1 - 1)) dom v2.2).bind fun v3 =>
  (hold_items_Pop (⟨(⟨v3.2.1.h.l⟩ : hold_items)⟩ : hold_Queue) dom v3.2.2).bind fun v4 =>
  some (v4.1, (⟨(⟨v4.2.h.l⟩ : hold_items)⟩ : hold_Queue), v3.2.2)

noncomputable def hold_Queue_Pop.j1 (dom : List Nat) (M : Nat → hold_item) (v1 : Int × hold_Queue) (y1_22 : Bool) : Option (api_Held × Bool × hold_Queue × (Nat → hold_item)) :=
  if y1_22 = true then
    some ((⟨(⟨0, 0, 0, ([] : List api_Pair), (⟨0, 0⟩ : api_Span), 0⟩ : api_Mut), 0, false⟩ : api_Held), false, (⟨(⟨((v1.2).h).l⟩ : hold_items)⟩ : hold_Queue), M)
  else
    (heap_Pop_i92 (⟨(⟨((v1.2).h).l⟩ : hold_items)⟩ : hold_Queue) dom M).bind fun v2 =>
    if v2.1 ∈ dom then
      some ((⟨(⟨(((v2.2.2 v2.1).h).M).Client, (((v2.2.2 v2.1).h).M).Seq, (((v2.2.2 v2.1).h).M).Kind, (((v2.2.2 v2.1).h).M).Pairs, (⟨((((v2.2.2 v2.1).h).M).Over).Lo, ((((v2.2.2 v2.1).h).M).Over).Hi⟩ : api_Span), (((v2.2.2 v2.1).h).M).Old⟩ : api_Mut), ((v2.2.2 v2.1).h).Time, ((v2.2.2 v2.1).h).Final⟩ : api_Held), true, (⟨(⟨v2.2.1.h.l⟩ : hold_items)⟩ : hold_Queue), v2.2.2)
    else none

noncomputable def hold_Queue_Pop (a0 : hold_Queue) (dom : List Nat) (M : Nat → hold_item) : Option (api_Held × Bool × hold_Queue × (Nat → hold_item)) :=
  bnd (hold_Queue_Len (⟨(⟨a0.h.l⟩ : hold_items)⟩ : hold_Queue) dom M) fun (v1 : Int × hold_Queue) =>
  if v1.1 = 0 then
    hold_Queue_Pop.j1 dom M v1 true
  else
    if (0 : Int) ≤ 0 ∧ 0 < ((((v1.2).h).l).length : Int) then
      if ((((v1.2).h).l).getD 0 0) ∈ dom then
        hold_Queue_Pop.j1 dom M v1 (!(((M ((((v1.2).h).l).getD 0 0)).h).Final))
      else none
    else none

noncomputable def hold_own (a0 : api_Held) : Option api_Held :=
  if a0.M.Pairs.length * 16 ≤ 140737488355328 then
    some a0
  else none

noncomputable def hold_Queue_Find (a0 : hold_Queue) (a1 : Int) (a2 : Int) (dom : List Nat) (M : Nat → hold_item) : Option (api_Held × Bool × hold_Queue) :=
  (hold_Queue_find (⟨(⟨a0.h.l⟩ : hold_items)⟩ : hold_Queue) a1 a2 dom M).bind fun v1 =>
  optE v1.1 (
    some ((⟨(⟨0, 0, 0, ([] : List api_Pair), (⟨0, 0⟩ : api_Span), 0⟩ : api_Mut), 0, false⟩ : api_Held), false, (⟨(⟨v1.2.h.l⟩ : hold_items)⟩ : hold_Queue))) fun (v2 : Nat) =>
  if v2 ∈ dom then
    (hold_own ((M v2).h)).bind fun v3 =>
    some (v3, true, (⟨(⟨v1.2.h.l⟩ : hold_items)⟩ : hold_Queue))
  else none

noncomputable def hold_Queue_Floor (a0 : hold_Queue) (a1 : Int) (dom : List Nat) (M : Nat → hold_item) : Option (Int × hold_Queue) :=
  bnd (hold_Queue_Len (⟨(⟨a0.h.l⟩ : hold_items)⟩ : hold_Queue) dom M) fun (v1 : Int × hold_Queue) =>
  if v1.1 = 0 then
    some (a1, (⟨(⟨((v1.2).h).l⟩ : hold_items)⟩ : hold_Queue))
  else
    if (0 : Int) ≤ 0 ∧ 0 < ((((v1.2).h).l).length : Int) then
      if ((((v1.2).h).l).getD 0 0) ∈ dom then
        bnd (IntKind.wrap .i64 ((((M ((((v1.2).h).l).getD 0 0)).h).Time) - 1)) fun (v2 : Int) =>
        some (v2, (⟨(⟨((v1.2).h).l⟩ : hold_items)⟩ : hold_Queue))
      else none
    else none

noncomputable def hold_items_Push_i89 (a0 : hold_Queue) (a1 : Nat) (dom : List Nat) (M : Nat → hold_item) : Option (hold_Queue × (Nat → hold_item)) :=
  if a1 ∈ dom then
    bnd (upd M a1 (⟨(⟨(⟨(((M a1).h).M).Client, (((M a1).h).M).Seq, (((M a1).h).M).Kind, (((M a1).h).M).Pairs, (⟨((((M a1).h).M).Over).Lo, ((((M a1).h).M).Over).Hi⟩ : api_Span), (((M a1).h).M).Old⟩ : api_Mut), ((M a1).h).Time, ((M a1).h).Final⟩ : api_Held), (a0.h.l.length : Int)⟩ : hold_item)) fun (v1 : Nat → hold_item) =>
    if (a0.h.l.length + 1) * 8 ≤ 140737488355328 then
      some ((⟨(⟨a0.h.l ++ [a1]⟩ : hold_items)⟩ : hold_Queue), v1)
    else none
  else none

noncomputable def heap_Push_i92_i89 (a0 : hold_Queue) (a1 : Nat) (dom : List Nat) (M : Nat → hold_item) : Option (hold_Queue × (Nat → hold_item)) :=
  (hold_items_Push_i89 (⟨(⟨a0.h.l⟩ : hold_items)⟩ : hold_Queue) a1 dom M).bind fun v1 =>
  bnd (hold_items_Len (⟨(⟨v1.1.h.l⟩ : hold_items)⟩ : hold_Queue) dom v1.2) fun (v2 : Int × hold_Queue) =>
  (heap_up_i92 (⟨(⟨((v2.2).h).l⟩ : hold_items)⟩ : hold_Queue) (IntKind.wrap .i64 (v2.1 - 1)) dom v1.2).bind fun v3 =>
  some ((⟨(⟨v3.1.h.l⟩ : hold_items)⟩ : hold_Queue), v3.2)

inductive slices_IndexFunc_api_Pair.S where
  | l1 (x1_8 : Int)

noncomputable def slices_IndexFunc_api_Pair.l1 (a0 : List api_Pair) (p1 : api_Pair → Option Bool) (x1_8 : Int) : Option (slices_IndexFunc_api_Pair.S ⊕ Int) :=
  if x1_8 < (a0.length : Int) then
    if 0 ≤ x1_8 ∧ x1_8 < (a0.length : Int) then
      (p1 (a0.getD x1_8.toNat api_Pair.z)).bind fun v1 =>
      if v1 = true then
        some (.inr x1_8)
      else
        some (.inl (.l1 (IntKind.wrap .i64 (x1_8 + 1))))
    else none
  else
    some (.inr (-1))

noncomputable def slices_IndexFunc_api_Pair.step (a0 : List api_Pair) (p1 : api_Pair → Option Bool) : slices_IndexFunc_api_Pair.S → Option (slices_IndexFunc_api_Pair.S ⊕ Int)
  | .l1 x1_8 => slices_IndexFunc_api_Pair.l1 a0 p1 x1_8

noncomputable def slices_IndexFunc_api_Pair (a0 : List api_Pair) (p1 : api_Pair → Option Bool) : Option Int :=
  goLoop (slices_IndexFunc_api_Pair.step a0 p1) (.l1 0)

noncomputable def slices_ContainsFunc_api_Pair (a0 : List api_Pair) (p1 : api_Pair → Option Bool) : Option Bool :=
  (slices_IndexFunc_api_Pair a0 p1).bind fun v1 =>
  some (decide (v1 ≥ 0))

noncomputable def mut_value.j1 (y1_2 : Bool) : Bool :=
  y1_2

noncomputable def mut_value (a0 : Int) : Bool :=
  if a0 ≥ (-1099511627776) then
    mut_value.j1 (decide (a0 ≤ 1099511627776))
  else
    mut_value.j1 false

noncomputable def mut_pair.j1 (y1_2 : Bool) : Bool :=
  y1_2

noncomputable def mut_pair (a0 : api_Pair) : Bool :=
  if a0.Key ≥ 0 then
    if a0.Key < 4096 then
      mut_pair.j1 (mut_value a0.Val)
    else
      mut_pair.j1 false
  else
    mut_pair.j1 false

noncomputable def mut_pairs_1 (a0 : api_Pair) : Bool :=
  (!(mut_pair a0))

noncomputable def mut_pairs.j1 (y1_6 : Bool) : Option Bool :=
  some y1_6

noncomputable def mut_pairs (a0 : api_Mut) (a1 : Int) (a2 : Int) : Option Bool :=
  if (a0.Pairs.length : Int) ≥ a1 then
    if (a0.Pairs.length : Int) ≤ a2 then
      (slices_ContainsFunc_api_Pair a0.Pairs (fun z0 => some (mut_pairs_1 z0))).bind fun v1 =>
      mut_pairs.j1 (!v1)
    else
      mut_pairs.j1 false
  else
    mut_pairs.j1 false

inductive mut_rising.S where
  | l1 (x1_3 : Int)

noncomputable def mut_rising.l1 (a0 : List api_Pair) (x1_3 : Int) : Option (mut_rising.S ⊕ Bool) :=
  if x1_3 < (a0.length : Int) then
    if 0 ≤ (IntKind.wrap .i64 (x1_3 - 1)) ∧ (IntKind.wrap .i64 (x1_3 - 1)) < (a0.length : Int) then
      if 0 ≤ x1_3 ∧ x1_3 < (a0.length : Int) then
        if ((a0.getD ((IntKind.wrap .i64 (x1_3 - 1)).toNat) api_Pair.z).Key) ≥ ((a0.getD x1_3.toNat api_Pair.z).Key) then
          some (.inr false)
        else
          some (.inl (.l1 (IntKind.wrap .i64 (x1_3 + 1))))
      else none
    else none
  else
    some (.inr true)

noncomputable def mut_rising.step (a0 : List api_Pair) : mut_rising.S → Option (mut_rising.S ⊕ Bool)
  | .l1 x1_3 => mut_rising.l1 a0 x1_3

noncomputable def mut_rising (a0 : List api_Pair) : Option Bool :=
  goLoop (mut_rising.step a0) (.l1 1)

noncomputable def span_One.j1 (y1_2 : Bool) : Bool :=
  y1_2

noncomputable def span_One (a0 : api_Span) : Bool :=
  if a0.Lo ≥ 0 then
    if a0.Lo < a0.Hi then
      span_One.j1 (decide (a0.Hi ≤ 4096))
    else
      span_One.j1 false
  else
    span_One.j1 false

noncomputable def mut_kind.j2 (y2_2 : Bool) : Option Bool :=
  some y2_2

noncomputable def mut_kind.j3 (y3_2 : Bool) : Option Bool :=
  some y3_2

noncomputable def mut_kind.j4 (y4_2 : Bool) : Option Bool :=
  some y4_2

noncomputable def mut_kind.j5 (y5_2 : Bool) : Option Bool :=
  some y5_2

noncomputable def mut_kind.j1 (a0 : api_Mut) (y1_23 : Bool) : Option Bool :=
  if y1_23 = true then
    some false
  else
    if a0.Kind = 1 then
      (mut_pairs a0 1 8).bind fun v1 =>
      if v1 = true then
        (mut_rising a0.Pairs).bind fun v2 =>
        mut_kind.j2 v2
      else
        mut_kind.j2 false
    else
      if a0.Kind = 2 then
        if (a0.Pairs.length : Int) = 0 then
          mut_kind.j3 (span_One a0.Over)
        else
          mut_kind.j3 false
      else
        if a0.Kind = 3 then
          (mut_pairs a0 1 1).bind fun v3 =>
          some v3
        else
          if a0.Kind = 4 then
            (mut_pairs a0 1 1).bind fun v4 =>
            if v4 = true then
              if (mut_value a0.Old) = true then
                mut_kind.j4 true
              else
                mut_kind.j4 (a0.Old == 1099511627777)
            else
              mut_kind.j4 false
          else
            if a0.Kind = 5 then
              (mut_pairs a0 2 2).bind fun v5 =>
              if v5 = true then
                if (0 : Int) ≤ 0 ∧ 0 < (a0.Pairs.length : Int) then
                  if (0 : Int) ≤ 1 ∧ 1 < (a0.Pairs.length : Int) then
                    if ((a0.Pairs.getD 0 api_Pair.z).Key) = ((a0.Pairs.getD 1 api_Pair.z).Key) then
                      mut_kind.j5 false
                    else
                      if ((a0.Pairs.getD 0 api_Pair.z).Val) = ((a0.Pairs.getD 1 api_Pair.z).Val) then
                        mut_kind.j5 (decide (((a0.Pairs.getD 0 api_Pair.z).Val) ≥ 0))
                      else
                        mut_kind.j5 false
                  else none
                else none
              else
                mut_kind.j5 false
            else
              some false

noncomputable def mut_kind (a0 : api_Mut) : Option Bool :=
  if a0.Kind = 2 then
    if a0.Kind = 4 then
      mut_kind.j1 a0 false
    else
      mut_kind.j1 a0 (a0.Old != 0)
  else
    if a0.Over.Lo = 0 then
      if a0.Over.Hi = 0 then
        if a0.Kind = 4 then
          mut_kind.j1 a0 false
        else
          mut_kind.j1 a0 (a0.Old != 0)
      else
        mut_kind.j1 a0 true
    else
      if a0.Over.Hi = 0 then
        mut_kind.j1 a0 true
      else
        mut_kind.j1 a0 true

noncomputable def mut_Check.j1 (y1_2 : Bool) : Option Bool :=
  some y1_2

noncomputable def mut_Check (a0 : api_Mut) : Option Bool :=
  if a0.Client ≥ 1 then
    if a0.Client ≤ 1048576 then
      if a0.Seq ≥ 1 then
        if a0.Seq ≤ 1073741824 then
          (mut_kind a0).bind fun v1 =>
          mut_Check.j1 v1
        else
          mut_Check.j1 false
      else
        mut_Check.j1 false
    else
      mut_Check.j1 false
  else
    mut_Check.j1 false

noncomputable def hold_item_stamp_l0 (a0 : hold_item) : api_Stamp :=
  bnd (mut_Stamp a0.h.Time a0.h.M) fun (v1 : api_Stamp) =>
  v1

noncomputable def hold_by_1_l0_l1 (a0 : hold_item) (a1 : hold_item) : Option Int :=
  bnd (hold_item_stamp_l0 a1) fun (v1 : api_Stamp) =>
  (mut_Compare (hold_item_stamp_l0 a0) v1).bind fun v2 =>
  some v2
end Go.SyP
