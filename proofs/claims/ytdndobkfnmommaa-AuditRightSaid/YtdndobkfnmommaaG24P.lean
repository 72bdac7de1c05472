/- Plain functions, printed by gen.py. -/
import Derived.Test.YtdndobkfnmommaaSyArr
set_option linter.unusedVariables false
namespace Go.SyP
open Go Go.Sy

structure api_Pair where
 Key:Int
 Val:Int
def api_Pair.z:api_Pair:=⟨0,0⟩
structure api_Span where
 Lo:Int
 Hi:Int
def api_Span.z:api_Span:=⟨0,0⟩
structure api_Mut where
 Client:Int
 Seq:Int
 Kind:Int
 Pairs:List api_Pair
 Over:api_Span
 Old:Int
def api_Mut.z:api_Mut:=⟨0,0,0,[],api_Span.z,0⟩
structure api_Entry where
 M:api_Mut
 Time:Int
 Done:Bool
def api_Entry.z:api_Entry:=⟨api_Mut.z,0,false⟩
structure api_Stamp where
 Time:Int
 Client:Int
 Seq:Int
structure api_Cell where
 Val:Int
 Some:Bool
def api_Cell.z:api_Cell:=⟨0,false⟩
structure api_Event where
 Kind:Int
 Client:Int
 M:api_Mut
 Key:Int
 Cell:api_Cell
 Mark:Int
def api_Event.z:api_Event:=⟨0,0,api_Mut.z,0,api_Cell.z,0⟩
structure audit_done where
 l:List api_Mut
 mark:Int
structure spliceref04_Pair where
 Key:Int
 Val:Int
def spliceref04_Pair.z:spliceref04_Pair:=⟨0,0⟩
structure spliceref03_Span where
 Lo:Int
 Hi:Int
def spliceref03_Span.z:spliceref03_Span:=⟨0,0⟩
structure spliceref04_Mut where
 Client:Int
 Seq:Int
 Kind:Int
 Pairs:List spliceref04_Pair
 Over:spliceref03_Span
 Old:Int
def spliceref04_Mut.z:spliceref04_Mut:=⟨0,0,0,[],spliceref03_Span.z,0⟩
structure spliceref12_Entry where
 M:spliceref04_Mut
 Time:Int
 Done:Bool
def spliceref12_Entry.z:spliceref12_Entry:=⟨spliceref04_Mut.z,0,false⟩
structure spliceref12_Peer where
 Shard:Int
 Time:Int
def spliceref12_Peer.z:spliceref12_Peer:=⟨0,0⟩
structure spliceref12_Wait where
 M:spliceref04_Mut
 Time:Int
 Final:Bool
 Peers:List spliceref12_Peer
def spliceref12_Wait.z:spliceref12_Wait:=⟨spliceref04_Mut.z,0,false,[]⟩
structure spliceref12_Known where
 Client:Int
 Seq:Int
 Time:Int
 Done:Bool
def spliceref12_Known.z:spliceref12_Known:=⟨0,0,0,false⟩
structure spliceref12_Core where
 ID:Int
 Keys:spliceref03_Span
 Clock:Int
 Frozen:Bool
 Sealed:Bool
 Held:List spliceref12_Wait
 Base:List spliceref04_Pair
 Log:List spliceref12_Entry
 Known:List spliceref12_Known
structure spliceref05_Cell where
 Val:Int
 Some:Bool
def spliceref05_Cell.z:spliceref05_Cell:=⟨0,false⟩
structure spliceref24_Event where
 Kind:Int
 Client:Int
 M:spliceref04_Mut
 Key:Int
 Cell:spliceref05_Cell
 Mark:Int
def spliceref24_Event.z:spliceref24_Event:=⟨0,0,spliceref04_Mut.z,0,spliceref05_Cell.z,0⟩
structure spliceref04_Stamp where
 Time:Int
 Client:Int
 Seq:Int
structure api_Finding where
 At:Int
 Why:Int
def api_Finding.z:api_Finding:=⟨0,0⟩
structure splicelaw24_Ask where
 At:Int
 Client:Int
 Mark:Int
structure spliceref24_Finding where
 At:Int
 Why:Int
def spliceref24_Finding.z:spliceref24_Finding:=⟨0,0⟩

inductive slices_IndexFunc_api_Pair.S where
 | l1 (x1_8:Int)

noncomputable def slices_IndexFunc_api_Pair.l1 (a0:List api_Pair) (p1:api_Pair→Option Bool) (x1_8:Int):Option (slices_IndexFunc_api_Pair.S ⊕ Int):=
 if x1_8 < (a0.length:Int) then
  if 0≤x1_8∧x1_8 < (a0.length:Int) then
   (p1 (a0.getD x1_8.toNat api_Pair.z)).bind fun v1=>
   if v1=true then
    some (.inr x1_8)
   else
    some (.inl (.l1 (IntKind.wrap .i64 (x1_8+1))))
  else none
 else
  some (.inr (-1))

noncomputable def slices_IndexFunc_api_Pair.step (a0:List api_Pair) (p1:api_Pair→Option Bool):slices_IndexFunc_api_Pair.S→Option (slices_IndexFunc_api_Pair.S ⊕ Int)
 | .l1 x1_8=>slices_IndexFunc_api_Pair.l1 a0 p1 x1_8

noncomputable def slices_IndexFunc_api_Pair (a0:List api_Pair) (p1:api_Pair→Option Bool):Option Int:=
 goLoop (slices_IndexFunc_api_Pair.step a0 p1) (.l1 0)

noncomputable def slices_ContainsFunc_api_Pair (a0:List api_Pair) (p1:api_Pair→Option Bool):Option Bool:=
 (slices_IndexFunc_api_Pair a0 p1).bind fun v1=>
 some (decide (v1≥0))

noncomputable def mut_value.j1 (y1_2:Bool):Bool:=
 y1_2

noncomputable def mut_value (a0:Int):Bool:=
 if a0≥(-1099511627776) then
  mut_value.j1 (decide (a0≤1099511627776))
 else
  mut_value.j1 false

noncomputable def mut_pair.j1 (y1_2:Bool):Bool:=
 y1_2

noncomputable def mut_pair (a0:api_Pair):Bool:=
 if a0.Key≥0 then
  if a0.Key < 4096 then
   mut_pair.j1 (mut_value a0.Val)
  else
   mut_pair.j1 false
 else
  mut_pair.j1 false

noncomputable def mut_pairs_1 (a0:api_Pair):Bool:=
 (!(mut_pair a0))

noncomputable def mut_pairs.j1 (y1_6:Bool):Option Bool:=
 some y1_6

noncomputable def mut_pairs (a0:api_Mut) (a1:Int) (a2:Int):Option Bool:=
 if (a0.Pairs.length:Int)≥a1 then
  if (a0.Pairs.length:Int)≤a2 then
   (slices_ContainsFunc_api_Pair a0.Pairs (fun z0=>some (mut_pairs_1 z0))).bind fun v1=>
   mut_pairs.j1 (!v1)
  else
   mut_pairs.j1 false
 else
  mut_pairs.j1 false

inductive mut_rising.S where
 | l1 (x1_3:Int)

noncomputable def mut_rising.l1 (a0:List api_Pair) (x1_3:Int):Option (mut_rising.S ⊕ Bool):=
 if x1_3 < (a0.length:Int) then
  if 0≤(IntKind.wrap .i64 (x1_3 - 1))∧(IntKind.wrap .i64 (x1_3 - 1)) < (a0.length:Int) then
   if 0≤x1_3∧x1_3 < (a0.length:Int) then
    if ((a0.getD ((IntKind.wrap .i64 (x1_3 - 1)).toNat) api_Pair.z).Key)≥((a0.getD x1_3.toNat api_Pair.z).Key) then
     some (.inr false)
    else
     some (.inl (.l1 (IntKind.wrap .i64 (x1_3+1))))
   else none
  else none
 else
  some (.inr true)

noncomputable def mut_rising.step (a0:List api_Pair):mut_rising.S→Option (mut_rising.S ⊕ Bool)
 | .l1 x1_3=>mut_rising.l1 a0 x1_3

noncomputable def mut_rising (a0:List api_Pair):Option Bool:=
 goLoop (mut_rising.step a0) (.l1 1)

noncomputable def span_One.j1 (y1_2:Bool):Bool:=
 y1_2

noncomputable def span_One (a0:api_Span):Bool:=
 if a0.Lo≥0 then
  if a0.Lo < a0.Hi then
   span_One.j1 (decide (a0.Hi≤4096))
  else
   span_One.j1 false
 else
  span_One.j1 false

noncomputable def mut_kind.j2 (y2_2:Bool):Option Bool:=
 some y2_2

noncomputable def mut_kind.j3 (y3_2:Bool):Option Bool:=
 some y3_2

noncomputable def mut_kind.j4 (y4_2:Bool):Option Bool:=
 some y4_2

noncomputable def mut_kind.j5 (y5_2:Bool):Option Bool:=
 some y5_2

noncomputable def mut_kind.j1 (a0:api_Mut) (y1_23:Bool):Option Bool:=
 if y1_23=true then
  some false
 else
  if a0.Kind=1 then
   (mut_pairs a0 1 8).bind fun v1=>
   if v1=true then
    (mut_rising a0.Pairs).bind fun v2=>
    mut_kind.j2 v2
   else
    mut_kind.j2 false
  else
   if a0.Kind=2 then
    if (a0.Pairs.length:Int)=0 then
     mut_kind.j3 (span_One a0.Over)
    else
     mut_kind.j3 false
   else
    if a0.Kind=3 then
     (mut_pairs a0 1 1).bind fun v3=>
     some v3
    else
     if a0.Kind=4 then
      (mut_pairs a0 1 1).bind fun v4=>
      if v4=true then
       if (mut_value a0.Old)=true then
        mut_kind.j4 true
       else
        mut_kind.j4 (a0.Old == 1099511627777)
      else
       mut_kind.j4 false
     else
      if a0.Kind=5 then
       (mut_pairs a0 2 2).bind fun v5=>
       if v5=true then
        if (0:Int)≤0∧0 < (a0.Pairs.length:Int) then
         if (0:Int)≤1∧1 < (a0.Pairs.length:Int) then
          if ((a0.Pairs.getD 0 api_Pair.z).Key)=((a0.Pairs.getD 1 api_Pair.z).Key) then
           mut_kind.j5 false
          else
           if ((a0.Pairs.getD 0 api_Pair.z).Val)=((a0.Pairs.getD 1 api_Pair.z).Val) then
            mut_kind.j5 (decide (((a0.Pairs.getD 0 api_Pair.z).Val)≥0))
           else
            mut_kind.j5 false
         else none
        else none
       else
        mut_kind.j5 false
      else
       some false

noncomputable def mut_kind (a0:api_Mut):Option Bool:=
 if a0.Kind=2 then
  if a0.Kind=4 then
   mut_kind.j1 a0 false
  else
   mut_kind.j1 a0 (a0.Old != 0)
 else
  if a0.Over.Lo=0 then
   if a0.Over.Hi=0 then
    if a0.Kind=4 then
     mut_kind.j1 a0 false
    else
     mut_kind.j1 a0 (a0.Old != 0)
   else
    mut_kind.j1 a0 true
  else
   if a0.Over.Hi=0 then
    mut_kind.j1 a0 true
   else
    mut_kind.j1 a0 true

noncomputable def mut_Check.j1 (y1_2:Bool):Option Bool:=
 some y1_2

noncomputable def mut_Check (a0:api_Mut):Option Bool:=
 if a0.Client≥1 then
  if a0.Client≤1048576 then
   if a0.Seq≥1 then
    if a0.Seq≤1073741824 then
     (mut_kind a0).bind fun v1=>
     mut_Check.j1 v1
    else
     mut_Check.j1 false
   else
    mut_Check.j1 false
  else
   mut_Check.j1 false
 else
  mut_Check.j1 false

noncomputable def mut_Stamp (a0:Int) (a1:api_Mut):api_Stamp:=
 (⟨a0,a1.Client,a1.Seq⟩:api_Stamp)

noncomputable def audit_stamp (a0:api_Entry):api_Stamp:=
 bnd (mut_Stamp a0.Time a0.M) fun (v1:api_Stamp)=>
 v1

noncomputable def cmp_isNaN_int (a0:Int):Bool:=
 (a0 != a0)

noncomputable def cmp_Compare_int (a0:Int) (a1:Int):Int:=
 if (cmp_isNaN_int a0)=true then
  if (cmp_isNaN_int a1)=true then
   0
  else
   (-1)
 else
  if (cmp_isNaN_int a1)=true then
   1
  else
   if a0 < a1 then
    (-1)
   else
    if a0 > a1 then
     1
    else
     0

inductive cmp_Or_int.S where
 | l1 (x1_8:Int)

noncomputable def cmp_Or_int.l1 (a0:List Int) (x1_8:Int):Option (cmp_Or_int.S ⊕ Int):=
 if x1_8 < (a0.length:Int) then
  if 0≤x1_8∧x1_8 < (a0.length:Int) then
   if (a0.getD x1_8.toNat 0)=0 then
    some (.inl (.l1 (IntKind.wrap .i64 (x1_8+1))))
   else
    some (.inr (a0.getD x1_8.toNat 0))
  else none
 else
  some (.inr 0)

noncomputable def cmp_Or_int.step (a0:List Int):cmp_Or_int.S→Option (cmp_Or_int.S ⊕ Int)
 | .l1 x1_8=>cmp_Or_int.l1 a0 x1_8

noncomputable def cmp_Or_int (a0:List Int):Option Int:=
 goLoop (cmp_Or_int.step a0) (.l1 0)

noncomputable def mut_Compare (a0:api_Stamp) (a1:api_Stamp):Option Int:=
 (cmp_Or_int ([cmp_Compare_int a0.Time a1.Time,cmp_Compare_int a0.Client a1.Client,cmp_Compare_int a0.Seq a1.Seq]:List Int)).bind fun v1=>
 some v1

inductive audit_Order.S where
 | l1 (x1_7:Int)

noncomputable def audit_Order.j1 (x1_7:Int) (y1_31:Bool):Option (audit_Order.S ⊕ Bool):=
 if y1_31=true then
  some (.inr false)
 else
  some (.inl (.l1 (IntKind.wrap .i64 (x1_7+1))))

noncomputable def audit_Order.l1 (a0:List api_Entry) (x1_7:Int):Option (audit_Order.S ⊕ Bool):=
 if x1_7 < (a0.length:Int) then
  if 0≤x1_7∧x1_7 < (a0.length:Int) then
   (mut_Check ((a0.getD x1_7.toNat api_Entry.z).M)).bind fun v1=>
   if v1=true then
    if x1_7 > 0 then
     if 0≤(IntKind.wrap .i64 (x1_7 - 1))∧(IntKind.wrap .i64 (x1_7 - 1)) < (a0.length:Int) then
      (mut_Compare (audit_stamp (a0.getD ((IntKind.wrap .i64 (x1_7 - 1)).toNat) api_Entry.z)) (audit_stamp (a0.getD x1_7.toNat api_Entry.z))).bind fun v2=>
      audit_Order.j1 x1_7 (decide (v2≥0))
     else none
    else
     audit_Order.j1 x1_7 false
   else
    audit_Order.j1 x1_7 true
  else none
 else
  some (.inr true)

noncomputable def audit_Order.step (a0:List api_Entry):audit_Order.S→Option (audit_Order.S ⊕ Bool)
 | .l1 x1_7=>audit_Order.l1 a0 x1_7

noncomputable def audit_Order (a0:List api_Entry):Option Bool:=
 goLoop (audit_Order.step a0) (.l1 0)

inductive audit_Marks.S where
 | l1 (x1_10:Int) (x1_r0:List Int)

noncomputable def audit_Marks.j2 (x1_10:Int) (y2_r0:List Int):Option (audit_Marks.S ⊕ (List Int)):=
 some (.inl (.l1 (IntKind.wrap .i64 (x1_10+1)) y2_r0))

noncomputable def audit_Marks.j1 (a0:List api_Event) (x1_10:Int) (x1_r0:List Int) (y1_22:Bool):Option (audit_Marks.S ⊕ (List Int)):=
 if y1_22=true then
  if (x1_r0.length+1) * 8≤140737488355328 then
   audit_Marks.j2 x1_10 (x1_r0 ++ [(a0.getD x1_10.toNat api_Event.z).Mark])
  else none
 else
  audit_Marks.j2 x1_10 x1_r0

noncomputable def audit_Marks.l1 (a0:List api_Event) (a1:Int) (x1_10:Int) (x1_r0:List Int):Option (audit_Marks.S ⊕ (List Int)):=
 if x1_10 < (a0.length:Int) then
  if 0≤x1_10∧x1_10 < (a0.length:Int) then
   if ((a0.getD x1_10.toNat api_Event.z).Kind)=2 then
    audit_Marks.j1 a0 x1_10 x1_r0 (((a0.getD x1_10.toNat api_Event.z).Client) == a1)
   else
    audit_Marks.j1 a0 x1_10 x1_r0 false
  else none
 else
  some (.inr x1_r0)

noncomputable def audit_Marks.step (a0:List api_Event) (a1:Int):audit_Marks.S→Option (audit_Marks.S ⊕ (List Int))
 | .l1 x1_10 x1_r0=>audit_Marks.l1 a0 a1 x1_10 x1_r0

noncomputable def audit_Marks (a0:List api_Event) (a1:Int):Option (List Int):=
 goLoop (audit_Marks.step a0 a1) (.l1 0 ([]:List Int))

inductive slices_Equal_api_Pair.S where
 | l1 (x1_13:Int)

noncomputable def slices_Equal_api_Pair.l1 (a0:List api_Pair) (a1:List api_Pair) (x1_13:Int):Option (slices_Equal_api_Pair.S ⊕ Bool):=
 if x1_13 < (a0.length:Int) then
  if 0≤x1_13∧x1_13 < (a0.length:Int) then
   if 0≤x1_13∧x1_13 < (a1.length:Int) then
    if ((a0.getD x1_13.toNat api_Pair.z).Key)=((a1.getD x1_13.toNat api_Pair.z).Key) then
     if ((a0.getD x1_13.toNat api_Pair.z).Val)=((a1.getD x1_13.toNat api_Pair.z).Val) then
      some (.inl (.l1 (IntKind.wrap .i64 (x1_13+1))))
     else
      some (.inr false)
    else
     if ((a0.getD x1_13.toNat api_Pair.z).Val)=((a1.getD x1_13.toNat api_Pair.z).Val) then
      some (.inr false)
     else
      some (.inr false)
   else none
  else none
 else
  some (.inr true)

noncomputable def slices_Equal_api_Pair.step (a0:List api_Pair) (a1:List api_Pair):slices_Equal_api_Pair.S→Option (slices_Equal_api_Pair.S ⊕ Bool)
 | .l1 x1_13=>slices_Equal_api_Pair.l1 a0 a1 x1_13

noncomputable def slices_Equal_api_Pair (a0:List api_Pair) (a1:List api_Pair):Option Bool:=
 if (a0.length:Int)=(a1.length:Int) then
  goLoop (slices_Equal_api_Pair.step a0 a1) (.l1 0)
 else
  some false

noncomputable def mut_Same.j1 (y1_4:Bool):Option Bool:=
 some y1_4

noncomputable def mut_Same (a0:api_Mut) (a1:api_Mut):Option Bool:=
 if a0.Client=a1.Client then
  if a0.Seq=a1.Seq then
   if a0.Kind=a1.Kind then
    if a0.Over.Lo=a1.Over.Lo then
     if a0.Over.Hi=a1.Over.Hi then
      if a0.Old=a1.Old then
       (slices_Equal_api_Pair a0.Pairs a1.Pairs).bind fun v1=>
       mut_Same.j1 v1
      else
       mut_Same.j1 false
     else
      mut_Same.j1 false
    else
     if a0.Over.Hi=a1.Over.Hi then
      mut_Same.j1 false
     else
      mut_Same.j1 false
   else
    mut_Same.j1 false
  else
   mut_Same.j1 false
 else
  mut_Same.j1 false

noncomputable def audit_cell.j1 (y1_2:Bool):Bool:=
 y1_2

noncomputable def audit_cell (a0:api_Cell):Bool:=
 if a0.Some=true then
  if a0.Val≥(-1099511627776) then
   audit_cell.j1 (decide (a0.Val≤1099511627776))
  else
   audit_cell.j1 false
 else
  (a0.Val == 0)

noncomputable def audit_formed.j1 (y1_2:Bool):Option Bool:=
 some y1_2

noncomputable def audit_formed.j2 (y2_2:Bool):Option Bool:=
 some y2_2

noncomputable def audit_formed (a0:api_Event):Option Bool:=
 if a0.Kind=1 then
  (mut_Check a0.M).bind fun v1=>
  if v1=true then
   if a0.M.Client=a0.Client then
    if a0.Key=0 then
     if a0.Cell.Val=0 then
      if a0.Cell.Some=true then
       audit_formed.j1 false
      else
       audit_formed.j1 (a0.Mark == 0)
     else
      if a0.Cell.Some=true then
       audit_formed.j1 false
      else
       audit_formed.j1 false
    else
     audit_formed.j1 false
   else
    audit_formed.j1 false
  else
   audit_formed.j1 false
 else
  if a0.Kind=2 then
   (mut_Same a0.M (⟨0,0,0,[],(⟨0,0⟩:api_Span),0⟩:api_Mut)).bind fun v2=>
   if v2=true then
    if a0.Client≥1 then
     if a0.Client≤1048576 then
      if a0.Key≥0 then
       if a0.Key < 4096 then
        if (audit_cell a0.Cell)=true then
         audit_formed.j2 (decide (a0.Mark≥0))
        else
         audit_formed.j2 false
       else
        audit_formed.j2 false
      else
       audit_formed.j2 false
     else
      audit_formed.j2 false
    else
     audit_formed.j2 false
   else
    audit_formed.j2 false
  else
   some false

inductive slices_IndexFunc_api_Entry.S where
 | l1 (x1_8:Int)

noncomputable def slices_IndexFunc_api_Entry.l1 (a0:List api_Entry) (p1:api_Entry→Option Bool) (x1_8:Int):Option (slices_IndexFunc_api_Entry.S ⊕ Int):=
 if x1_8 < (a0.length:Int) then
  if 0≤x1_8∧x1_8 < (a0.length:Int) then
   (p1 (a0.getD x1_8.toNat api_Entry.z)).bind fun v1=>
   if v1=true then
    some (.inr x1_8)
   else
    some (.inl (.l1 (IntKind.wrap .i64 (x1_8+1))))
  else none
 else
  some (.inr (-1))

noncomputable def slices_IndexFunc_api_Entry.step (a0:List api_Entry) (p1:api_Entry→Option Bool):slices_IndexFunc_api_Entry.S→Option (slices_IndexFunc_api_Entry.S ⊕ Int)
 | .l1 x1_8=>slices_IndexFunc_api_Entry.l1 a0 p1 x1_8

noncomputable def slices_IndexFunc_api_Entry (a0:List api_Entry) (p1:api_Entry→Option Bool):Option Int:=
 goLoop (slices_IndexFunc_api_Entry.step a0 p1) (.l1 0)

noncomputable def slices_ContainsFunc_api_Entry (a0:List api_Entry) (p1:api_Entry→Option Bool):Option Bool:=
 (slices_IndexFunc_api_Entry a0 p1).bind fun v1=>
 some (decide (v1≥0))

noncomputable def audit_committed_1.j1 (y1_4:Bool):Bool:=
 y1_4

noncomputable def audit_committed_1 (a0:api_Entry) (k0:api_Mut) (k1:Int):Bool:=
 if a0.M.Client=k0.Client then
  if a0.M.Seq=k0.Seq then
   audit_committed_1.j1 (decide (a0.Time≤k1))
  else
   audit_committed_1.j1 false
 else
  audit_committed_1.j1 false

noncomputable def audit_committed (a0:List api_Entry) (a1:api_Mut) (a2:Int):Option Bool:=
 (slices_ContainsFunc_api_Entry a0 (fun z0=>some (audit_committed_1 z0 a1 a2))).bind fun v1=>
 some v1

noncomputable def audit_all:List api_Span:=
 ([(⟨0,4096⟩:api_Span)]:List api_Span)

inductive audit_pendings_l1.S where
 | l1 (x1_17:Int) (x1_r0:List api_Mut)

noncomputable def audit_pendings_l1.j1 (x1_17:Int) (y1_r0:List api_Mut):Option (audit_pendings_l1.S ⊕ (List api_Mut)):=
 some (.inl (.l1 (IntKind.wrap .i64 (x1_17+1)) y1_r0))

noncomputable def audit_pendings_l1.l1 (a0:List api_Entry) (a1:audit_done) (a2:Int) (x1_17:Int) (x1_r0:List api_Mut):Option (audit_pendings_l1.S ⊕ (List api_Mut)):=
 if x1_17 < (a1.l.length:Int) then
  if 0≤x1_17∧x1_17 < (a1.l.length:Int) then
   (audit_committed a0 (a1.l.getD x1_17.toNat api_Mut.z) a2).bind fun v1=>
   if v1=true then
    audit_pendings_l1.j1 x1_17 x1_r0
   else
    if (x1_r0.length+1) * 72≤140737488355328 then
     audit_pendings_l1.j1 x1_17 (x1_r0 ++ [(a1.l.getD x1_17.toNat api_Mut.z)])
    else none
  else none
 else
  some (.inr x1_r0)

noncomputable def audit_pendings_l1.step (a0:List api_Entry) (a1:audit_done) (a2:Int):audit_pendings_l1.S→Option (audit_pendings_l1.S ⊕ (List api_Mut))
 | .l1 x1_17 x1_r0=>audit_pendings_l1.l1 a0 a1 a2 x1_17 x1_r0

noncomputable def audit_pendings_l1 (a0:List api_Entry) (a1:audit_done) (a2:Int):Option (List api_Mut):=
 goLoop (audit_pendings_l1.step a0 a1 a2) (.l1 0 ([]:List api_Mut))

inductive span_Check.S where
 | l1 (x1_7:Int)

noncomputable def span_Check.j1 (x1_7:Int) (y1_29:Bool):Option (span_Check.S ⊕ Bool):=
 if y1_29=true then
  some (.inr false)
 else
  some (.inl (.l1 (IntKind.wrap .i64 (x1_7+1))))

noncomputable def span_Check.l1 (a0:List api_Span) (x1_7:Int):Option (span_Check.S ⊕ Bool):=
 if x1_7 < (a0.length:Int) then
  if 0≤x1_7∧x1_7 < (a0.length:Int) then
   if (span_One (a0.getD x1_7.toNat api_Span.z))=true then
    if x1_7 > 0 then
     if 0≤(IntKind.wrap .i64 (x1_7 - 1))∧(IntKind.wrap .i64 (x1_7 - 1)) < (a0.length:Int) then
      span_Check.j1 x1_7 (decide (((a0.getD x1_7.toNat api_Span.z).Lo)≤((a0.getD ((IntKind.wrap .i64 (x1_7 - 1)).toNat) api_Span.z).Hi)))
     else none
    else
     span_Check.j1 x1_7 false
   else
    span_Check.j1 x1_7 true
  else none
 else
  some (.inr (decide ((a0.length:Int)≤64)))

noncomputable def span_Check.step (a0:List api_Span):span_Check.S→Option (span_Check.S ⊕ Bool)
 | .l1 x1_7=>span_Check.l1 a0 x1_7

noncomputable def span_Check (a0:List api_Span):Option Bool:=
 goLoop (span_Check.step a0) (.l1 0)

noncomputable def judge_Fold_1 (a0:api_Entry):Option Bool:=
 (mut_Check a0.M).bind fun v1=>
 some (!v1)

inductive table_Check.S where
 | l1 (x1_7:Int)

noncomputable def table_Check.j1 (x1_7:Int) (y1_44:Bool):Option (table_Check.S ⊕ Bool):=
 if y1_44=true then
  some (.inr false)
 else
  some (.inl (.l1 (IntKind.wrap .i64 (x1_7+1))))

noncomputable def table_Check.l1 (a0:List api_Pair) (x1_7:Int):Option (table_Check.S ⊕ Bool):=
 if x1_7 < (a0.length:Int) then
  if 0≤x1_7∧x1_7 < (a0.length:Int) then
   if ((a0.getD x1_7.toNat api_Pair.z).Key) < 0 then
    table_Check.j1 x1_7 true
   else
    if ((a0.getD x1_7.toNat api_Pair.z).Key)≥4096 then
     table_Check.j1 x1_7 true
    else
     if ((a0.getD x1_7.toNat api_Pair.z).Val) < (-1099511627776) then
      table_Check.j1 x1_7 true
     else
      if ((a0.getD x1_7.toNat api_Pair.z).Val) > 1099511627776 then
       table_Check.j1 x1_7 true
      else
       if x1_7 > 0 then
        if 0≤(IntKind.wrap .i64 (x1_7 - 1))∧(IntKind.wrap .i64 (x1_7 - 1)) < (a0.length:Int) then
         table_Check.j1 x1_7 (decide (((a0.getD ((IntKind.wrap .i64 (x1_7 - 1)).toNat) api_Pair.z).Key)≥((a0.getD x1_7.toNat api_Pair.z).Key)))
        else none
       else
        table_Check.j1 x1_7 false
  else none
 else
  some (.inr true)

noncomputable def table_Check.step (a0:List api_Pair):table_Check.S→Option (table_Check.S ⊕ Bool)
 | .l1 x1_7=>table_Check.l1 a0 x1_7

noncomputable def table_Check (a0:List api_Pair):Option Bool:=
 goLoop (table_Check.step a0) (.l1 0)

inductive slices_DeleteFunc_api_Pair.S where
 | l1 (x1_5:Int) (x1_6:Int) (x1_r1:List api_Pair)

noncomputable def slices_DeleteFunc_api_Pair.j1 (x1_6:Int) (y1_5:Int) (y1_r1:List api_Pair):Option (slices_DeleteFunc_api_Pair.S ⊕ (List api_Pair)):=
 some (.inl (.l1 y1_5 (IntKind.wrap .i64 (x1_6+1)) y1_r1))

noncomputable def slices_DeleteFunc_api_Pair.l1 (p1:api_Pair→Option Bool) (x1_5:Int) (x1_6:Int) (x1_r1:List api_Pair):Option (slices_DeleteFunc_api_Pair.S ⊕ (List api_Pair)):=
 if x1_6 < (x1_r1.length:Int) then
  if 0≤x1_6∧x1_6 < (x1_r1.length:Int) then
   (p1 (x1_r1.getD x1_6.toNat api_Pair.z)).bind fun v2=>
   if v2=true then
    slices_DeleteFunc_api_Pair.j1 x1_6 x1_5 x1_r1
   else
    if 0≤x1_5∧x1_5 < (x1_r1.length:Int) then
     slices_DeleteFunc_api_Pair.j1 x1_6 (IntKind.wrap .i64 (x1_5+1)) (x1_r1.set x1_5.toNat (x1_r1.getD x1_6.toNat api_Pair.z))
    else none
  else none
 else
  if 0≤x1_5∧x1_5≤(x1_r1.length:Int) then
   some (.inr (x1_r1.take x1_5.toNat))
  else none

noncomputable def slices_DeleteFunc_api_Pair.step (p1:api_Pair→Option Bool):slices_DeleteFunc_api_Pair.S→Option (slices_DeleteFunc_api_Pair.S ⊕ (List api_Pair))
 | .l1 x1_5 x1_6 x1_r1=>slices_DeleteFunc_api_Pair.l1 p1 x1_5 x1_6 x1_r1

noncomputable def slices_DeleteFunc_api_Pair (a0:List api_Pair) (p1:api_Pair→Option Bool):Option (List api_Pair):=
 (slices_IndexFunc_api_Pair a0 p1).bind fun v1=>
 if v1=(-1) then
  some a0
 else
  goLoop (slices_DeleteFunc_api_Pair.step p1) (.l1 v1 (IntKind.wrap .i64 (v1+1)) a0)

inductive slices_IndexFunc_api_Span.S where
 | l1 (x1_8:Int)

noncomputable def slices_IndexFunc_api_Span.l1 (a0:List api_Span) (p1:api_Span→Option Bool) (x1_8:Int):Option (slices_IndexFunc_api_Span.S ⊕ Int):=
 if x1_8 < (a0.length:Int) then
  if 0≤x1_8∧x1_8 < (a0.length:Int) then
   (p1 (a0.getD x1_8.toNat api_Span.z)).bind fun v1=>
   if v1=true then
    some (.inr x1_8)
   else
    some (.inl (.l1 (IntKind.wrap .i64 (x1_8+1))))
  else none
 else
  some (.inr (-1))

noncomputable def slices_IndexFunc_api_Span.step (a0:List api_Span) (p1:api_Span→Option Bool):slices_IndexFunc_api_Span.S→Option (slices_IndexFunc_api_Span.S ⊕ Int)
 | .l1 x1_8=>slices_IndexFunc_api_Span.l1 a0 p1 x1_8

noncomputable def slices_IndexFunc_api_Span (a0:List api_Span) (p1:api_Span→Option Bool):Option Int:=
 goLoop (slices_IndexFunc_api_Span.step a0 p1) (.l1 0)

noncomputable def slices_ContainsFunc_api_Span (a0:List api_Span) (p1:api_Span→Option Bool):Option Bool:=
 (slices_IndexFunc_api_Span a0 p1).bind fun v1=>
 some (decide (v1≥0))

noncomputable def span_Has_1.j1 (y1_3:Bool):Bool:=
 y1_3

noncomputable def span_Has_1 (a0:api_Span) (k0:Int):Bool:=
 if (span_One a0)=true then
  if k0≥a0.Lo then
   span_Has_1.j1 (decide (k0 < a0.Hi))
  else
   span_Has_1.j1 false
 else
  span_Has_1.j1 false

noncomputable def span_Has (a0:List api_Span) (a1:Int):Option Bool:=
 (slices_ContainsFunc_api_Span a0 (fun z0=>some (span_Has_1 z0 a1))).bind fun v1=>
 some v1

noncomputable def table_cut_1.j1 (y1_4:Bool):Option Bool:=
 some y1_4

noncomputable def table_cut_1 (a0:api_Pair) (k0:api_Span) (k1:List api_Span):Option Bool:=
 if a0.Key≥k0.Lo then
  if a0.Key < k0.Hi then
   (span_Has k1 a0.Key).bind fun v1=>
   table_cut_1.j1 v1
  else
   table_cut_1.j1 false
 else
  table_cut_1.j1 false

noncomputable def table_cut (a0:List api_Pair) (a1:api_Span) (a2:List api_Span):Option (List api_Pair):=
 (slices_DeleteFunc_api_Pair a0 (fun z0=>table_cut_1 z0 a1 a2)).bind fun v1=>
 some v1

noncomputable def mut_Alone.j1 (y1_2:Bool):Option Bool:=
 some y1_2

noncomputable def mut_Alone (a0:api_Mut):Option Bool:=
 (mut_Check a0).bind fun v1=>
 if v1=true then
  if a0.Kind=3 then
   mut_Alone.j1 true
  else
   mut_Alone.j1 (a0.Kind == 4)
 else
  mut_Alone.j1 false

inductive slices_BinarySearchFunc_int.S where
 | l1 (x1_9:Int) (x1_10:Int)

noncomputable def slices_BinarySearchFunc_int.j1 (x1_9:Int) (y1_7:Bool):Option (slices_BinarySearchFunc_int.S ⊕ (Int × Bool)):=
 some (.inr (x1_9,y1_7))

noncomputable def slices_BinarySearchFunc_int.l1 (a0:List api_Pair) (a1:Int) (p2:api_Pair→Int→Option Int) (x1_9:Int) (x1_10:Int):Option (slices_BinarySearchFunc_int.S ⊕ (Int × Bool)):=
 if x1_9 < x1_10 then
  bnd (IntKind.wrap .i64 (Int.fdiv (IntKind.wrap .u64 (IntKind.wrap .i64 (x1_9+x1_10))) 2)) fun (v2:Int)=>
  if 0≤v2∧v2 < (a0.length:Int) then
   (p2 (a0.getD v2.toNat api_Pair.z) a1).bind fun v3=>
   if v3 < 0 then
    some (.inl (.l1 (IntKind.wrap .i64 (v2+1)) x1_10))
   else
    some (.inl (.l1 x1_9 v2))
  else none
 else
  if x1_9 < (a0.length:Int) then
   if 0≤x1_9∧x1_9 < (a0.length:Int) then
    (p2 (a0.getD x1_9.toNat api_Pair.z) a1).bind fun v1=>
    slices_BinarySearchFunc_int.j1 x1_9 (v1 == 0)
   else none
  else
   slices_BinarySearchFunc_int.j1 x1_9 false

noncomputable def slices_BinarySearchFunc_int.step (a0:List api_Pair) (a1:Int) (p2:api_Pair→Int→Option Int):slices_BinarySearchFunc_int.S→Option (slices_BinarySearchFunc_int.S ⊕ (Int × Bool))
 | .l1 x1_9 x1_10=>slices_BinarySearchFunc_int.l1 a0 a1 p2 x1_9 x1_10

noncomputable def slices_BinarySearchFunc_int (a0:List api_Pair) (a1:Int) (p2:api_Pair→Int→Option Int):Option (Int × Bool):=
 goLoop (slices_BinarySearchFunc_int.step a0 a1 p2) (.l1 0 (a0.length:Int))

noncomputable def table_find_1 (a0:api_Pair) (a1:Int):Int:=
 cmp_Compare_int a0.Key a1

noncomputable def table_find (a0:List api_Pair) (a1:Int):Option (Int × Bool):=
 (slices_BinarySearchFunc_int a0 a1 (fun z0 z1=>some (table_find_1 z0 z1))).bind fun v1=>
 some (v1.1,v1.2)

noncomputable def table_get (a0:List api_Pair) (a1:Int):Option (Int × Bool):=
 (table_find a0 a1).bind fun v1=>
 if v1.2=true then
  if 0≤v1.1∧v1.1 < (a0.length:Int) then
   some ((a0.getD v1.1.toNat api_Pair.z).Val,true)
  else none
 else
  some (0,false)

noncomputable def table_put (a0:List api_Pair) (a1:Int) (a2:Int):Option (List api_Pair):=
 (table_find a0 a1).bind fun v1=>
 if v1.2=true then
  if 0≤v1.1∧v1.1 < (a0.length:Int) then
   some (a0.set v1.1.toNat (⟨(a0.getD v1.1.toNat api_Pair.z).Key,a2⟩:api_Pair))
  else none
 else
  if (0≤v1.1∧v1.1≤(a0.length:Int))∧(a0.length+1) * 16≤140737488355328 then
   some (a0.take v1.1.toNat ++ (⟨a1,a2⟩:api_Pair) :: a0.drop v1.1.toNat)
  else none

noncomputable def table_alone.j1 (a0:List api_Pair) (a1:api_Mut) (v1:Int × Bool) (y1_34:Bool):Option ((List api_Pair) × Bool):=
 if y1_34=true then
  some (a0,false)
 else
  (table_put a0 ((a1.Pairs.getD 0 api_Pair.z).Key) (IntKind.wrap .i64 (v1.1+((a1.Pairs.getD 0 api_Pair.z).Val)))).bind fun v2=>
  some (v2,true)

noncomputable def table_alone.j2 (a0:List api_Pair) (a1:api_Mut) (y2_7:Int):Option ((List api_Pair) × Bool):=
 if y2_7=a1.Old then
  (table_put a0 ((a1.Pairs.getD 0 api_Pair.z).Key) ((a1.Pairs.getD 0 api_Pair.z).Val)).bind fun v3=>
  some (v3,true)
 else
  some (a0,false)

noncomputable def table_alone (a0:List api_Pair) (a1:api_Mut):Option ((List api_Pair) × Bool):=
 if (0:Int)≤0∧0 < (a1.Pairs.length:Int) then
  (table_get a0 ((a1.Pairs.getD 0 api_Pair.z).Key)).bind fun v1=>
  if a1.Kind=3 then
   if (IntKind.wrap .i64 (v1.1+((a1.Pairs.getD 0 api_Pair.z).Val))) < 0 then
    table_alone.j1 a0 a1 v1 true
   else
    table_alone.j1 a0 a1 v1 (decide ((IntKind.wrap .i64 (v1.1+((a1.Pairs.getD 0 api_Pair.z).Val))) > 1099511627776))
  else
   if v1.2=true then
    table_alone.j2 a0 a1 v1.1
   else
    table_alone.j2 a0 a1 1099511627777
 else none

noncomputable def table_move (a0:List api_Pair) (a1:Int) (a2:Int):Option (List api_Pair):=
 (table_get a0 a1).bind fun v1=>
 (table_put a0 a1 (iMin (iMax (IntKind.wrap .i64 (v1.1+a2)) (-1099511627776)) 1099511627776)).bind fun v2=>
 some v2

inductive table_Apply.S where
 | l1 (x1_54:Int) (x1_r1:List api_Pair)

noncomputable def table_Apply.j2 (x1_54:Int) (y2_r1:List api_Pair):Option (table_Apply.S ⊕ ((List api_Pair) × Bool)):=
 some (.inl (.l1 (IntKind.wrap .i64 (x1_54+1)) y2_r1))

noncomputable def table_Apply.l1 (a1:api_Mut) (a2:List api_Span) (x1_54:Int) (x1_r1:List api_Pair):Option (table_Apply.S ⊕ ((List api_Pair) × Bool)):=
 if x1_54 < (a1.Pairs.length:Int) then
  if 0≤x1_54∧x1_54 < (a1.Pairs.length:Int) then
   (span_Has a2 ((a1.Pairs.getD x1_54.toNat api_Pair.z).Key)).bind fun v8=>
   if v8=true then
    if a1.Kind=1 then
     (table_put x1_r1 ((a1.Pairs.getD x1_54.toNat api_Pair.z).Key) ((a1.Pairs.getD x1_54.toNat api_Pair.z).Val)).bind fun v9=>
     table_Apply.j2 x1_54 v9
    else
     if x1_54=0 then
      (table_move x1_r1 ((a1.Pairs.getD x1_54.toNat api_Pair.z).Key) (IntKind.wrap .i64 (0 - ((a1.Pairs.getD x1_54.toNat api_Pair.z).Val)))).bind fun v10=>
      table_Apply.j2 x1_54 v10
     else
      (table_move x1_r1 ((a1.Pairs.getD x1_54.toNat api_Pair.z).Key) ((a1.Pairs.getD x1_54.toNat api_Pair.z).Val)).bind fun v11=>
      table_Apply.j2 x1_54 v11
   else
    table_Apply.j2 x1_54 x1_r1
  else none
 else
  some (.inr (x1_r1,true))

noncomputable def table_Apply.step (a1:api_Mut) (a2:List api_Span):table_Apply.S→Option (table_Apply.S ⊕ ((List api_Pair) × Bool))
 | .l1 x1_54 x1_r1=>table_Apply.l1 a1 a2 x1_54 x1_r1

noncomputable def table_Apply.j1 (a0:List api_Pair) (a1:api_Mut) (a2:List api_Span) (y1_22:Bool):Option ((List api_Pair) × Bool):=
 if y1_22=true then
  some (([]:List api_Pair),false)
 else
  if a0.length * 16≤140737488355328 then
   if a1.Kind=2 then
    (table_cut a0 a1.Over a2).bind fun v4=>
    some (v4,true)
   else
    (mut_Alone a1).bind fun v5=>
    if v5=true then
     if (0:Int)≤0∧0 < (a1.Pairs.length:Int) then
      (span_Has a2 ((a1.Pairs.getD 0 api_Pair.z).Key)).bind fun v6=>
      if v6=true then
       (table_alone a0 a1).bind fun v7=>
       some (v7.1,v7.2)
      else
       some (a0,true)
     else none
    else
     goLoop (table_Apply.step a1 a2) (.l1 0 a0)
  else none

noncomputable def table_Apply (a0:List api_Pair) (a1:api_Mut) (a2:List api_Span):Option ((List api_Pair) × Bool):=
 (table_Check a0).bind fun v1=>
 if v1=true then
  (mut_Check a1).bind fun v2=>
  if v2=true then
   (span_Check a2).bind fun v3=>
   table_Apply.j1 a0 a1 a2 (!v3)
  else
   table_Apply.j1 a0 a1 a2 true
 else
  table_Apply.j1 a0 a1 a2 true

inductive judge_Fold.S where
 | l1 (x1_19:Int) (x1_r0:List api_Pair)

noncomputable def judge_Fold.j3 (x1_19:Int) (y3_r0:List api_Pair):Option (judge_Fold.S ⊕ (List api_Pair)):=
 some (.inl (.l1 (IntKind.wrap .i64 (x1_19+1)) y3_r0))

noncomputable def judge_Fold.j2 (a0:List api_Entry) (a1:List api_Span) (x1_19:Int) (x1_r0:List api_Pair) (y2_30:Bool):Option (judge_Fold.S ⊕ (List api_Pair)):=
 if y2_30=true then
  (table_Apply x1_r0 ((a0.getD x1_19.toNat api_Entry.z).M) a1).bind fun v3=>
  judge_Fold.j3 x1_19 v3.1
 else
  judge_Fold.j3 x1_19 x1_r0

noncomputable def judge_Fold.l1 (a0:List api_Entry) (a1:List api_Span) (a2:Int) (x1_19:Int) (x1_r0:List api_Pair):Option (judge_Fold.S ⊕ (List api_Pair)):=
 if x1_19 < (a0.length:Int) then
  if 0≤x1_19∧x1_19 < (a0.length:Int) then
   if ((a0.getD x1_19.toNat api_Entry.z).Done)=true then
    judge_Fold.j2 a0 a1 x1_19 x1_r0 (decide (((a0.getD x1_19.toNat api_Entry.z).Time)≤a2))
   else
    judge_Fold.j2 a0 a1 x1_19 x1_r0 false
  else none
 else
  some (.inr x1_r0)

noncomputable def judge_Fold.step (a0:List api_Entry) (a1:List api_Span) (a2:Int):judge_Fold.S→Option (judge_Fold.S ⊕ (List api_Pair))
 | .l1 x1_19 x1_r0=>judge_Fold.l1 a0 a1 a2 x1_19 x1_r0

noncomputable def judge_Fold.j1 (a0:List api_Entry) (a1:List api_Span) (a2:Int) (y1_16:Bool):Option (List api_Pair):=
 if y1_16=true then
  some ([]:List api_Pair)
 else
  goLoop (judge_Fold.step a0 a1 a2) (.l1 0 ([]:List api_Pair))

noncomputable def judge_Fold (a0:List api_Entry) (a1:List api_Span) (a2:Int):Option (List api_Pair):=
 (span_Check a1).bind fun v1=>
 if v1=true then
  (slices_ContainsFunc_api_Entry a0 (fun z0=>judge_Fold_1 z0)).bind fun v2=>
  judge_Fold.j1 a0 a1 a2 v2
 else
  judge_Fold.j1 a0 a1 a2 true

inductive slices_IndexFunc_api_Mut.S where
 | l1 (x1_8:Int)

noncomputable def slices_IndexFunc_api_Mut.l1 (a0:List api_Mut) (p1:api_Mut→Option Bool) (x1_8:Int):Option (slices_IndexFunc_api_Mut.S ⊕ Int):=
 if x1_8 < (a0.length:Int) then
  if 0≤x1_8∧x1_8 < (a0.length:Int) then
   (p1 (a0.getD x1_8.toNat api_Mut.z)).bind fun v1=>
   if v1=true then
    some (.inr x1_8)
   else
    some (.inl (.l1 (IntKind.wrap .i64 (x1_8+1))))
  else none
 else
  some (.inr (-1))

noncomputable def slices_IndexFunc_api_Mut.step (a0:List api_Mut) (p1:api_Mut→Option Bool):slices_IndexFunc_api_Mut.S→Option (slices_IndexFunc_api_Mut.S ⊕ Int)
 | .l1 x1_8=>slices_IndexFunc_api_Mut.l1 a0 p1 x1_8

noncomputable def slices_IndexFunc_api_Mut (a0:List api_Mut) (p1:api_Mut→Option Bool):Option Int:=
 goLoop (slices_IndexFunc_api_Mut.step a0 p1) (.l1 0)

noncomputable def slices_ContainsFunc_api_Mut (a0:List api_Mut) (p1:api_Mut→Option Bool):Option Bool:=
 (slices_IndexFunc_api_Mut a0 p1).bind fun v1=>
 some (decide (v1≥0))

noncomputable def judge_Onto_1 (a0:api_Mut):Option Bool:=
 (mut_Check a0).bind fun v1=>
 some (!v1)

inductive judge_Onto.S where
 | l1 (x1_26:Int) (x1_r0:List api_Pair)

noncomputable def judge_Onto.l1 (a1:List api_Mut) (a2:List api_Span) (x1_26:Int) (x1_r0:List api_Pair):Option (judge_Onto.S ⊕ (List api_Pair)):=
 if x1_26 < (a1.length:Int) then
  if 0≤x1_26∧x1_26 < (a1.length:Int) then
   (table_Apply x1_r0 (a1.getD x1_26.toNat api_Mut.z) a2).bind fun v4=>
   some (.inl (.l1 (IntKind.wrap .i64 (x1_26+1)) v4.1))
  else none
 else
  some (.inr x1_r0)

noncomputable def judge_Onto.step (a1:List api_Mut) (a2:List api_Span):judge_Onto.S→Option (judge_Onto.S ⊕ (List api_Pair))
 | .l1 x1_26 x1_r0=>judge_Onto.l1 a1 a2 x1_26 x1_r0

noncomputable def judge_Onto.j1 (a0:List api_Pair) (a1:List api_Mut) (a2:List api_Span) (y1_21:Bool):Option (List api_Pair):=
 if y1_21=true then
  some ([]:List api_Pair)
 else
  if a0.length * 16≤140737488355328 then
   goLoop (judge_Onto.step a1 a2) (.l1 0 a0)
  else none

noncomputable def judge_Onto (a0:List api_Pair) (a1:List api_Mut) (a2:List api_Span):Option (List api_Pair):=
 (table_Check a0).bind fun v1=>
 if v1=true then
  (span_Check a2).bind fun v2=>
  if v2=true then
   (slices_ContainsFunc_api_Mut a1 (fun z0=>judge_Onto_1 z0)).bind fun v3=>
   judge_Onto.j1 a0 a1 a2 v3
  else
   judge_Onto.j1 a0 a1 a2 true
 else
  judge_Onto.j1 a0 a1 a2 true

noncomputable def table_Get (a0:List api_Pair) (a1:Int):Option (Int × Bool):=
 (table_Check a0).bind fun v1=>
 if v1=true then
  (table_get a0 a1).bind fun v2=>
  some (v2.1,v2.2)
 else
  some (0,false)

noncomputable def audit_sees_l1 (a0:List api_Entry) (a1:audit_done) (a2:Int) (a3:Int):Option api_Cell:=
 bnd (audit_all) fun (v1:List api_Span)=>
 (judge_Fold a0 v1 a3).bind fun v2=>
 (audit_pendings_l1 a0 a1 a3).bind fun v3=>
 bnd (audit_all) fun (v4:List api_Span)=>
 (judge_Onto v2 v3 v4).bind fun v5=>
 (table_Get v5 a2).bind fun v6=>
 some (⟨v6.1,v6.2⟩:api_Cell)

inductive splicelaw05_Refs.S where
 | l1 (x1_4:Int) (x1_r0:List spliceref04_Pair)

noncomputable def splicelaw05_Refs.l1 (a0:List api_Pair) (x1_4:Int) (x1_r0:List spliceref04_Pair):Option (splicelaw05_Refs.S ⊕ (List spliceref04_Pair)):=
 if x1_4 < (a0.length:Int) then
  if 0≤x1_4∧x1_4 < (a0.length:Int) then
   if (x1_r0.length+1) * 16≤140737488355328 then
    some (.inl (.l1 (IntKind.wrap .i64 (x1_4+1)) (x1_r0 ++ [(⟨(a0.getD x1_4.toNat api_Pair.z).Key,(a0.getD x1_4.toNat api_Pair.z).Val⟩:spliceref04_Pair)])))
   else none
  else none
 else
  some (.inr x1_r0)

noncomputable def splicelaw05_Refs.step (a0:List api_Pair):splicelaw05_Refs.S→Option (splicelaw05_Refs.S ⊕ (List spliceref04_Pair))
 | .l1 x1_4 x1_r0=>splicelaw05_Refs.l1 a0 x1_4 x1_r0

noncomputable def splicelaw05_Refs (a0:List api_Pair):Option (List spliceref04_Pair):=
 goLoop (splicelaw05_Refs.step a0) (.l1 0 ([]:List spliceref04_Pair))

inductive splicelaw04_Ref.S where
 | l1 (x1_4:Int) (x1_r3:List spliceref04_Pair)

noncomputable def splicelaw04_Ref.l1 (a0:api_Mut) (x1_4:Int) (x1_r3:List spliceref04_Pair):Option (splicelaw04_Ref.S ⊕ spliceref04_Mut):=
 if x1_4 < (a0.Pairs.length:Int) then
  if 0≤x1_4∧x1_4 < (a0.Pairs.length:Int) then
   if (x1_r3.length+1) * 16≤140737488355328 then
    some (.inl (.l1 (IntKind.wrap .i64 (x1_4+1)) (x1_r3 ++ [(⟨(a0.Pairs.getD x1_4.toNat api_Pair.z).Key,(a0.Pairs.getD x1_4.toNat api_Pair.z).Val⟩:spliceref04_Pair)])))
   else none
  else none
 else
  some (.inr (⟨a0.Client,a0.Seq,a0.Kind,x1_r3,(⟨a0.Over.Lo,a0.Over.Hi⟩:spliceref03_Span),a0.Old⟩:spliceref04_Mut))

noncomputable def splicelaw04_Ref.step (a0:api_Mut):splicelaw04_Ref.S→Option (splicelaw04_Ref.S ⊕ spliceref04_Mut)
 | .l1 x1_4 x1_r3=>splicelaw04_Ref.l1 a0 x1_4 x1_r3

noncomputable def splicelaw04_Ref (a0:api_Mut):Option spliceref04_Mut:=
 goLoop (splicelaw04_Ref.step a0) (.l1 0 ([]:List spliceref04_Pair))

inductive splicelaw12_Ref_c8.S where
 | l1
 | l2 (x2_7:Int) (x2_r3:List spliceref12_Entry)
 | l3 (x2_r3:List spliceref12_Entry)

noncomputable def splicelaw12_Ref_c8.l1:Option (splicelaw12_Ref_c8.S ⊕ spliceref12_Core):=
 some (.inl (.l2 0 ([]:List spliceref12_Entry)))

noncomputable def splicelaw12_Ref_c8.l2 (a0:List api_Entry) (x2_7:Int) (x2_r3:List spliceref12_Entry):Option (splicelaw12_Ref_c8.S ⊕ spliceref12_Core):=
 if x2_7 < (a0.length:Int) then
  if 0≤x2_7∧x2_7 < (a0.length:Int) then
   (splicelaw04_Ref ((a0.getD x2_7.toNat api_Entry.z).M)).bind fun v2=>
   if (x2_r3.length+1) * 88≤140737488355328 then
    some (.inl (.l2 (IntKind.wrap .i64 (x2_7+1)) (x2_r3 ++ [(⟨v2,(a0.getD x2_7.toNat api_Entry.z).Time,(a0.getD x2_7.toNat api_Entry.z).Done⟩:spliceref12_Entry)])))
   else none
  else none
 else
  some (.inl (.l3 x2_r3))

noncomputable def splicelaw12_Ref_c8.l3 (v1:List spliceref04_Pair) (x2_r3:List spliceref12_Entry):Option (splicelaw12_Ref_c8.S ⊕ spliceref12_Core):=
 some (.inr (⟨0,(⟨0,0⟩:spliceref03_Span),0,false,false,([]:List spliceref12_Wait),v1,x2_r3,([]:List spliceref12_Known)⟩:spliceref12_Core))

noncomputable def splicelaw12_Ref_c8.step (a0:List api_Entry) (v1:List spliceref04_Pair):splicelaw12_Ref_c8.S→Option (splicelaw12_Ref_c8.S ⊕ spliceref12_Core)
 | .l1=>splicelaw12_Ref_c8.l1
 | .l2 x2_7 x2_r3=>splicelaw12_Ref_c8.l2 a0 x2_7 x2_r3
 | .l3 x2_r3=>splicelaw12_Ref_c8.l3 v1 x2_r3

noncomputable def splicelaw12_Ref_c8 (a0:List api_Entry):Option spliceref12_Core:=
 (splicelaw05_Refs ([]:List api_Pair)).bind fun v1=>
 goLoop (splicelaw12_Ref_c8.step a0 v1) (.l1)

noncomputable def splicelaw24_Entries (a0:List api_Entry):Option (List spliceref12_Entry):=
 (splicelaw12_Ref_c8 a0).bind fun v1=>
 some v1.Log

inductive splicelaw24_events.S where
 | l1 (x1_4:Int) (x1_r0:List spliceref24_Event)

noncomputable def splicelaw24_events.l1 (a0:List api_Event) (x1_4:Int) (x1_r0:List spliceref24_Event):Option (splicelaw24_events.S ⊕ (List spliceref24_Event)):=
 if x1_4 < (a0.length:Int) then
  if 0≤x1_4∧x1_4 < (a0.length:Int) then
   (splicelaw04_Ref ((a0.getD x1_4.toNat api_Event.z).M)).bind fun v1=>
   if (x1_r0.length+1) * 120≤140737488355328 then
    some (.inl (.l1 (IntKind.wrap .i64 (x1_4+1)) (x1_r0 ++ [(⟨(a0.getD x1_4.toNat api_Event.z).Kind,(a0.getD x1_4.toNat api_Event.z).Client,v1,(a0.getD x1_4.toNat api_Event.z).Key,(⟨((a0.getD x1_4.toNat api_Event.z).Cell).Val,((a0.getD x1_4.toNat api_Event.z).Cell).Some⟩:spliceref05_Cell),(a0.getD x1_4.toNat api_Event.z).Mark⟩:spliceref24_Event)])))
   else none
  else none
 else
  some (.inr x1_r0)

noncomputable def splicelaw24_events.step (a0:List api_Event):splicelaw24_events.S→Option (splicelaw24_events.S ⊕ (List spliceref24_Event))
 | .l1 x1_4 x1_r0=>splicelaw24_events.l1 a0 x1_4 x1_r0

noncomputable def splicelaw24_events (a0:List api_Event):Option (List spliceref24_Event):=
 goLoop (splicelaw24_events.step a0) (.l1 0 ([]:List spliceref24_Event))

noncomputable def spliceref03_One.j1 (y1_2:Bool):Bool:=
 y1_2

noncomputable def spliceref03_One (a0:spliceref03_Span):Bool:=
 if a0.Lo≥0 then
  if a0.Lo < a0.Hi then
   spliceref03_One.j1 (decide (a0.Hi≤4096))
  else
   spliceref03_One.j1 false
 else
  spliceref03_One.j1 false

noncomputable def spliceref04_value.j1 (y1_2:Bool):Bool:=
 y1_2

noncomputable def spliceref04_value (a0:Int):Bool:=
 if a0≥(-1099511627776) then
  spliceref04_value.j1 (decide (a0≤1099511627776))
 else
  spliceref04_value.j1 false

inductive spliceref04_pairs.S where
 | l1 (x1_7:Int)

noncomputable def spliceref04_pairs.j2 (x1_7:Int) (y2_46:Bool):Option (spliceref04_pairs.S ⊕ Bool):=
 if y2_46=true then
  some (.inr false)
 else
  some (.inl (.l1 (IntKind.wrap .i64 (x1_7+1))))

noncomputable def spliceref04_pairs.l1 (a0:List spliceref04_Pair) (x1_7:Int):Option (spliceref04_pairs.S ⊕ Bool):=
 if x1_7 < (a0.length:Int) then
  if 0≤x1_7∧x1_7 < (a0.length:Int) then
   if ((a0.getD x1_7.toNat spliceref04_Pair.z).Key) < 0 then
    spliceref04_pairs.j2 x1_7 true
   else
    if ((a0.getD x1_7.toNat spliceref04_Pair.z).Key) > 4095 then
     spliceref04_pairs.j2 x1_7 true
    else
     spliceref04_pairs.j2 x1_7 (!(spliceref04_value ((a0.getD x1_7.toNat spliceref04_Pair.z).Val)))
  else none
 else
  some (.inr true)

noncomputable def spliceref04_pairs.step (a0:List spliceref04_Pair):spliceref04_pairs.S→Option (spliceref04_pairs.S ⊕ Bool)
 | .l1 x1_7=>spliceref04_pairs.l1 a0 x1_7

noncomputable def spliceref04_pairs.j1 (a0:List spliceref04_Pair) (y1_17:Bool):Option Bool:=
 if y1_17=true then
  some false
 else
  goLoop (spliceref04_pairs.step a0) (.l1 0)

noncomputable def spliceref04_pairs (a0:List spliceref04_Pair) (a1:Int) (a2:Int):Option Bool:=
 if (a0.length:Int) < a1 then
  spliceref04_pairs.j1 a0 true
 else
  spliceref04_pairs.j1 a0 (decide ((a0.length:Int) > a2))

noncomputable def spliceref04_Check.j2 (y2_2:Bool):Option Bool:=
 some y2_2

noncomputable def spliceref04_Check.j4 (y4_2:Bool):Option Bool:=
 some y4_2

inductive spliceref04_Check.S where
 | l1 (x1_3:Int)

noncomputable def spliceref04_Check.l1 (a0:spliceref04_Mut) (x1_3:Int):Option (spliceref04_Check.S ⊕ Bool):=
 if x1_3 < (a0.Pairs.length:Int) then
  if 0≤(IntKind.wrap .i64 (x1_3 - 1))∧(IntKind.wrap .i64 (x1_3 - 1)) < (a0.Pairs.length:Int) then
   if 0≤x1_3∧x1_3 < (a0.Pairs.length:Int) then
    if ((a0.Pairs.getD ((IntKind.wrap .i64 (x1_3 - 1)).toNat) spliceref04_Pair.z).Key)≥((a0.Pairs.getD x1_3.toNat spliceref04_Pair.z).Key) then
     some (.inr false)
    else
     some (.inl (.l1 (IntKind.wrap .i64 (x1_3+1))))
   else none
  else none
 else
  (spliceref04_pairs a0.Pairs 1 8).bind fun v2=>
  some (.inr v2)

noncomputable def spliceref04_Check.step (a0:spliceref04_Mut):spliceref04_Check.S→Option (spliceref04_Check.S ⊕ Bool)
 | .l1 x1_3=>spliceref04_Check.l1 a0 x1_3

noncomputable def spliceref04_Check.j5 (y5_2:Bool):Option Bool:=
 some y5_2

noncomputable def spliceref04_Check.j3 (a0:spliceref04_Mut) (y3_48:Bool):Option Bool:=
 if y3_48=true then
  some false
 else
  if a0.Kind=4 then
   (spliceref04_pairs a0.Pairs 1 1).bind fun v1=>
   if v1=true then
    if (spliceref04_value a0.Old)=true then
     spliceref04_Check.j4 true
    else
     spliceref04_Check.j4 (a0.Old == 1099511627777)
   else
    spliceref04_Check.j4 false
  else
   if a0.Old=0 then
    if a0.Kind=1 then
     goLoop (spliceref04_Check.step a0) (.l1 1)
    else
     if a0.Kind=3 then
      (spliceref04_pairs a0.Pairs 1 1).bind fun v3=>
      some v3
     else
      if a0.Kind=5 then
       (spliceref04_pairs a0.Pairs 2 2).bind fun v4=>
       if v4=true then
        if (0:Int)≤0∧0 < (a0.Pairs.length:Int) then
         if (0:Int)≤1∧1 < (a0.Pairs.length:Int) then
          if ((a0.Pairs.getD 0 spliceref04_Pair.z).Key)=((a0.Pairs.getD 1 spliceref04_Pair.z).Key) then
           spliceref04_Check.j5 false
          else
           if ((a0.Pairs.getD 0 spliceref04_Pair.z).Val)=((a0.Pairs.getD 1 spliceref04_Pair.z).Val) then
            spliceref04_Check.j5 (decide (((a0.Pairs.getD 0 spliceref04_Pair.z).Val)≥0))
           else
            spliceref04_Check.j5 false
         else none
        else none
       else
        spliceref04_Check.j5 false
      else
       spliceref04_Check.j5 false
   else
    some false

noncomputable def spliceref04_Check.j1 (a0:spliceref04_Mut) (y1_21:Bool):Option Bool:=
 if y1_21=true then
  some false
 else
  if a0.Kind=2 then
   if (a0.Pairs.length:Int)=0 then
    if a0.Old=0 then
     spliceref04_Check.j2 (spliceref03_One a0.Over)
    else
     spliceref04_Check.j2 false
   else
    spliceref04_Check.j2 false
  else
   if a0.Over.Lo=0 then
    spliceref04_Check.j3 a0 (a0.Over.Hi != 0)
   else
    spliceref04_Check.j3 a0 true

noncomputable def spliceref04_Check (a0:spliceref04_Mut):Option Bool:=
 if a0.Client < 1 then
  spliceref04_Check.j1 a0 true
 else
  if a0.Client > 1048576 then
   spliceref04_Check.j1 a0 true
  else
   if a0.Seq < 1 then
    spliceref04_Check.j1 a0 true
   else
    spliceref04_Check.j1 a0 (decide (a0.Seq > 1073741824))

noncomputable def spliceref24_stamp (a0:spliceref12_Entry):spliceref04_Stamp:=
 (⟨a0.Time,a0.M.Client,a0.M.Seq⟩:spliceref04_Stamp)

noncomputable def spliceref04_Ahead (a0:spliceref04_Stamp) (a1:spliceref04_Stamp):Bool:=
 if a0.Time=a1.Time then
  if a0.Client=a1.Client then
   decide (a0.Seq < a1.Seq)
  else
   decide (a0.Client < a1.Client)
 else
  decide (a0.Time < a1.Time)

inductive spliceref24_Order.S where
 | l1 (x1_3:Int)

noncomputable def spliceref24_Order.j1 (x1_3:Int) (y1_35:Bool):Option (spliceref24_Order.S ⊕ Bool):=
 if y1_35=true then
  some (.inr false)
 else
  some (.inl (.l1 (IntKind.wrap .i64 (x1_3+1))))

noncomputable def spliceref24_Order.l1 (a0:List spliceref12_Entry) (x1_3:Int):Option (spliceref24_Order.S ⊕ Bool):=
 if x1_3 < (a0.length:Int) then
  if 0≤x1_3∧x1_3 < (a0.length:Int) then
   (spliceref04_Check ((a0.getD x1_3.toNat spliceref12_Entry.z).M)).bind fun v1=>
   if v1=true then
    if x1_3 > 0 then
     if 0≤(IntKind.wrap .i64 (x1_3 - 1))∧(IntKind.wrap .i64 (x1_3 - 1)) < (a0.length:Int) then
      spliceref24_Order.j1 x1_3 (!(spliceref04_Ahead (spliceref24_stamp (a0.getD ((IntKind.wrap .i64 (x1_3 - 1)).toNat) spliceref12_Entry.z)) (spliceref24_stamp (a0.getD x1_3.toNat spliceref12_Entry.z))))
     else none
    else
     spliceref24_Order.j1 x1_3 false
   else
    spliceref24_Order.j1 x1_3 true
  else none
 else
  some (.inr true)

noncomputable def spliceref24_Order.step (a0:List spliceref12_Entry):spliceref24_Order.S→Option (spliceref24_Order.S ⊕ Bool)
 | .l1 x1_3=>spliceref24_Order.l1 a0 x1_3

noncomputable def spliceref24_Order (a0:List spliceref12_Entry):Option Bool:=
 goLoop (spliceref24_Order.step a0) (.l1 0)

inductive spliceref04_Same.S where
 | l1 (x1_5:Int)

noncomputable def spliceref04_Same.l1 (a0:spliceref04_Mut) (a1:spliceref04_Mut) (x1_5:Int):Option (spliceref04_Same.S ⊕ Bool):=
 if x1_5 < (a0.Pairs.length:Int) then
  if 0≤x1_5∧x1_5 < (a0.Pairs.length:Int) then
   if 0≤x1_5∧x1_5 < (a1.Pairs.length:Int) then
    if ((a0.Pairs.getD x1_5.toNat spliceref04_Pair.z).Key)=((a1.Pairs.getD x1_5.toNat spliceref04_Pair.z).Key) then
     if ((a0.Pairs.getD x1_5.toNat spliceref04_Pair.z).Val)=((a1.Pairs.getD x1_5.toNat spliceref04_Pair.z).Val) then
      some (.inl (.l1 (IntKind.wrap .i64 (x1_5+1))))
     else
      some (.inr false)
    else
     if ((a0.Pairs.getD x1_5.toNat spliceref04_Pair.z).Val)=((a1.Pairs.getD x1_5.toNat spliceref04_Pair.z).Val) then
      some (.inr false)
     else
      some (.inr false)
   else none
  else none
 else
  some (.inr true)

noncomputable def spliceref04_Same.step (a0:spliceref04_Mut) (a1:spliceref04_Mut):spliceref04_Same.S→Option (spliceref04_Same.S ⊕ Bool)
 | .l1 x1_5=>spliceref04_Same.l1 a0 a1 x1_5

noncomputable def spliceref04_Same.j1 (a0:spliceref04_Mut) (a1:spliceref04_Mut) (y1_47:Bool):Option Bool:=
 if y1_47=true then
  some false
 else
  goLoop (spliceref04_Same.step a0 a1) (.l1 0)

noncomputable def spliceref04_Same (a0:spliceref04_Mut) (a1:spliceref04_Mut):Option Bool:=
 if a0.Client=a1.Client then
  if a0.Seq=a1.Seq then
   if a0.Kind=a1.Kind then
    if a0.Over.Lo=a1.Over.Lo then
     if a0.Over.Hi=a1.Over.Hi then
      if a0.Old=a1.Old then
       spliceref04_Same.j1 a0 a1 ((a0.Pairs.length:Int) != (a1.Pairs.length:Int))
      else
       spliceref04_Same.j1 a0 a1 true
     else
      spliceref04_Same.j1 a0 a1 true
    else
     if a0.Over.Hi=a1.Over.Hi then
      spliceref04_Same.j1 a0 a1 true
     else
      spliceref04_Same.j1 a0 a1 true
   else
    spliceref04_Same.j1 a0 a1 true
  else
   spliceref04_Same.j1 a0 a1 true
 else
  spliceref04_Same.j1 a0 a1 true

noncomputable def spliceref24_formed.j1 (y1_2:Bool):Option Bool:=
 some y1_2

noncomputable def spliceref24_formed.j3 (y3_2:Bool):Option Bool:=
 some y3_2

noncomputable def spliceref24_formed.j2 (a0:spliceref24_Event) (y2_73:Bool):Option Bool:=
 if y2_73=true then
  some false
 else
  if a0.Cell.Some=true then
   if a0.Cell.Val≥(-1099511627776) then
    spliceref24_formed.j3 (decide (a0.Cell.Val≤1099511627776))
   else
    spliceref24_formed.j3 false
  else
   if a0.Cell.Val=0 then
    spliceref24_formed.j3 true
   else
    spliceref24_formed.j3 false

noncomputable def spliceref24_formed (a0:spliceref24_Event):Option Bool:=
 if a0.Kind=1 then
  (spliceref04_Check a0.M).bind fun v1=>
  if v1=true then
   if a0.M.Client=a0.Client then
    if a0.Key=0 then
     if a0.Cell.Some=true then
      spliceref24_formed.j1 false
     else
      if a0.Cell.Val=0 then
       spliceref24_formed.j1 (a0.Mark == 0)
      else
       spliceref24_formed.j1 false
    else
     spliceref24_formed.j1 false
   else
    spliceref24_formed.j1 false
  else
   spliceref24_formed.j1 false
 else
  if a0.Kind=2 then
   (spliceref04_Same a0.M (⟨0,0,0,[],(⟨0,0⟩:spliceref03_Span),0⟩:spliceref04_Mut)).bind fun v2=>
   if v2=true then
    if a0.Client < 1 then
     spliceref24_formed.j2 a0 true
    else
     if a0.Client > 1048576 then
      spliceref24_formed.j2 a0 true
     else
      if a0.Key < 0 then
       spliceref24_formed.j2 a0 true
      else
       if a0.Key≥4096 then
        spliceref24_formed.j2 a0 true
       else
        spliceref24_formed.j2 a0 (decide (a0.Mark < 0))
   else
    spliceref24_formed.j2 a0 true
  else
   spliceref24_formed.j2 a0 true

inductive spliceref24_issued.S where
 | l1 (x1_8:Int) (x1_r0:List spliceref04_Mut)

noncomputable def spliceref24_issued.j3 (x1_8:Int) (y3_r0:List spliceref04_Mut):Option (spliceref24_issued.S ⊕ (List spliceref04_Mut)):=
 some (.inl (.l1 (IntKind.wrap .i64 (x1_8+1)) y3_r0))

noncomputable def spliceref24_issued.j2 (a0:List spliceref24_Event) (x1_8:Int) (x1_r0:List spliceref04_Mut) (y2_46:Bool):Option (spliceref24_issued.S ⊕ (List spliceref04_Mut)):=
 if y2_46=true then
  if (x1_r0.length+1) * 72≤140737488355328 then
   spliceref24_issued.j3 x1_8 (x1_r0 ++ [((a0.getD x1_8.toNat spliceref24_Event.z).M)])
  else none
 else
  spliceref24_issued.j3 x1_8 x1_r0

noncomputable def spliceref24_issued.j1 (a0:List spliceref24_Event) (a2:Int) (x1_8:Int) (x1_r0:List spliceref04_Mut) (y1_18:Bool):Option (spliceref24_issued.S ⊕ (List spliceref04_Mut)):=
 if y1_18=true then
  if 0≤x1_8∧x1_8 < (a0.length:Int) then
   if ((a0.getD x1_8.toNat spliceref24_Event.z).Kind)=1 then
    if ((a0.getD x1_8.toNat spliceref24_Event.z).Client)=a2 then
     (spliceref24_formed (a0.getD x1_8.toNat spliceref24_Event.z)).bind fun v1=>
     if v1=true then
      spliceref24_issued.j2 a0 x1_8 x1_r0 ((((a0.getD x1_8.toNat spliceref24_Event.z).M).Seq) == (IntKind.wrap .i64 ((x1_r0.length:Int)+1)))
     else
      spliceref24_issued.j2 a0 x1_8 x1_r0 false
    else
     spliceref24_issued.j2 a0 x1_8 x1_r0 false
   else
    spliceref24_issued.j2 a0 x1_8 x1_r0 false
  else none
 else
  some (.inr x1_r0)

noncomputable def spliceref24_issued.l1 (a0:List spliceref24_Event) (a1:Int) (a2:Int) (x1_8:Int) (x1_r0:List spliceref04_Mut):Option (spliceref24_issued.S ⊕ (List spliceref04_Mut)):=
 if x1_8 < a1 then
  spliceref24_issued.j1 a0 a2 x1_8 x1_r0 (decide (x1_8 < (a0.length:Int)))
 else
  spliceref24_issued.j1 a0 a2 x1_8 x1_r0 false

noncomputable def spliceref24_issued.step (a0:List spliceref24_Event) (a1:Int) (a2:Int):spliceref24_issued.S→Option (spliceref24_issued.S ⊕ (List spliceref04_Mut))
 | .l1 x1_8 x1_r0=>spliceref24_issued.l1 a0 a1 a2 x1_8 x1_r0

noncomputable def spliceref24_issued (a0:List spliceref24_Event) (a1:Int) (a2:Int):Option (List spliceref04_Mut):=
 goLoop (spliceref24_issued.step a0 a1 a2) (.l1 0 ([]:List spliceref04_Mut))

inductive spliceref24_Pending.S where
 | l1 (x1_13:Int) (x1_r1:List spliceref04_Mut)
 | l2 (x2_13:Int) (x2_14:Bool) (x2_15:Int) (x2_r1:List spliceref04_Mut)

noncomputable def spliceref24_Pending.j2 (x2_13:Int) (x2_15:Int) (x2_r1:List spliceref04_Mut) (y2_14:Bool):Option (spliceref24_Pending.S ⊕ (List spliceref04_Mut)):=
 some (.inl (.l2 x2_13 y2_14 (IntKind.wrap .i64 (x2_15+1)) x2_r1))

noncomputable def spliceref24_Pending.j1 (x2_13:Int) (y1_r1:List spliceref04_Mut):Option (spliceref24_Pending.S ⊕ (List spliceref04_Mut)):=
 some (.inl (.l1 (IntKind.wrap .i64 (x2_13+1)) y1_r1))

noncomputable def spliceref24_Pending.l1 (v2:List spliceref04_Mut) (x1_13:Int) (x1_r1:List spliceref04_Mut):Option (spliceref24_Pending.S ⊕ (List spliceref04_Mut)):=
 if x1_13 < (v2.length:Int) then
  some (.inl (.l2 x1_13 false 0 x1_r1))
 else
  some (.inr x1_r1)

noncomputable def spliceref24_Pending.l2 (a0:List spliceref12_Entry) (a3:Int) (a4:Int) (v2:List spliceref04_Mut) (x2_13:Int) (x2_14:Bool) (x2_15:Int) (x2_r1:List spliceref04_Mut):Option (spliceref24_Pending.S ⊕ (List spliceref04_Mut)):=
 if x2_15 < (a0.length:Int) then
  if x2_14=true then
   spliceref24_Pending.j2 x2_13 x2_15 x2_r1 true
  else
   if 0≤x2_15∧x2_15 < (a0.length:Int) then
    if (((a0.getD x2_15.toNat spliceref12_Entry.z).M).Client)=a3 then
     if 0≤x2_13∧x2_13 < (v2.length:Int) then
      if (((a0.getD x2_15.toNat spliceref12_Entry.z).M).Seq)=((v2.getD x2_13.toNat spliceref04_Mut.z).Seq) then
       spliceref24_Pending.j2 x2_13 x2_15 x2_r1 (decide (((a0.getD x2_15.toNat spliceref12_Entry.z).Time)≤a4))
      else
       spliceref24_Pending.j2 x2_13 x2_15 x2_r1 false
     else none
    else
     spliceref24_Pending.j2 x2_13 x2_15 x2_r1 false
   else none
 else
  if x2_14=true then
   spliceref24_Pending.j1 x2_13 x2_r1
  else
   if 0≤x2_13∧x2_13 < (v2.length:Int) then
    if (x2_r1.length+1) * 72≤140737488355328 then
     spliceref24_Pending.j1 x2_13 (x2_r1 ++ [v2.getD x2_13.toNat spliceref04_Mut.z])
    else none
   else none

noncomputable def spliceref24_Pending.step (a0:List spliceref12_Entry) (a3:Int) (a4:Int) (v2:List spliceref04_Mut):spliceref24_Pending.S→Option (spliceref24_Pending.S ⊕ (List spliceref04_Mut))
 | .l1 x1_13 x1_r1=>spliceref24_Pending.l1 v2 x1_13 x1_r1
 | .l2 x2_13 x2_14 x2_15 x2_r1=>spliceref24_Pending.l2 a0 a3 a4 v2 x2_13 x2_14 x2_15 x2_r1

noncomputable def spliceref24_Pending (a0:List spliceref12_Entry) (a1:List spliceref24_Event) (a2:Int) (a3:Int) (a4:Int):Option (List spliceref04_Mut):=
 (spliceref24_Order a0).bind fun v1=>
 if v1=true then
  (spliceref24_issued a1 a2 a3).bind fun v2=>
  goLoop (spliceref24_Pending.step a0 a3 a4 v2) (.l1 0 ([]:List spliceref04_Mut))
 else
  some ([]:List spliceref04_Mut)

inductive splicelaw24_few.S where
 | l1 (x1_5:Int)
 | l2 (x2_6:Int)

noncomputable def splicelaw24_few.j1 (x1_5:Int) (y1_24:Bool):Option (splicelaw24_few.S ⊕ Bool):=
 if y1_24=true then
  some (.inr false)
 else
  some (.inl (.l1 (IntKind.wrap .i64 (x1_5+1))))

noncomputable def splicelaw24_few.j2 (x2_6:Int) (y2_42:Bool):Option (splicelaw24_few.S ⊕ Bool):=
 if y2_42=true then
  some (.inr false)
 else
  some (.inl (.l2 (IntKind.wrap .i64 (x2_6+1))))

noncomputable def splicelaw24_few.l1 (a0:List api_Entry) (x1_5:Int):Option (splicelaw24_few.S ⊕ Bool):=
 if x1_5 < (a0.length:Int) then
  if x1_5≥30 then
   splicelaw24_few.j1 x1_5 true
  else
   if 0≤x1_5∧x1_5 < (a0.length:Int) then
    splicelaw24_few.j1 x1_5 (decide (((((a0.getD x1_5.toNat api_Entry.z).M).Pairs).length:Int) > 10))
   else none
 else
  some (.inl (.l2 0))

noncomputable def splicelaw24_few.l2 (a1:List api_Event) (x2_6:Int):Option (splicelaw24_few.S ⊕ Bool):=
 if x2_6 < (a1.length:Int) then
  if x2_6≥30 then
   splicelaw24_few.j2 x2_6 true
  else
   if 0≤x2_6∧x2_6 < (a1.length:Int) then
    splicelaw24_few.j2 x2_6 (decide (((((a1.getD x2_6.toNat api_Event.z).M).Pairs).length:Int) > 10))
   else none
 else
  some (.inr true)

noncomputable def splicelaw24_few.step (a0:List api_Entry) (a1:List api_Event):splicelaw24_few.S→Option (splicelaw24_few.S ⊕ Bool)
 | .l1 x1_5=>splicelaw24_few.l1 a0 x1_5
 | .l2 x2_6=>splicelaw24_few.l2 a1 x2_6

noncomputable def splicelaw24_few (a0:List api_Entry) (a1:List api_Event):Option Bool:=
 goLoop (splicelaw24_few.step a0 a1) (.l1 0)

inductive audit_Pending.S where
 | l1 (x1_31:Int) (x1_r1:List api_Mut)

noncomputable def audit_Pending.j3 (x1_31:Int) (y3_r1:List api_Mut):Option (audit_Pending.S ⊕ (List api_Mut)):=
 some (.inl (.l1 (IntKind.wrap .i64 (x1_31+1)) y3_r1))

noncomputable def audit_Pending.j2 (a1:List api_Event) (a2:Int) (x1_31:Int) (x1_r1:List api_Mut) (y2_59:Bool):Option (audit_Pending.S ⊕ (List api_Mut)):=
 if y2_59=true then
  if (((((a1.drop 0).take ((iMin a2 (a1.length:Int)).toNat - 0)).getD x1_31.toNat api_Event.z).M).Pairs).length * 16≤140737488355328 then
   if (x1_r1.length+1) * 72≤140737488355328 then
    audit_Pending.j3 x1_31 (x1_r1 ++ [((((a1.drop 0).take ((iMin a2 (a1.length:Int)).toNat - 0)).getD x1_31.toNat api_Event.z).M)])
   else none
  else none
 else
  audit_Pending.j3 x1_31 x1_r1

noncomputable def audit_Pending.l1 (a0:List api_Entry) (a1:List api_Event) (a2:Int) (a3:Int) (a4:Int) (x1_31:Int) (x1_r1:List api_Mut):Option (audit_Pending.S ⊕ (List api_Mut)):=
 if x1_31 < (((a1.drop 0).take ((iMin a2 (a1.length:Int)).toNat - 0)).length:Int) then
  if 0≤x1_31∧x1_31 < (((a1.drop 0).take ((iMin a2 (a1.length:Int)).toNat - 0)).length:Int) then
   if ((((a1.drop 0).take ((iMin a2 (a1.length:Int)).toNat - 0)).getD x1_31.toNat api_Event.z).Kind)=1 then
    if ((((a1.drop 0).take ((iMin a2 (a1.length:Int)).toNat - 0)).getD x1_31.toNat api_Event.z).Client)=a3 then
     (audit_formed (((a1.drop 0).take ((iMin a2 (a1.length:Int)).toNat - 0)).getD x1_31.toNat api_Event.z)).bind fun v3=>
     if v3=true then
      audit_Pending.j2 a1 a2 x1_31 x1_r1 ((((((a1.drop 0).take ((iMin a2 (a1.length:Int)).toNat - 0)).getD x1_31.toNat api_Event.z).M).Seq) == (IntKind.wrap .i64 ((x1_r1.length:Int)+1)))
     else
      audit_Pending.j2 a1 a2 x1_31 x1_r1 false
    else
     audit_Pending.j2 a1 a2 x1_31 x1_r1 false
   else
    audit_Pending.j2 a1 a2 x1_31 x1_r1 false
  else none
 else
  (audit_pendings_l1 a0 (⟨x1_r1,0⟩:audit_done) a4).bind fun v2=>
  some (.inr v2)

noncomputable def audit_Pending.step (a0:List api_Entry) (a1:List api_Event) (a2:Int) (a3:Int) (a4:Int):audit_Pending.S→Option (audit_Pending.S ⊕ (List api_Mut))
 | .l1 x1_31 x1_r1=>audit_Pending.l1 a0 a1 a2 a3 a4 x1_31 x1_r1

noncomputable def audit_Pending.j1 (a0:List api_Entry) (a1:List api_Event) (a2:Int) (a3:Int) (a4:Int) (y1_21:Bool):Option (List api_Mut):=
 if y1_21=true then
  some ([]:List api_Mut)
 else
  if 0≤(0:Int)∧(0:Int)≤(iMin a2 (a1.length:Int))∧(iMin a2 (a1.length:Int))≤(a1.length:Int) then
   goLoop (audit_Pending.step a0 a1 a2 a3 a4) (.l1 0 ([]:List api_Mut))
  else none

noncomputable def audit_Pending (a0:List api_Entry) (a1:List api_Event) (a2:Int) (a3:Int) (a4:Int):Option (List api_Mut):=
 (audit_Order a0).bind fun v1=>
 if v1=true then
  audit_Pending.j1 a0 a1 a2 a3 a4 (decide (a2 < 0))
 else
  audit_Pending.j1 a0 a1 a2 a3 a4 true
end Go.SyP
