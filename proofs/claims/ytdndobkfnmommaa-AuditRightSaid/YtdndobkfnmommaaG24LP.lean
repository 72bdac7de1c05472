/- Plain functions, printed by gen24.py. -/
import Derived.Test.YtdndobkfnmommaaG24WP
set_option linter.unusedVariables false
namespace Go.SyP
open Go Go.Sy

noncomputable def splicelaw24_awake.j1 (y1_0:Bool):Option Bool:=
 some y1_0

noncomputable def splicelaw24_awake:Option Bool:=
 (audit_Check ([(⟨(⟨1,1,1,([(⟨5,7⟩:api_Pair)]:List api_Pair),(⟨0,0⟩:api_Span),0⟩:api_Mut),3,true⟩:api_Entry)]:List api_Entry) ([(⟨1,1,(⟨1,1,1,([(⟨5,7⟩:api_Pair)]:List api_Pair),(⟨0,0⟩:api_Span),0⟩:api_Mut),0,(⟨0,false⟩:api_Cell),0⟩:api_Event),(⟨2,1,(⟨0,0,0,([]:List api_Pair),(⟨0,0⟩:api_Span),0⟩:api_Mut),5,(⟨7,true⟩:api_Cell),0⟩:api_Event),(⟨2,1,(⟨0,0,0,([]:List api_Pair),(⟨0,0⟩:api_Span),0⟩:api_Mut),5,(⟨7,true⟩:api_Cell),4⟩:api_Event)]:List api_Event)).bind fun v1=>
 if (0:Int)≤2∧2 < (([(⟨1,1,(⟨1,1,1,([(⟨5,7⟩:api_Pair)]:List api_Pair),(⟨0,0⟩:api_Span),0⟩:api_Mut),0,(⟨0,false⟩:api_Cell),0⟩:api_Event),(⟨2,1,(⟨0,0,0,([]:List api_Pair),(⟨0,0⟩:api_Span),0⟩:api_Mut),5,(⟨7,true⟩:api_Cell),0⟩:api_Event),(⟨2,1,(⟨0,0,0,([]:List api_Pair),(⟨0,0⟩:api_Span),0⟩:api_Mut),5,(⟨7,true⟩:api_Cell),4⟩:api_Event)]:List api_Event).length:Int) then
  (audit_Check ([(⟨(⟨1,1,1,([(⟨5,7⟩:api_Pair)]:List api_Pair),(⟨0,0⟩:api_Span),0⟩:api_Mut),3,true⟩:api_Entry)]:List api_Entry) (([(⟨1,1,(⟨1,1,1,([(⟨5,7⟩:api_Pair)]:List api_Pair),(⟨0,0⟩:api_Span),0⟩:api_Mut),0,(⟨0,false⟩:api_Cell),0⟩:api_Event),(⟨2,1,(⟨0,0,0,([]:List api_Pair),(⟨0,0⟩:api_Span),0⟩:api_Mut),5,(⟨7,true⟩:api_Cell),0⟩:api_Event),(⟨2,1,(⟨0,0,0,([]:List api_Pair),(⟨0,0⟩:api_Span),0⟩:api_Mut),5,(⟨7,true⟩:api_Cell),4⟩:api_Event)]:List api_Event).set 2 (⟨(([(⟨1,1,(⟨1,1,1,([(⟨5,7⟩:api_Pair)]:List api_Pair),(⟨0,0⟩:api_Span),0⟩:api_Mut),0,(⟨0,false⟩:api_Cell),0⟩:api_Event),(⟨2,1,(⟨0,0,0,([]:List api_Pair),(⟨0,0⟩:api_Span),0⟩:api_Mut),5,(⟨7,true⟩:api_Cell),0⟩:api_Event),(⟨2,1,(⟨0,0,0,([]:List api_Pair),(⟨0,0⟩:api_Span),0⟩:api_Mut),5,(⟨7,true⟩:api_Cell),4⟩:api_Event)]:List api_Event).getD 2 api_Event.z).Kind,(([(⟨1,1,(⟨1,1,1,([(⟨5,7⟩:api_Pair)]:List api_Pair),(⟨0,0⟩:api_Span),0⟩:api_Mut),0,(⟨0,false⟩:api_Cell),0⟩:api_Event),(⟨2,1,(⟨0,0,0,([]:List api_Pair),(⟨0,0⟩:api_Span),0⟩:api_Mut),5,(⟨7,true⟩:api_Cell),0⟩:api_Event),(⟨2,1,(⟨0,0,0,([]:List api_Pair),(⟨0,0⟩:api_Span),0⟩:api_Mut),5,(⟨7,true⟩:api_Cell),4⟩:api_Event)]:List api_Event).getD 2 api_Event.z).Client,((([(⟨1,1,(⟨1,1,1,([(⟨5,7⟩:api_Pair)]:List api_Pair),(⟨0,0⟩:api_Span),0⟩:api_Mut),0,(⟨0,false⟩:api_Cell),0⟩:api_Event),(⟨2,1,(⟨0,0,0,([]:List api_Pair),(⟨0,0⟩:api_Span),0⟩:api_Mut),5,(⟨7,true⟩:api_Cell),0⟩:api_Event),(⟨2,1,(⟨0,0,0,([]:List api_Pair),(⟨0,0⟩:api_Span),0⟩:api_Mut),5,(⟨7,true⟩:api_Cell),4⟩:api_Event)]:List api_Event).getD 2 api_Event.z).M),(([(⟨1,1,(⟨1,1,1,([(⟨5,7⟩:api_Pair)]:List api_Pair),(⟨0,0⟩:api_Span),0⟩:api_Mut),0,(⟨0,false⟩:api_Cell),0⟩:api_Event),(⟨2,1,(⟨0,0,0,([]:List api_Pair),(⟨0,0⟩:api_Span),0⟩:api_Mut),5,(⟨7,true⟩:api_Cell),0⟩:api_Event),(⟨2,1,(⟨0,0,0,([]:List api_Pair),(⟨0,0⟩:api_Span),0⟩:api_Mut),5,(⟨7,true⟩:api_Cell),4⟩:api_Event)]:List api_Event).getD 2 api_Event.z).Key,(⟨8,((([(⟨1,1,(⟨1,1,1,([(⟨5,7⟩:api_Pair)]:List api_Pair),(⟨0,0⟩:api_Span),0⟩:api_Mut),0,(⟨0,false⟩:api_Cell),0⟩:api_Event),(⟨2,1,(⟨0,0,0,([]:List api_Pair),(⟨0,0⟩:api_Span),0⟩:api_Mut),5,(⟨7,true⟩:api_Cell),0⟩:api_Event),(⟨2,1,(⟨0,0,0,([]:List api_Pair),(⟨0,0⟩:api_Span),0⟩:api_Mut),5,(⟨7,true⟩:api_Cell),4⟩:api_Event)]:List api_Event).getD 2 api_Event.z).Cell).Some⟩:api_Cell),(([(⟨1,1,(⟨1,1,1,([(⟨5,7⟩:api_Pair)]:List api_Pair),(⟨0,0⟩:api_Span),0⟩:api_Mut),0,(⟨0,false⟩:api_Cell),0⟩:api_Event),(⟨2,1,(⟨0,0,0,([]:List api_Pair),(⟨0,0⟩:api_Span),0⟩:api_Mut),5,(⟨7,true⟩:api_Cell),0⟩:api_Event),(⟨2,1,(⟨0,0,0,([]:List api_Pair),(⟨0,0⟩:api_Span),0⟩:api_Mut),5,(⟨7,true⟩:api_Cell),4⟩:api_Event)]:List api_Event).getD 2 api_Event.z).Mark⟩:api_Event))).bind fun v2=>
  if v1.2=0 then
   if (v1.1.length:Int)=0 then
    if v2.2=0 then
     if (v2.1.length:Int)=1 then
      if (0:Int)≤0∧0 < (v2.1.length:Int) then
       splicelaw24_awake.j1 ((((v2.1.getD 0 api_Finding.z).At) == 2) && (((v2.1.getD 0 api_Finding.z).Why) == 4))
      else none
     else
      splicelaw24_awake.j1 false
    else
     splicelaw24_awake.j1 false
   else
    splicelaw24_awake.j1 false
  else
   splicelaw24_awake.j1 false
 else none

inductive spliceref01_Same.S where
 | l1 (x1_5:Int)

noncomputable def spliceref01_Same.l1 (a0:List Int) (a1:List Int) (x1_5:Int):Option (spliceref01_Same.S ⊕ Bool):=
 if x1_5 < (a0.length:Int) then
  if 0≤x1_5∧x1_5 < (a0.length:Int) then
   if 0≤x1_5∧x1_5 < (a1.length:Int) then
    if (a0.getD x1_5.toNat 0)=(a1.getD x1_5.toNat 0) then
     some (.inl (.l1 (IntKind.wrap .i64 (x1_5+1))))
    else
     some (.inr false)
   else none
  else none
 else
  some (.inr true)

noncomputable def spliceref01_Same.step (a0:List Int) (a1:List Int):spliceref01_Same.S→Option (spliceref01_Same.S ⊕ Bool)
 | .l1 x1_5=>spliceref01_Same.l1 a0 a1 x1_5

noncomputable def spliceref01_Same (a0:List Int) (a1:List Int):Option Bool:=
 if (a0.length:Int)=(a1.length:Int) then
  goLoop (spliceref01_Same.step a0 a1) (.l1 0)
 else
  some false

inductive splicelaw24_AuditPending.S where
 | l1 (x1_9:Int)
 | l2 (x2_11:Int) (x2_r1:List Int)

noncomputable def splicelaw24_AuditPending.j3 (x2_11:Int) (y3_r1:List Int):Option (splicelaw24_AuditPending.S ⊕ Bool):=
 some (.inl (.l2 (IntKind.wrap .i64 (x2_11+1)) y3_r1))

noncomputable def splicelaw24_AuditPending.j2 (a1:List api_Event) (x2_11:Int) (x2_r1:List Int) (y2_80:Bool):Option (splicelaw24_AuditPending.S ⊕ Bool):=
 if y2_80=true then
  if (x2_r1.length+1) * 8≤140737488355328 then
   splicelaw24_AuditPending.j3 x2_11 (x2_r1 ++ [(a1.getD x2_11.toNat api_Event.z).Mark])
  else none
 else
  splicelaw24_AuditPending.j3 x2_11 x2_r1

noncomputable def splicelaw24_AuditPending.j1 (y1_6:Bool):Option (splicelaw24_AuditPending.S ⊕ Bool):=
 some (.inr y1_6)

noncomputable def splicelaw24_AuditPending.l1 (v3:List api_Mut) (v6:List spliceref04_Mut) (x1_9:Int):Option (splicelaw24_AuditPending.S ⊕ Bool):=
 if x1_9 < (v3.length:Int) then
  if 0≤x1_9∧x1_9 < (v3.length:Int) then
   (splicelaw04_Ref (v3.getD x1_9.toNat api_Mut.z)).bind fun v7=>
   if 0≤x1_9∧x1_9 < (v6.length:Int) then
    (spliceref04_Same v7 (v6.getD x1_9.toNat spliceref04_Mut.z)).bind fun v8=>
    if v8=true then
     some (.inl (.l1 (IntKind.wrap .i64 (x1_9+1))))
    else
     some (.inr false)
   else none
  else none
 else
  some (.inl (.l2 0 ([]:List Int)))

noncomputable def splicelaw24_AuditPending.l2 (a1:List api_Event) (a2:splicelaw24_Ask) (x2_11:Int) (x2_r1:List Int):Option (splicelaw24_AuditPending.S ⊕ Bool):=
 if x2_11 < (a1.length:Int) then
  if 0≤x2_11∧x2_11 < (a1.length:Int) then
   if ((a1.getD x2_11.toNat api_Event.z).Kind)=2 then
    splicelaw24_AuditPending.j2 a1 x2_11 x2_r1 (((a1.getD x2_11.toNat api_Event.z).Client) == a2.Client)
   else
    splicelaw24_AuditPending.j2 a1 x2_11 x2_r1 false
  else none
 else
  (splicelaw24_awake).bind fun v9=>
  if v9=true then
   (audit_Marks a1 a2.Client).bind fun v10=>
   (spliceref01_Same v10 x2_r1).bind fun v11=>
   splicelaw24_AuditPending.j1 v11
  else
   splicelaw24_AuditPending.j1 false

noncomputable def splicelaw24_AuditPending.step (a1:List api_Event) (a2:splicelaw24_Ask) (v3:List api_Mut) (v6:List spliceref04_Mut):splicelaw24_AuditPending.S→Option (splicelaw24_AuditPending.S ⊕ Bool)
 | .l1 x1_9=>splicelaw24_AuditPending.l1 v3 v6 x1_9
 | .l2 x2_11 x2_r1=>splicelaw24_AuditPending.l2 a1 a2 x2_11 x2_r1

noncomputable def splicelaw24_AuditPending (a0:List api_Entry) (a1:List api_Event) (a2:splicelaw24_Ask):Option Bool:=
 (splicelaw24_few a0 a1).bind fun v1=>
 if v1=true then
  (audit_Pending a0 a1 a2.At a2.Client a2.Mark).bind fun v3=>
  (splicelaw24_Entries a0).bind fun v4=>
  (splicelaw24_events a1).bind fun v5=>
  (spliceref24_Pending v4 v5 a2.At a2.Client a2.Mark).bind fun v6=>
  if (v3.length:Int)=(v6.length:Int) then
   goLoop (splicelaw24_AuditPending.step a1 a2 v3 v6) (.l1 0)
  else
   some false
 else
  (splicelaw24_awake).bind fun v2=>
  some v2

noncomputable def spliceref24_all:List spliceref03_Span:=
 ([(⟨0,4096⟩:spliceref03_Span)]:List spliceref03_Span)

inductive spliceref03_Check.S where
 | l1 (x1_3:Int)

noncomputable def spliceref03_Check.j1 (x1_3:Int) (y1_33:Bool):Option (spliceref03_Check.S ⊕ Bool):=
 if y1_33=true then
  some (.inr false)
 else
  some (.inl (.l1 (IntKind.wrap .i64 (x1_3+1))))

noncomputable def spliceref03_Check.l1 (a0:List spliceref03_Span) (x1_3:Int):Option (spliceref03_Check.S ⊕ Bool):=
 if x1_3 < (a0.length:Int) then
  if 0≤x1_3∧x1_3 < (a0.length:Int) then
   if (spliceref03_One (a0.getD x1_3.toNat spliceref03_Span.z))=true then
    if x1_3 > 0 then
     if 0≤(IntKind.wrap .i64 (x1_3 - 1))∧(IntKind.wrap .i64 (x1_3 - 1)) < (a0.length:Int) then
      spliceref03_Check.j1 x1_3 (decide (((a0.getD x1_3.toNat spliceref03_Span.z).Lo)≤((a0.getD ((IntKind.wrap .i64 (x1_3 - 1)).toNat) spliceref03_Span.z).Hi)))
     else none
    else
     spliceref03_Check.j1 x1_3 false
   else
    spliceref03_Check.j1 x1_3 true
  else none
 else
  some (.inr (decide ((a0.length:Int)≤64)))

noncomputable def spliceref03_Check.step (a0:List spliceref03_Span):spliceref03_Check.S→Option (spliceref03_Check.S ⊕ Bool)
 | .l1 x1_3=>spliceref03_Check.l1 a0 x1_3

noncomputable def spliceref03_Check (a0:List spliceref03_Span):Option Bool:=
 goLoop (spliceref03_Check.step a0) (.l1 0)

inductive spliceref05_Check.S where
 | l1 (x1_3:Int)

noncomputable def spliceref05_Check.j2 (x1_3:Int) (y2_55:Bool):Option (spliceref05_Check.S ⊕ Bool):=
 if y2_55=true then
  some (.inr false)
 else
  some (.inl (.l1 (IntKind.wrap .i64 (x1_3+1))))

noncomputable def spliceref05_Check.j1 (a0:List spliceref04_Pair) (x1_3:Int) (y1_39:Bool):Option (spliceref05_Check.S ⊕ Bool):=
 if y1_39=true then
  some (.inr false)
 else
  if x1_3 > 0 then
   if 0≤(IntKind.wrap .i64 (x1_3 - 1))∧(IntKind.wrap .i64 (x1_3 - 1)) < (a0.length:Int) then
    spliceref05_Check.j2 x1_3 (decide (((a0.getD x1_3.toNat spliceref04_Pair.z).Key)≤((a0.getD ((IntKind.wrap .i64 (x1_3 - 1)).toNat) spliceref04_Pair.z).Key)))
   else none
  else
   spliceref05_Check.j2 x1_3 false

noncomputable def spliceref05_Check.l1 (a0:List spliceref04_Pair) (x1_3:Int):Option (spliceref05_Check.S ⊕ Bool):=
 if x1_3 < (a0.length:Int) then
  if 0≤x1_3∧x1_3 < (a0.length:Int) then
   if ((a0.getD x1_3.toNat spliceref04_Pair.z).Key) < 0 then
    spliceref05_Check.j1 a0 x1_3 true
   else
    if ((a0.getD x1_3.toNat spliceref04_Pair.z).Key) > 4095 then
     spliceref05_Check.j1 a0 x1_3 true
    else
     if ((a0.getD x1_3.toNat spliceref04_Pair.z).Val) < (-1099511627776) then
      spliceref05_Check.j1 a0 x1_3 true
     else
      spliceref05_Check.j1 a0 x1_3 (decide (((a0.getD x1_3.toNat spliceref04_Pair.z).Val) > 1099511627776))
  else none
 else
  some (.inr true)

noncomputable def spliceref05_Check.step (a0:List spliceref04_Pair):spliceref05_Check.S→Option (spliceref05_Check.S ⊕ Bool)
 | .l1 x1_3=>spliceref05_Check.l1 a0 x1_3

noncomputable def spliceref05_Check (a0:List spliceref04_Pair):Option Bool:=
 goLoop (spliceref05_Check.step a0) (.l1 0)

inductive spliceref05_more.S where
 | l1 (x1_6:Bool) (x1_7:Int) (x1_r0:List Int)

noncomputable def spliceref05_more.j4 (a0:List Int) (x1_7:Int) (y4_6:Bool) (y4_r0:List Int):Option (spliceref05_more.S ⊕ (List Int)):=
 if (y4_r0.length+1) * 8≤140737488355328 then
  some (.inl (.l1 y4_6 (IntKind.wrap .i64 (x1_7+1)) (y4_r0 ++ [a0.getD x1_7.toNat 0])))
 else none

noncomputable def spliceref05_more.j3 (a0:List Int) (a1:Int) (x1_7:Int) (x1_r0:List Int) (y3_6:Bool) (y3_29:Bool):Option (spliceref05_more.S ⊕ (List Int)):=
 if y3_29=true then
  if (x1_r0.length+1) * 8≤140737488355328 then
   spliceref05_more.j4 a0 x1_7 true (x1_r0 ++ [a1])
  else none
 else
  spliceref05_more.j4 a0 x1_7 y3_6 x1_r0

noncomputable def spliceref05_more.j2 (a0:List Int) (a1:Int) (x1_7:Int) (x1_r0:List Int) (y2_6:Bool):Option (spliceref05_more.S ⊕ (List Int)):=
 if y2_6=true then
  spliceref05_more.j3 a0 a1 x1_7 x1_r0 true false
 else
  spliceref05_more.j3 a0 a1 x1_7 x1_r0 false (decide ((a0.getD x1_7.toNat 0) > a1))

noncomputable def spliceref05_more.j1 (y1_r0:List Int):Option (spliceref05_more.S ⊕ (List Int)):=
 some (.inr y1_r0)

noncomputable def spliceref05_more.l1 (a0:List Int) (a1:Int) (x1_6:Bool) (x1_7:Int) (x1_r0:List Int):Option (spliceref05_more.S ⊕ (List Int)):=
 if x1_7 < (a0.length:Int) then
  if 0≤x1_7∧x1_7 < (a0.length:Int) then
   if (a0.getD x1_7.toNat 0)=a1 then
    spliceref05_more.j2 a0 a1 x1_7 x1_r0 true
   else
    spliceref05_more.j2 a0 a1 x1_7 x1_r0 x1_6
  else none
 else
  if x1_6=true then
   spliceref05_more.j1 x1_r0
  else
   if (x1_r0.length+1) * 8≤140737488355328 then
    spliceref05_more.j1 (x1_r0 ++ [a1])
   else none

noncomputable def spliceref05_more.step (a0:List Int) (a1:Int):spliceref05_more.S→Option (spliceref05_more.S ⊕ (List Int))
 | .l1 x1_6 x1_7 x1_r0=>spliceref05_more.l1 a0 a1 x1_6 x1_7 x1_r0

noncomputable def spliceref05_more (a0:List Int) (a1:Int):Option (List Int):=
 goLoop (spliceref05_more.step a0 a1) (.l1 false 0 ([]:List Int))

inductive spliceref05_keys.S where
 | l1 (x1_6:Int) (x1_r1:List Int)
 | l2 (x2_7:Int) (x2_r1:List Int)

noncomputable def spliceref05_keys.l1 (a0:List spliceref04_Pair) (x1_6:Int) (x1_r1:List Int):Option (spliceref05_keys.S ⊕ (List Int)):=
 if x1_6 < (a0.length:Int) then
  if 0≤x1_6∧x1_6 < (a0.length:Int) then
   (spliceref05_more x1_r1 ((a0.getD x1_6.toNat spliceref04_Pair.z).Key)).bind fun v1=>
   some (.inl (.l1 (IntKind.wrap .i64 (x1_6+1)) v1))
  else none
 else
  some (.inl (.l2 0 x1_r1))

noncomputable def spliceref05_keys.l2 (a1:spliceref04_Mut) (x2_7:Int) (x2_r1:List Int):Option (spliceref05_keys.S ⊕ (List Int)):=
 if x2_7 < (a1.Pairs.length:Int) then
  if 0≤x2_7∧x2_7 < (a1.Pairs.length:Int) then
   (spliceref05_more x2_r1 ((a1.Pairs.getD x2_7.toNat spliceref04_Pair.z).Key)).bind fun v2=>
   some (.inl (.l2 (IntKind.wrap .i64 (x2_7+1)) v2))
  else none
 else
  some (.inr x2_r1)

noncomputable def spliceref05_keys.step (a0:List spliceref04_Pair) (a1:spliceref04_Mut):spliceref05_keys.S→Option (spliceref05_keys.S ⊕ (List Int))
 | .l1 x1_6 x1_r1=>spliceref05_keys.l1 a0 x1_6 x1_r1
 | .l2 x2_7 x2_r1=>spliceref05_keys.l2 a1 x2_7 x2_r1

noncomputable def spliceref05_keys (a0:List spliceref04_Pair) (a1:spliceref04_Mut):Option (List Int):=
 goLoop (spliceref05_keys.step a0 a1) (.l1 0 ([]:List Int))

inductive spliceref05_Get.S where
 | l1 (x1_5:Int)

noncomputable def spliceref05_Get.l1 (a0:List spliceref04_Pair) (a1:Int) (x1_5:Int):Option (spliceref05_Get.S ⊕ spliceref05_Cell):=
 if x1_5 < (a0.length:Int) then
  if 0≤x1_5∧x1_5 < (a0.length:Int) then
   if ((a0.getD x1_5.toNat spliceref04_Pair.z).Key)=a1 then
    some (.inr (⟨(a0.getD x1_5.toNat spliceref04_Pair.z).Val,true⟩:spliceref05_Cell))
   else
    some (.inl (.l1 (IntKind.wrap .i64 (x1_5+1))))
  else none
 else
  some (.inr (⟨0,false⟩:spliceref05_Cell))

noncomputable def spliceref05_Get.step (a0:List spliceref04_Pair) (a1:Int):spliceref05_Get.S→Option (spliceref05_Get.S ⊕ spliceref05_Cell)
 | .l1 x1_5=>spliceref05_Get.l1 a0 a1 x1_5

noncomputable def spliceref05_Get (a0:List spliceref04_Pair) (a1:Int):Option spliceref05_Cell:=
 goLoop (spliceref05_Get.step a0 a1) (.l1 0)

noncomputable def spliceref04_Touches.j1 (y1_4:Bool):Option Bool:=
 some y1_4

inductive spliceref04_Touches.S where
 | l1 (x1_5:Int)

noncomputable def spliceref04_Touches.l1 (a0:spliceref04_Mut) (a1:Int) (x1_5:Int):Option (spliceref04_Touches.S ⊕ Bool):=
 if x1_5 < (a0.Pairs.length:Int) then
  if 0≤x1_5∧x1_5 < (a0.Pairs.length:Int) then
   if ((a0.Pairs.getD x1_5.toNat spliceref04_Pair.z).Key)=a1 then
    some (.inr true)
   else
    some (.inl (.l1 (IntKind.wrap .i64 (x1_5+1))))
  else none
 else
  some (.inr false)

noncomputable def spliceref04_Touches.step (a0:spliceref04_Mut) (a1:Int):spliceref04_Touches.S→Option (spliceref04_Touches.S ⊕ Bool)
 | .l1 x1_5=>spliceref04_Touches.l1 a0 a1 x1_5

noncomputable def spliceref04_Touches (a0:spliceref04_Mut) (a1:Int):Option Bool:=
 if a0.Kind=2 then
  if a1≥a0.Over.Lo then
   spliceref04_Touches.j1 (decide (a1 < a0.Over.Hi))
  else
   spliceref04_Touches.j1 false
 else
  goLoop (spliceref04_Touches.step a0 a1) (.l1 0)

inductive spliceref03_Has.S where
 | l1 (x1_5:Int)

noncomputable def spliceref03_Has.j1 (x1_5:Int) (y1_34:Bool):Option (spliceref03_Has.S ⊕ Bool):=
 if y1_34=true then
  some (.inr true)
 else
  some (.inl (.l1 (IntKind.wrap .i64 (x1_5+1))))

noncomputable def spliceref03_Has.l1 (a0:List spliceref03_Span) (a1:Int) (x1_5:Int):Option (spliceref03_Has.S ⊕ Bool):=
 if x1_5 < (a0.length:Int) then
  if 0≤x1_5∧x1_5 < (a0.length:Int) then
   if (spliceref03_One (a0.getD x1_5.toNat spliceref03_Span.z))=true then
    if a1≥((a0.getD x1_5.toNat spliceref03_Span.z).Lo) then
     spliceref03_Has.j1 x1_5 (decide (a1 < ((a0.getD x1_5.toNat spliceref03_Span.z).Hi)))
    else
     spliceref03_Has.j1 x1_5 false
   else
    spliceref03_Has.j1 x1_5 false
  else none
 else
  some (.inr false)

noncomputable def spliceref03_Has.step (a0:List spliceref03_Span) (a1:Int):spliceref03_Has.S→Option (spliceref03_Has.S ⊕ Bool)
 | .l1 x1_5=>spliceref03_Has.l1 a0 a1 x1_5

noncomputable def spliceref03_Has (a0:List spliceref03_Span) (a1:Int):Option Bool:=
 goLoop (spliceref03_Has.step a0 a1) (.l1 0)

noncomputable def spliceref05_within (a0:Int):Int:=
 if a0 > 1099511627776 then
  1099511627776
 else
  if a0 < (-1099511627776) then
   (-1099511627776)
  else
   a0

noncomputable def spliceref05_Cells.j1 (a0:spliceref05_Cell) (v1:Int) (y1_30:Bool):Option (spliceref05_Cell × Bool):=
 if y1_30=true then
  some (a0,false)
 else
  some ((⟨v1,true⟩:spliceref05_Cell),true)

noncomputable def spliceref05_Cells.j2 (a0:spliceref05_Cell) (a1:spliceref04_Mut) (y2_55:Bool):Option (spliceref05_Cell × Bool):=
 if y2_55=true then
  some (a0,false)
 else
  if (0:Int)≤0∧0 < (a1.Pairs.length:Int) then
   some ((⟨(a1.Pairs.getD 0 spliceref04_Pair.z).Val,true⟩:spliceref05_Cell),true)
  else none

inductive spliceref05_Cells.S where
 | l1 (x1_9:Int)

noncomputable def spliceref05_Cells.l1 (a0:spliceref05_Cell) (a1:spliceref04_Mut) (a2:Int) (x1_9:Int):Option (spliceref05_Cells.S ⊕ (spliceref05_Cell × Bool)):=
 if x1_9 < (a1.Pairs.length:Int) then
  if 0≤x1_9∧x1_9 < (a1.Pairs.length:Int) then
   if ((a1.Pairs.getD x1_9.toNat spliceref04_Pair.z).Key)=a2 then
    some (.inr ((⟨(a1.Pairs.getD x1_9.toNat spliceref04_Pair.z).Val,true⟩:spliceref05_Cell),true))
   else
    some (.inl (.l1 (IntKind.wrap .i64 (x1_9+1))))
  else none
 else
  some (.inr (a0,true))

noncomputable def spliceref05_Cells.step (a0:spliceref05_Cell) (a1:spliceref04_Mut) (a2:Int):spliceref05_Cells.S→Option (spliceref05_Cells.S ⊕ (spliceref05_Cell × Bool))
 | .l1 x1_9=>spliceref05_Cells.l1 a0 a1 a2 x1_9

noncomputable def spliceref05_Cells (a0:spliceref05_Cell) (a1:spliceref04_Mut) (a2:Int):Option (spliceref05_Cell × Bool):=
 if a1.Kind=2 then
  some ((⟨0,false⟩:spliceref05_Cell),true)
 else
  if a1.Kind=3 then
   if (0:Int)≤0∧0 < (a1.Pairs.length:Int) then
    bnd (IntKind.wrap .i64 (a0.Val+((a1.Pairs.getD 0 spliceref04_Pair.z).Val))) fun (v1:Int)=>
    if v1 < 0 then
     spliceref05_Cells.j1 a0 v1 true
    else
     spliceref05_Cells.j1 a0 v1 (decide (v1 > 1099511627776))
   else none
  else
   if a1.Kind=4 then
    if a0.Some=true then
     if a0.Val=a1.Old then
      spliceref05_Cells.j2 a0 a1 false
     else
      spliceref05_Cells.j2 a0 a1 true
    else
     spliceref05_Cells.j2 a0 a1 (a1.Old != 1099511627777)
   else
    if a1.Kind=5 then
     if (0:Int)≤0∧0 < (a1.Pairs.length:Int) then
      if a2=((a1.Pairs.getD 0 spliceref04_Pair.z).Key) then
       bnd (spliceref05_within (IntKind.wrap .i64 (a0.Val - ((a1.Pairs.getD 0 spliceref04_Pair.z).Val)))) fun (v2:Int)=>
       some ((⟨v2,true⟩:spliceref05_Cell),true)
      else
       bnd (spliceref05_within (IntKind.wrap .i64 (a0.Val+((a1.Pairs.getD 0 spliceref04_Pair.z).Val)))) fun (v3:Int)=>
       some ((⟨v3,true⟩:spliceref05_Cell),true)
     else none
    else
     goLoop (spliceref05_Cells.step a0 a1 a2) (.l1 0)

inductive spliceref05_Apply.S where
 | l1 (x1_10:Int) (x1_r2:List spliceref04_Pair)

noncomputable def spliceref05_Apply.j4 (x1_10:Int) (y4_r2:List spliceref04_Pair):Option (spliceref05_Apply.S ⊕ ((List spliceref04_Pair) × Bool)):=
 some (.inl (.l1 (IntKind.wrap .i64 (x1_10+1)) y4_r2))

noncomputable def spliceref05_Apply.j3 (v4:List Int) (x1_10:Int) (x1_r2:List spliceref04_Pair) (y3_b3_0:Int) (y3_b3_1:Bool):Option (spliceref05_Apply.S ⊕ ((List spliceref04_Pair) × Bool)):=
 if y3_b3_1=true then
  if (x1_r2.length+1) * 16≤140737488355328 then
   spliceref05_Apply.j4 x1_10 (x1_r2 ++ [(⟨v4.getD x1_10.toNat 0,y3_b3_0⟩:spliceref04_Pair)])
  else none
 else
  spliceref05_Apply.j4 x1_10 x1_r2

noncomputable def spliceref05_Apply.j2 (a0:List spliceref04_Pair) (a1:spliceref04_Mut) (v4:List Int) (x1_10:Int) (x1_r2:List spliceref04_Pair) (v5:spliceref05_Cell) (y2_55:Bool):Option (spliceref05_Apply.S ⊕ ((List spliceref04_Pair) × Bool)):=
 if y2_55=true then
  (spliceref05_Cells v5 a1 (v4.getD x1_10.toNat 0)).bind fun v8=>
  if v8.2=true then
   spliceref05_Apply.j3 v4 x1_10 x1_r2 v8.1.Val v8.1.Some
  else
   some (.inr (a0,false))
 else
  spliceref05_Apply.j3 v4 x1_10 x1_r2 v5.Val v5.Some

noncomputable def spliceref05_Apply.l1 (a0:List spliceref04_Pair) (a1:spliceref04_Mut) (a2:List spliceref03_Span) (v4:List Int) (x1_10:Int) (x1_r2:List spliceref04_Pair):Option (spliceref05_Apply.S ⊕ ((List spliceref04_Pair) × Bool)):=
 if x1_10 < (v4.length:Int) then
  if 0≤x1_10∧x1_10 < (v4.length:Int) then
   (spliceref05_Get a0 (v4.getD x1_10.toNat 0)).bind fun v5=>
   (spliceref04_Touches a1 (v4.getD x1_10.toNat 0)).bind fun v6=>
   if v6=true then
    (spliceref03_Has a2 (v4.getD x1_10.toNat 0)).bind fun v7=>
    spliceref05_Apply.j2 a0 a1 v4 x1_10 x1_r2 v5 v7
   else
    spliceref05_Apply.j2 a0 a1 v4 x1_10 x1_r2 v5 false
  else none
 else
  some (.inr (x1_r2,true))

noncomputable def spliceref05_Apply.step (a0:List spliceref04_Pair) (a1:spliceref04_Mut) (a2:List spliceref03_Span) (v4:List Int):spliceref05_Apply.S→Option (spliceref05_Apply.S ⊕ ((List spliceref04_Pair) × Bool))
 | .l1 x1_10 x1_r2=>spliceref05_Apply.l1 a0 a1 a2 v4 x1_10 x1_r2

noncomputable def spliceref05_Apply.j1 (a0:List spliceref04_Pair) (a1:spliceref04_Mut) (a2:List spliceref03_Span) (y1_26:Bool):Option ((List spliceref04_Pair) × Bool):=
 if y1_26=true then
  some (([]:List spliceref04_Pair),false)
 else
  (spliceref05_keys a0 a1).bind fun v4=>
  goLoop (spliceref05_Apply.step a0 a1 a2 v4) (.l1 0 ([]:List spliceref04_Pair))

noncomputable def spliceref05_Apply (a0:List spliceref04_Pair) (a1:spliceref04_Mut) (a2:List spliceref03_Span):Option ((List spliceref04_Pair) × Bool):=
 (spliceref05_Check a0).bind fun v1=>
 if v1=true then
  (spliceref04_Check a1).bind fun v2=>
  if v2=true then
   (spliceref03_Check a2).bind fun v3=>
   spliceref05_Apply.j1 a0 a1 a2 (!v3)
  else
   spliceref05_Apply.j1 a0 a1 a2 true
 else
  spliceref05_Apply.j1 a0 a1 a2 true

inductive spliceref15_Fold.S where
 | l1 (x1_8:Int)
 | l2 (x2_7:List spliceref04_Pair) (x2_9:Int)

noncomputable def spliceref15_Fold.j3 (x2_9:Int) (y3_7:List spliceref04_Pair):Option (spliceref15_Fold.S ⊕ (List spliceref04_Pair)):=
 some (.inl (.l2 y3_7 (IntKind.wrap .i64 (x2_9+1))))

noncomputable def spliceref15_Fold.j2 (a0:List spliceref12_Entry) (a1:List spliceref03_Span) (x2_7:List spliceref04_Pair) (x2_9:Int) (y2_48:Bool):Option (spliceref15_Fold.S ⊕ (List spliceref04_Pair)):=
 if y2_48=true then
  (spliceref05_Apply x2_7 ((a0.getD x2_9.toNat spliceref12_Entry.z).M) a1).bind fun v3=>
  spliceref15_Fold.j3 x2_9 v3.1
 else
  spliceref15_Fold.j3 x2_9 x2_7

noncomputable def spliceref15_Fold.j1 (a0:List spliceref12_Entry) (a1:List spliceref03_Span) (a2:Int) (x2_7:List spliceref04_Pair) (x2_9:Int) (y1_32:Bool):Option (spliceref15_Fold.S ⊕ (List spliceref04_Pair)):=
 if y1_32=true then
  if 0≤x2_9∧x2_9 < (a0.length:Int) then
   if ((a0.getD x2_9.toNat spliceref12_Entry.z).Done)=true then
    spliceref15_Fold.j2 a0 a1 x2_7 x2_9 (decide (((a0.getD x2_9.toNat spliceref12_Entry.z).Time)≤a2))
   else
    spliceref15_Fold.j2 a0 a1 x2_7 x2_9 false
  else none
 else
  some (.inr x2_7)

noncomputable def spliceref15_Fold.l1 (a0:List spliceref12_Entry) (x1_8:Int):Option (spliceref15_Fold.S ⊕ (List spliceref04_Pair)):=
 if x1_8 < (a0.length:Int) then
  if 0≤x1_8∧x1_8 < (a0.length:Int) then
   (spliceref04_Check ((a0.getD x1_8.toNat spliceref12_Entry.z).M)).bind fun v1=>
   if v1=true then
    some (.inl (.l1 (IntKind.wrap .i64 (x1_8+1))))
   else
    some (.inr ([]:List spliceref04_Pair))
  else none
 else
  some (.inl (.l2 ([]:List spliceref04_Pair) 0))

noncomputable def spliceref15_Fold.l2 (a0:List spliceref12_Entry) (a1:List spliceref03_Span) (a2:Int) (x2_7:List spliceref04_Pair) (x2_9:Int):Option (spliceref15_Fold.S ⊕ (List spliceref04_Pair)):=
 if x2_9 < (a0.length:Int) then
  (spliceref03_Check a1).bind fun v2=>
  spliceref15_Fold.j1 a0 a1 a2 x2_7 x2_9 v2
 else
  spliceref15_Fold.j1 a0 a1 a2 x2_7 x2_9 false

noncomputable def spliceref15_Fold.step (a0:List spliceref12_Entry) (a1:List spliceref03_Span) (a2:Int):spliceref15_Fold.S→Option (spliceref15_Fold.S ⊕ (List spliceref04_Pair))
 | .l1 x1_8=>spliceref15_Fold.l1 a0 x1_8
 | .l2 x2_7 x2_9=>spliceref15_Fold.l2 a0 a1 a2 x2_7 x2_9

noncomputable def spliceref15_Fold (a0:List spliceref12_Entry) (a1:List spliceref03_Span) (a2:Int):Option (List spliceref04_Pair):=
 goLoop (spliceref15_Fold.step a0 a1 a2) (.l1 0)

inductive spliceref15_Onto.S where
 | l1 (x1_7:Int)
 | l2 (x2_8:List spliceref04_Pair) (x2_9:Int)

noncomputable def spliceref15_Onto.l1 (a0:List spliceref04_Pair) (a1:List spliceref04_Mut) (x1_7:Int):Option (spliceref15_Onto.S ⊕ (List spliceref04_Pair)):=
 if x1_7 < (a1.length:Int) then
  if 0≤x1_7∧x1_7 < (a1.length:Int) then
   (spliceref04_Check (a1.getD x1_7.toNat spliceref04_Mut.z)).bind fun v3=>
   if v3=true then
    some (.inl (.l1 (IntKind.wrap .i64 (x1_7+1))))
   else
    some (.inr ([]:List spliceref04_Pair))
  else none
 else
  some (.inl (.l2 a0 0))

noncomputable def spliceref15_Onto.l2 (a1:List spliceref04_Mut) (a2:List spliceref03_Span) (x2_8:List spliceref04_Pair) (x2_9:Int):Option (spliceref15_Onto.S ⊕ (List spliceref04_Pair)):=
 if x2_9 < (a1.length:Int) then
  if 0≤x2_9∧x2_9 < (a1.length:Int) then
   (spliceref05_Apply x2_8 (a1.getD x2_9.toNat spliceref04_Mut.z) a2).bind fun v4=>
   some (.inl (.l2 v4.1 (IntKind.wrap .i64 (x2_9+1))))
  else none
 else
  some (.inr x2_8)

noncomputable def spliceref15_Onto.step (a0:List spliceref04_Pair) (a1:List spliceref04_Mut) (a2:List spliceref03_Span):spliceref15_Onto.S→Option (spliceref15_Onto.S ⊕ (List spliceref04_Pair))
 | .l1 x1_7=>spliceref15_Onto.l1 a0 a1 x1_7
 | .l2 x2_8 x2_9=>spliceref15_Onto.l2 a1 a2 x2_8 x2_9

noncomputable def spliceref15_Onto.j1 (a0:List spliceref04_Pair) (a1:List spliceref04_Mut) (a2:List spliceref03_Span) (y1_19:Bool):Option (List spliceref04_Pair):=
 if y1_19=true then
  some ([]:List spliceref04_Pair)
 else
  goLoop (spliceref15_Onto.step a0 a1 a2) (.l1 0)

noncomputable def spliceref15_Onto (a0:List spliceref04_Pair) (a1:List spliceref04_Mut) (a2:List spliceref03_Span):Option (List spliceref04_Pair):=
 (spliceref05_Check a0).bind fun v1=>
 if v1=true then
  (spliceref03_Check a2).bind fun v2=>
  spliceref15_Onto.j1 a0 a1 a2 (!v2)
 else
  spliceref15_Onto.j1 a0 a1 a2 true

noncomputable def spliceref24_Sees (a0:List spliceref12_Entry) (a1:List spliceref24_Event) (a2:Int) (a3:Int) (a4:Int) (a5:Int):Option spliceref05_Cell:=
 bnd (spliceref24_all) fun (v1:List spliceref03_Span)=>
 (spliceref15_Fold a0 v1 a5).bind fun v2=>
 (spliceref24_Pending a0 a1 a2 a3 a5).bind fun v3=>
 bnd (spliceref24_all) fun (v4:List spliceref03_Span)=>
 (spliceref15_Onto v2 v3 v4).bind fun v5=>
 (spliceref05_Get v5 a4).bind fun v6=>
 some v6

inductive spliceref24_why.S where
 | l1 (x1_8:Int)

noncomputable def spliceref24_why.j2 (x1_8:Int) (y2_67:Bool):Option (spliceref24_why.S ⊕ Int):=
 if y2_67=true then
  some (.inr 3)
 else
  some (.inl (.l1 (IntKind.wrap .i64 (x1_8+1))))

noncomputable def spliceref24_why.j1:Option (spliceref24_why.S ⊕ Int):=
 some (.inr 0)

noncomputable def spliceref24_why.l1 (a0:List spliceref12_Entry) (a1:List spliceref24_Event) (a2:Int) (x1_8:Int):Option (spliceref24_why.S ⊕ Int):=
 if x1_8 < a2 then
  if 0≤x1_8∧x1_8 < (a1.length:Int) then
   if ((a1.getD x1_8.toNat spliceref24_Event.z).Kind)=2 then
    if ((a1.getD x1_8.toNat spliceref24_Event.z).Client)=((a1.getD a2.toNat spliceref24_Event.z).Client) then
     (spliceref24_formed (a1.getD x1_8.toNat spliceref24_Event.z)).bind fun v4=>
     if v4=true then
      spliceref24_why.j2 x1_8 (decide (((a1.getD x1_8.toNat spliceref24_Event.z).Mark) > ((a1.getD a2.toNat spliceref24_Event.z).Mark)))
     else
      spliceref24_why.j2 x1_8 false
    else
     spliceref24_why.j2 x1_8 false
   else
    spliceref24_why.j2 x1_8 false
  else none
 else
  (spliceref24_Sees a0 a1 a2 ((a1.getD a2.toNat spliceref24_Event.z).Client) ((a1.getD a2.toNat spliceref24_Event.z).Key) ((a1.getD a2.toNat spliceref24_Event.z).Mark)).bind fun v3=>
  if v3.Val=(((a1.getD a2.toNat spliceref24_Event.z).Cell).Val) then
   if v3.Some=true then
    if (((a1.getD a2.toNat spliceref24_Event.z).Cell).Some)=true then
     spliceref24_why.j1
    else
     some (.inr 4)
   else
    if (((a1.getD a2.toNat spliceref24_Event.z).Cell).Some)=true then
     some (.inr 4)
    else
     spliceref24_why.j1
  else
   if v3.Some=true then
    if (((a1.getD a2.toNat spliceref24_Event.z).Cell).Some)=true then
     some (.inr 4)
    else
     some (.inr 4)
   else
    if (((a1.getD a2.toNat spliceref24_Event.z).Cell).Some)=true then
     some (.inr 4)
    else
     some (.inr 4)

noncomputable def spliceref24_why.step (a0:List spliceref12_Entry) (a1:List spliceref24_Event) (a2:Int):spliceref24_why.S→Option (spliceref24_why.S ⊕ Int)
 | .l1 x1_8=>spliceref24_why.l1 a0 a1 a2 x1_8

noncomputable def spliceref24_why (a0:List spliceref12_Entry) (a1:List spliceref24_Event) (a2:Int):Option Int:=
 if 0≤a2∧a2 < (a1.length:Int) then
  (spliceref24_formed (a1.getD a2.toNat spliceref24_Event.z)).bind fun v1=>
  if v1=true then
   if ((a1.getD a2.toNat spliceref24_Event.z).Kind)=1 then
    (spliceref24_issued a1 a2 ((a1.getD a2.toNat spliceref24_Event.z).Client)).bind fun v2=>
    if (((a1.getD a2.toNat spliceref24_Event.z).M).Seq)=(IntKind.wrap .i64 ((v2.length:Int)+1)) then
     some 0
    else
     some 2
   else
    goLoop (spliceref24_why.step a0 a1 a2) (.l1 0)
  else
   some 1
 else none

inductive spliceref24_Check.S where
 | l1 (x1_7:Int) (x1_r0:List spliceref24_Finding)

noncomputable def spliceref24_Check.j1 (x1_7:Int) (y1_r0:List spliceref24_Finding):Option (spliceref24_Check.S ⊕ ((List spliceref24_Finding) × Int)):=
 some (.inl (.l1 (IntKind.wrap .i64 (x1_7+1)) y1_r0))

noncomputable def spliceref24_Check.l1 (a0:List spliceref12_Entry) (a1:List spliceref24_Event) (x1_7:Int) (x1_r0:List spliceref24_Finding):Option (spliceref24_Check.S ⊕ ((List spliceref24_Finding) × Int)):=
 if x1_7 < (a1.length:Int) then
  (spliceref24_why a0 a1 x1_7).bind fun v2=>
  if v2=0 then
   spliceref24_Check.j1 x1_7 x1_r0
  else
   if (x1_r0.length+1) * 16≤140737488355328 then
    spliceref24_Check.j1 x1_7 (x1_r0 ++ [(⟨x1_7,v2⟩:spliceref24_Finding)])
   else none
 else
  some (.inr (x1_r0,0))

noncomputable def spliceref24_Check.step (a0:List spliceref12_Entry) (a1:List spliceref24_Event):spliceref24_Check.S→Option (spliceref24_Check.S ⊕ ((List spliceref24_Finding) × Int))
 | .l1 x1_7 x1_r0=>spliceref24_Check.l1 a0 a1 x1_7 x1_r0

noncomputable def spliceref24_Check (a0:List spliceref12_Entry) (a1:List spliceref24_Event):Option ((List spliceref24_Finding) × Int):=
 (spliceref24_Order a0).bind fun v1=>
 if v1=true then
  goLoop (spliceref24_Check.step a0 a1) (.l1 0 ([]:List spliceref24_Finding))
 else
  some (([]:List spliceref24_Finding),1)

inductive splicelaw24_AuditChecks.S where
 | l1 (x1_9:Int)

noncomputable def splicelaw24_AuditChecks.l1 (v3:(List api_Finding) × Int) (v6:(List spliceref24_Finding) × Int) (x1_9:Int):Option (splicelaw24_AuditChecks.S ⊕ Bool):=
 if x1_9 < (v3.1.length:Int) then
  if 0≤x1_9∧x1_9 < (v3.1.length:Int) then
   if 0≤x1_9∧x1_9 < (v6.1.length:Int) then
    if ((v3.1.getD x1_9.toNat api_Finding.z).At)=((v6.1.getD x1_9.toNat spliceref24_Finding.z).At) then
     if ((v3.1.getD x1_9.toNat api_Finding.z).Why)=((v6.1.getD x1_9.toNat spliceref24_Finding.z).Why) then
      some (.inl (.l1 (IntKind.wrap .i64 (x1_9+1))))
     else
      some (.inr false)
    else
     if ((v3.1.getD x1_9.toNat api_Finding.z).Why)=((v6.1.getD x1_9.toNat spliceref24_Finding.z).Why) then
      some (.inr false)
     else
      some (.inr false)
   else none
  else none
 else
  (splicelaw24_awake).bind fun v10=>
  some (.inr v10)

noncomputable def splicelaw24_AuditChecks.step (v3:(List api_Finding) × Int) (v6:(List spliceref24_Finding) × Int):splicelaw24_AuditChecks.S→Option (splicelaw24_AuditChecks.S ⊕ Bool)
 | .l1 x1_9=>splicelaw24_AuditChecks.l1 v3 v6 x1_9

noncomputable def splicelaw24_AuditChecks.j1 (v3:(List api_Finding) × Int) (v6:(List spliceref24_Finding) × Int) (y1_46:Bool):Option Bool:=
 if y1_46=true then
  some false
 else
  goLoop (splicelaw24_AuditChecks.step v3 v6) (.l1 0)

noncomputable def splicelaw24_AuditChecks (a0:List api_Entry) (a1:List api_Event):Option Bool:=
 (splicelaw24_few a0 a1).bind fun v1=>
 if v1=true then
  (audit_Check a0 a1).bind fun v3=>
  (splicelaw24_Entries a0).bind fun v4=>
  (splicelaw24_events a1).bind fun v5=>
  (spliceref24_Check v4 v5).bind fun v6=>
  if v3.2=v6.2 then
   if (v3.1.length:Int)=(v6.1.length:Int) then
    (audit_Order a0).bind fun v7=>
    (splicelaw24_Entries a0).bind fun v8=>
    (spliceref24_Order v8).bind fun v9=>
    splicelaw24_AuditChecks.j1 v3 v6 (!(v7 == v9))
   else
    splicelaw24_AuditChecks.j1 v3 v6 true
  else
   splicelaw24_AuditChecks.j1 v3 v6 true
 else
  (splicelaw24_awake).bind fun v2=>
  some v2

inductive splicelaw24_AuditRight.S where
 | l1 (x1_12:Int) (x1_r0:List api_Event) (x1_r1:List Int) (x1_b2_0:Int) (x1_b2_1:Int) (x1_b2_2:Int) (x1_b2_3:Int) (x1_b3_0:Int) (x1_b3_1:Int) (x1_b3_2:Int) (x1_b3_3:Int)

noncomputable def splicelaw24_AuditRight.j6 (a1:List api_Event) (x1_12:Int) (x1_r0:List api_Event) (x1_r1:List Int) (x1_b2_0:Int) (x1_b2_1:Int) (x1_b2_2:Int) (x1_b2_3:Int) (v10:Int) (y5_b4_1:Int) (y6_b3_0:Int) (y6_b3_1:Int) (y6_b3_2:Int) (y6_b3_3:Int):Option (splicelaw24_AuditRight.S ⊕ Bool):=
 if (x1_r0.length+1) * 120≤140737488355328 then
  some (.inl (.l1 (IntKind.wrap .i64 (x1_12+1)) (x1_r0 ++ [(⟨1,IntKind.wrap .i64 (v10+1),(⟨IntKind.wrap .i64 (v10+1),y5_b4_1,((a1.getD x1_12.toNat api_Event.z).M).Kind,((a1.getD x1_12.toNat api_Event.z).M).Pairs,(((a1.getD x1_12.toNat api_Event.z).M).Over),((a1.getD x1_12.toNat api_Event.z).M).Old⟩:api_Mut),0,(⟨0,false⟩:api_Cell),0⟩:api_Event)]) x1_r1 x1_b2_0 x1_b2_1 x1_b2_2 x1_b2_3 y6_b3_0 y6_b3_1 y6_b3_2 y6_b3_3))
 else none

noncomputable def splicelaw24_AuditRight.j5 (a1:List api_Event) (x1_12:Int) (x1_r0:List api_Event) (x1_r1:List Int) (x1_b2_0:Int) (x1_b2_1:Int) (x1_b2_2:Int) (x1_b2_3:Int) (x1_b3_0:Int) (x1_b3_1:Int) (x1_b3_2:Int) (x1_b3_3:Int) (v10:Int) (y5_b4_1:Int):Option (splicelaw24_AuditRight.S ⊕ Bool):=
 (splicelaw04_Ref (⟨IntKind.wrap .i64 (v10+1),y5_b4_1,((a1.getD x1_12.toNat api_Event.z).M).Kind,((a1.getD x1_12.toNat api_Event.z).M).Pairs,(((a1.getD x1_12.toNat api_Event.z).M).Over),((a1.getD x1_12.toNat api_Event.z).M).Old⟩:api_Mut)).bind fun v11=>
 (spliceref04_Check v11).bind fun v12=>
 if v12=true then
  if v10=0 then
   splicelaw24_AuditRight.j6 a1 x1_12 x1_r0 x1_r1 x1_b2_0 x1_b2_1 x1_b2_2 x1_b2_3 v10 y5_b4_1 (IntKind.wrap .i64 (x1_b3_0+1)) x1_b3_1 x1_b3_2 x1_b3_3
  else
   if v10=1 then
    splicelaw24_AuditRight.j6 a1 x1_12 x1_r0 x1_r1 x1_b2_0 x1_b2_1 x1_b2_2 x1_b2_3 v10 y5_b4_1 x1_b3_0 (IntKind.wrap .i64 (x1_b3_1+1)) x1_b3_2 x1_b3_3
   else
    if v10=2 then
     splicelaw24_AuditRight.j6 a1 x1_12 x1_r0 x1_r1 x1_b2_0 x1_b2_1 x1_b2_2 x1_b2_3 v10 y5_b4_1 x1_b3_0 x1_b3_1 (IntKind.wrap .i64 (x1_b3_2+1)) x1_b3_3
    else
     if v10=3 then
      splicelaw24_AuditRight.j6 a1 x1_12 x1_r0 x1_r1 x1_b2_0 x1_b2_1 x1_b2_2 x1_b2_3 v10 y5_b4_1 x1_b3_0 x1_b3_1 x1_b3_2 (IntKind.wrap .i64 (x1_b3_3+1))
     else
      none
 else
  some (.inl (.l1 (IntKind.wrap .i64 (x1_12+1)) x1_r0 x1_r1 x1_b2_0 x1_b2_1 x1_b2_2 x1_b2_3 x1_b3_0 x1_b3_1 x1_b3_2 x1_b3_3))

noncomputable def splicelaw24_AuditRight.j9 (x1_12:Int) (x1_r0:List api_Event) (x1_r1:List Int) (x1_b3_0:Int) (x1_b3_1:Int) (x1_b3_2:Int) (x1_b3_3:Int) (y7_b2_0:Int) (y7_b2_1:Int) (y7_b2_2:Int) (y7_b2_3:Int) (y9_r0:List api_Event):Option (splicelaw24_AuditRight.S ⊕ Bool):=
 some (.inl (.l1 (IntKind.wrap .i64 (x1_12+1)) y9_r0 (x1_r1 ++ [(x1_r0.length:Int)]) y7_b2_0 y7_b2_1 y7_b2_2 y7_b2_3 x1_b3_0 x1_b3_1 x1_b3_2 x1_b3_3))

noncomputable def splicelaw24_AuditRight.j8 (x1_12:Int) (x1_r0:List api_Event) (x1_r1:List Int) (x1_b3_0:Int) (x1_b3_1:Int) (x1_b3_2:Int) (x1_b3_3:Int) (v10:Int) (y7_b2_0:Int) (y7_b2_1:Int) (y7_b2_2:Int) (y7_b2_3:Int) (v13:Int) (y8_b4_0:Int) (y8_b4_1:Bool):Option (splicelaw24_AuditRight.S ⊕ Bool):=
 if (x1_r1.length+1) * 8≤140737488355328 then
  if v10=0 then
   if (x1_r0.length+1) * 120≤140737488355328 then
    splicelaw24_AuditRight.j9 x1_12 x1_r0 x1_r1 x1_b3_0 x1_b3_1 x1_b3_2 x1_b3_3 y7_b2_0 y7_b2_1 y7_b2_2 y7_b2_3 (x1_r0 ++ [(⟨2,IntKind.wrap .i64 (v10+1),(⟨0,0,0,([]:List api_Pair),(⟨0,0⟩:api_Span),0⟩:api_Mut),v13,(⟨y8_b4_0,y8_b4_1⟩:api_Cell),y7_b2_0⟩:api_Event)])
   else none
  else
   if v10=1 then
    if (x1_r0.length+1) * 120≤140737488355328 then
     splicelaw24_AuditRight.j9 x1_12 x1_r0 x1_r1 x1_b3_0 x1_b3_1 x1_b3_2 x1_b3_3 y7_b2_0 y7_b2_1 y7_b2_2 y7_b2_3 (x1_r0 ++ [(⟨2,IntKind.wrap .i64 (v10+1),(⟨0,0,0,([]:List api_Pair),(⟨0,0⟩:api_Span),0⟩:api_Mut),v13,(⟨y8_b4_0,y8_b4_1⟩:api_Cell),y7_b2_1⟩:api_Event)])
    else none
   else
    if v10=2 then
     if (x1_r0.length+1) * 120≤140737488355328 then
      splicelaw24_AuditRight.j9 x1_12 x1_r0 x1_r1 x1_b3_0 x1_b3_1 x1_b3_2 x1_b3_3 y7_b2_0 y7_b2_1 y7_b2_2 y7_b2_3 (x1_r0 ++ [(⟨2,IntKind.wrap .i64 (v10+1),(⟨0,0,0,([]:List api_Pair),(⟨0,0⟩:api_Span),0⟩:api_Mut),v13,(⟨y8_b4_0,y8_b4_1⟩:api_Cell),y7_b2_2⟩:api_Event)])
     else none
    else
     if v10=3 then
      if (x1_r0.length+1) * 120≤140737488355328 then
       splicelaw24_AuditRight.j9 x1_12 x1_r0 x1_r1 x1_b3_0 x1_b3_1 x1_b3_2 x1_b3_3 y7_b2_0 y7_b2_1 y7_b2_2 y7_b2_3 (x1_r0 ++ [(⟨2,IntKind.wrap .i64 (v10+1),(⟨0,0,0,([]:List api_Pair),(⟨0,0⟩:api_Span),0⟩:api_Mut),v13,(⟨y8_b4_0,y8_b4_1⟩:api_Cell),y7_b2_3⟩:api_Event)])
      else none
     else
      none
 else none

noncomputable def splicelaw24_AuditRight.j7 (a1:List api_Event) (v4:List spliceref12_Entry) (x1_12:Int) (x1_r0:List api_Event) (x1_r1:List Int) (x1_b3_0:Int) (x1_b3_1:Int) (x1_b3_2:Int) (x1_b3_3:Int) (v10:Int) (y7_b2_0:Int) (y7_b2_1:Int) (y7_b2_2:Int) (y7_b2_3:Int):Option (splicelaw24_AuditRight.S ⊕ Bool):=
 bnd (Int.tmod (IntKind.wrap .i64 ((Int.tmod ((a1.getD x1_12.toNat api_Event.z).Key) 4096)+4096)) 4096) fun (v13:Int)=>
 (splicelaw24_events x1_r0).bind fun v14=>
 if v10=0 then
  (spliceref24_Sees v4 v14 (x1_r0.length:Int) (IntKind.wrap .i64 (v10+1)) v13 y7_b2_0).bind fun v15=>
  splicelaw24_AuditRight.j8 x1_12 x1_r0 x1_r1 x1_b3_0 x1_b3_1 x1_b3_2 x1_b3_3 v10 y7_b2_0 y7_b2_1 y7_b2_2 y7_b2_3 v13 v15.Val v15.Some
 else
  if v10=1 then
   (spliceref24_Sees v4 v14 (x1_r0.length:Int) (IntKind.wrap .i64 (v10+1)) v13 y7_b2_1).bind fun v16=>
   splicelaw24_AuditRight.j8 x1_12 x1_r0 x1_r1 x1_b3_0 x1_b3_1 x1_b3_2 x1_b3_3 v10 y7_b2_0 y7_b2_1 y7_b2_2 y7_b2_3 v13 v16.Val v16.Some
  else
   if v10=2 then
    (spliceref24_Sees v4 v14 (x1_r0.length:Int) (IntKind.wrap .i64 (v10+1)) v13 y7_b2_2).bind fun v17=>
    splicelaw24_AuditRight.j8 x1_12 x1_r0 x1_r1 x1_b3_0 x1_b3_1 x1_b3_2 x1_b3_3 v10 y7_b2_0 y7_b2_1 y7_b2_2 y7_b2_3 v13 v17.Val v17.Some
   else
    if v10=3 then
     (spliceref24_Sees v4 v14 (x1_r0.length:Int) (IntKind.wrap .i64 (v10+1)) v13 y7_b2_3).bind fun v18=>
     splicelaw24_AuditRight.j8 x1_12 x1_r0 x1_r1 x1_b3_0 x1_b3_1 x1_b3_2 x1_b3_3 v10 y7_b2_0 y7_b2_1 y7_b2_2 y7_b2_3 v13 v18.Val v18.Some
    else
     none

noncomputable def splicelaw24_AuditRight.j4 (y4_6:Bool):Option (splicelaw24_AuditRight.S ⊕ Bool):=
 some (.inr y4_6)

noncomputable def splicelaw24_AuditRight.j3 (a0:List api_Entry) (v7:Int) (y3_r0:List api_Event):Option (splicelaw24_AuditRight.S ⊕ Bool):=
 (audit_Check a0 y3_r0).bind fun v8=>
 (splicelaw24_awake).bind fun v9=>
 if v9=true then
  if v8.2=0 then
   if (v8.1.length:Int)=1 then
    if (0:Int)≤0∧0 < (v8.1.length:Int) then
     splicelaw24_AuditRight.j4 ((((v8.1.getD 0 api_Finding.z).At) == v7) && (((v8.1.getD 0 api_Finding.z).Why) == 4))
    else none
   else
    splicelaw24_AuditRight.j4 false
  else
   splicelaw24_AuditRight.j4 false
 else
  splicelaw24_AuditRight.j4 false

noncomputable def splicelaw24_AuditRight.j2 (a0:List api_Entry) (a2:Int) (x1_r0:List api_Event) (x1_r1:List Int) (y2_131:Bool):Option (splicelaw24_AuditRight.S ⊕ Bool):=
 if y2_131=true then
  some (.inr false)
 else
  if (x1_r1.length:Int)=0 then
   (splicelaw24_awake).bind fun v6=>
   some (.inr v6)
  else
   if ¬ (x1_r1.length:Int)=0 then
    if 0≤(Int.tmod (IntKind.wrap .i64 ((Int.tmod a2 (x1_r1.length:Int))+(x1_r1.length:Int))) (x1_r1.length:Int))∧(Int.tmod (IntKind.wrap .i64 ((Int.tmod a2 (x1_r1.length:Int))+(x1_r1.length:Int))) (x1_r1.length:Int)) < (x1_r1.length:Int) then
     bnd (x1_r1.getD ((Int.tmod (IntKind.wrap .i64 ((Int.tmod a2 (x1_r1.length:Int))+(x1_r1.length:Int))) (x1_r1.length:Int)).toNat) 0) fun (v7:Int)=>
     if 0≤v7∧v7 < (x1_r0.length:Int) then
      if (((x1_r0.getD v7.toNat api_Event.z).Cell).Some)=true then
       splicelaw24_AuditRight.j3 a0 v7 (x1_r0.set v7.toNat (⟨(x1_r0.getD v7.toNat api_Event.z).Kind,(x1_r0.getD v7.toNat api_Event.z).Client,((x1_r0.getD v7.toNat api_Event.z).M),(x1_r0.getD v7.toNat api_Event.z).Key,(⟨0,false⟩:api_Cell),(x1_r0.getD v7.toNat api_Event.z).Mark⟩:api_Event))
      else
       splicelaw24_AuditRight.j3 a0 v7 (x1_r0.set v7.toNat (⟨(x1_r0.getD v7.toNat api_Event.z).Kind,(x1_r0.getD v7.toNat api_Event.z).Client,((x1_r0.getD v7.toNat api_Event.z).M),(x1_r0.getD v7.toNat api_Event.z).Key,(⟨1,true⟩:api_Cell),(x1_r0.getD v7.toNat api_Event.z).Mark⟩:api_Event))
     else none
    else none
   else none

noncomputable def splicelaw24_AuditRight.l1 (a0:List api_Entry) (a1:List api_Event) (a2:Int) (v4:List spliceref12_Entry) (x1_12:Int) (x1_r0:List api_Event) (x1_r1:List Int) (x1_b2_0:Int) (x1_b2_1:Int) (x1_b2_2:Int) (x1_b2_3:Int) (x1_b3_0:Int) (x1_b3_1:Int) (x1_b3_2:Int) (x1_b3_3:Int):Option (splicelaw24_AuditRight.S ⊕ Bool):=
 if x1_12 < (a1.length:Int) then
  if 0≤x1_12∧x1_12 < (a1.length:Int) then
   bnd (Int.tmod (IntKind.wrap .i64 ((Int.tmod ((a1.getD x1_12.toNat api_Event.z).Client) 4)+4)) 4) fun (v10:Int)=>
   if ((a1.getD x1_12.toNat api_Event.z).Kind)=1 then
    if v10=0 then
     splicelaw24_AuditRight.j5 a1 x1_12 x1_r0 x1_r1 x1_b2_0 x1_b2_1 x1_b2_2 x1_b2_3 x1_b3_0 x1_b3_1 x1_b3_2 x1_b3_3 v10 (IntKind.wrap .i64 (x1_b3_0+1))
    else
     if v10=1 then
      splicelaw24_AuditRight.j5 a1 x1_12 x1_r0 x1_r1 x1_b2_0 x1_b2_1 x1_b2_2 x1_b2_3 x1_b3_0 x1_b3_1 x1_b3_2 x1_b3_3 v10 (IntKind.wrap .i64 (x1_b3_1+1))
     else
      if v10=2 then
       splicelaw24_AuditRight.j5 a1 x1_12 x1_r0 x1_r1 x1_b2_0 x1_b2_1 x1_b2_2 x1_b2_3 x1_b3_0 x1_b3_1 x1_b3_2 x1_b3_3 v10 (IntKind.wrap .i64 (x1_b3_2+1))
      else
       if v10=3 then
        splicelaw24_AuditRight.j5 a1 x1_12 x1_r0 x1_r1 x1_b2_0 x1_b2_1 x1_b2_2 x1_b2_3 x1_b3_0 x1_b3_1 x1_b3_2 x1_b3_3 v10 (IntKind.wrap .i64 (x1_b3_3+1))
       else
        none
   else
    if v10=0 then
     splicelaw24_AuditRight.j7 a1 v4 x1_12 x1_r0 x1_r1 x1_b3_0 x1_b3_1 x1_b3_2 x1_b3_3 v10 (iMax x1_b2_0 ((a1.getD x1_12.toNat api_Event.z).Mark)) x1_b2_1 x1_b2_2 x1_b2_3
    else
     if v10=1 then
      splicelaw24_AuditRight.j7 a1 v4 x1_12 x1_r0 x1_r1 x1_b3_0 x1_b3_1 x1_b3_2 x1_b3_3 v10 x1_b2_0 (iMax x1_b2_1 ((a1.getD x1_12.toNat api_Event.z).Mark)) x1_b2_2 x1_b2_3
     else
      if v10=2 then
       splicelaw24_AuditRight.j7 a1 v4 x1_12 x1_r0 x1_r1 x1_b3_0 x1_b3_1 x1_b3_2 x1_b3_3 v10 x1_b2_0 x1_b2_1 (iMax x1_b2_2 ((a1.getD x1_12.toNat api_Event.z).Mark)) x1_b2_3
      else
       if v10=3 then
        splicelaw24_AuditRight.j7 a1 v4 x1_12 x1_r0 x1_r1 x1_b3_0 x1_b3_1 x1_b3_2 x1_b3_3 v10 x1_b2_0 x1_b2_1 x1_b2_2 (iMax x1_b2_3 ((a1.getD x1_12.toNat api_Event.z).Mark))
       else
        none
  else none
 else
  (audit_Check a0 x1_r0).bind fun v5=>
  if v5.2=0 then
   splicelaw24_AuditRight.j2 a0 a2 x1_r0 x1_r1 ((v5.1.length:Int) != 0)
  else
   splicelaw24_AuditRight.j2 a0 a2 x1_r0 x1_r1 true

noncomputable def splicelaw24_AuditRight.step (a0:List api_Entry) (a1:List api_Event) (a2:Int) (v4:List spliceref12_Entry):splicelaw24_AuditRight.S→Option (splicelaw24_AuditRight.S ⊕ Bool)
 | .l1 x1_12 x1_r0 x1_r1 x1_b2_0 x1_b2_1 x1_b2_2 x1_b2_3 x1_b3_0 x1_b3_1 x1_b3_2 x1_b3_3=>splicelaw24_AuditRight.l1 a0 a1 a2 v4 x1_12 x1_r0 x1_r1 x1_b2_0 x1_b2_1 x1_b2_2 x1_b2_3 x1_b3_0 x1_b3_1 x1_b3_2 x1_b3_3

noncomputable def splicelaw24_AuditRight.j1 (a0:List api_Entry) (a1:List api_Event) (a2:Int) (y1_30:Bool):Option Bool:=
 if y1_30=true then
  (splicelaw24_awake).bind fun v3=>
  some v3
 else
  (splicelaw24_Entries a0).bind fun v4=>
  goLoop (splicelaw24_AuditRight.step a0 a1 a2 v4) (.l1 0 ([]:List api_Event) ([]:List Int) 0 0 0 0 0 0 0 0)

noncomputable def splicelaw24_AuditRight (a0:List api_Entry) (a1:List api_Event) (a2:Int):Option Bool:=
 (splicelaw24_few a0 a1).bind fun v1=>
 if v1=true then
  (audit_Order a0).bind fun v2=>
  splicelaw24_AuditRight.j1 a0 a1 a2 (!v2)
 else
  splicelaw24_AuditRight.j1 a0 a1 a2 true
end Go.SyP
