/- Plain functions, printed by gen.py. -/
import Derived.Test.YticmlllaimjdcaaGreatG15zA
set_option linter.unusedVariables false
namespace Go.SyP
open Go Go.Sy
noncomputable section
def Qbv (a0:Int) (a1:Int) (a2:Int):We:=
 (⟨1,a0,a0,([(⟨a1,a2⟩:Qa)]:List Qa),(⟨0,0⟩:Qb),0⟩:We)
inductive Zz.S where
 | l1 (Ws:Int)
def Zz.j1 (Ws:Int) (Qr3:Bool):Option (Zz.S ⊕ Bool):=
 if Qr3=true then
  some (.inr false)
 else
  some (.inl (.l1 (IntKind.wrap .i64 (Ws+1))))
def Zz.l1 (a0:List Qb) (Ws:Int):Option (Zz.S ⊕ Bool):=
 if Ws < (a0.length:Int) then
  if 0<=Ws/\Ws < (a0.length:Int) then
   if (Qcd (a0.getD Ws.toNat Qb.z))=true then
    if Ws > 0 then
     if 0<=(IntKind.wrap .i64 (Ws - 1))/\(IntKind.wrap .i64 (Ws - 1)) < (a0.length:Int) then
      Zz.j1 Ws (decide (((a0.getD Ws.toNat Qb.z).Lo)<=((a0.getD ((IntKind.wrap .i64 (Ws - 1)).toNat) Qb.z).Hi)))
     else none
    else
     Zz.j1 Ws false
   else
    Zz.j1 Ws true
  else none
 else
  some (.inr (decide ((a0.length:Int)<=64)))
def Zz.step (a0:List Qb):Zz.S->Option (Zz.S ⊕ Bool)
 | .l1 Ws=>Zz.l1 a0 Ws
def Zz (a0:List Qb):Option Bool:=
 Xf (Zz.step a0) (.l1 0)
inductive Yy.S where
 | l1 (Xd:Int)
def Yy.l1 (a0:List Qc) (p1:Qc->Option Bool) (Xd:Int):Option (Yy.S ⊕ Int):=
 if Xd < (a0.length:Int) then
  if 0<=Xd/\Xd < (a0.length:Int) then
   (p1 (a0.getD Xd.toNat Qc.z)).bind fun v1=>
   if v1=true then
    some (.inr Xd)
   else
    some (.inl (.l1 (IntKind.wrap .i64 (Xd+1))))
  else none
 else
  some (.inr (-1))
def Yy.step (a0:List Qc) (p1:Qc->Option Bool):Yy.S->Option (Yy.S ⊕ Int)
 | .l1 Xd=>Yy.l1 a0 p1 Xd
def Yy (a0:List Qc) (p1:Qc->Option Bool):Option Int:=
 Xf (Yy.step a0 p1) (.l1 0)
def Qbl (a0:List Qc) (p1:Qc->Option Bool):Option Bool:=
 (Yy a0 p1).bind fun v1=>
 some (decide (v1>=0))
def Qg8 (a0:Qc):Option Bool:=
 (Qbx a0.M).bind fun v1=>
 some (!v1)
inductive Xn.S where
 | l1 (Ws:Int)
def Xn.j1 (Ws:Int) (Qr9:Bool):Option (Xn.S ⊕ Bool):=
 if Qr9=true then
  some (.inr false)
 else
  some (.inl (.l1 (IntKind.wrap .i64 (Ws+1))))
def Xn.l1 (a0:List Qa) (Ws:Int):Option (Xn.S ⊕ Bool):=
 if Ws < (a0.length:Int) then
  if 0<=Ws/\Ws < (a0.length:Int) then
   if ((a0.getD Ws.toNat Qa.z).Key) < 0 then
    Xn.j1 Ws true
   else
    if ((a0.getD Ws.toNat Qa.z).Key)>=4096 then
     Xn.j1 Ws true
    else
     if ((a0.getD Ws.toNat Qa.z).Val) < (-1099511627776) then
      Xn.j1 Ws true
     else
      if ((a0.getD Ws.toNat Qa.z).Val) > 1099511627776 then
       Xn.j1 Ws true
      else
       if Ws > 0 then
        if 0<=(IntKind.wrap .i64 (Ws - 1))/\(IntKind.wrap .i64 (Ws - 1)) < (a0.length:Int) then
         Xn.j1 Ws (decide (((a0.getD ((IntKind.wrap .i64 (Ws - 1)).toNat) Qa.z).Key)>=((a0.getD Ws.toNat Qa.z).Key)))
        else none
       else
        Xn.j1 Ws false
  else none
 else
  some (.inr true)
def Xn.step (a0:List Qa):Xn.S->Option (Xn.S ⊕ Bool)
 | .l1 Ws=>Xn.l1 a0 Ws
def Xn (a0:List Qa):Option Bool:=
 Xf (Xn.step a0) (.l1 0)
inductive Xx.S where
 | l1 (Xi:Int) (Yq:Int) (Xp:List Qa)
def Xx.j1 (Yq:Int) (Qni:Int) (Qis:List Qa):Option (Xx.S ⊕ (List Qa)):=
 some (.inl (.l1 Qni (IntKind.wrap .i64 (Yq+1)) Qis))
def Xx.l1 (p1:Qa->Option Bool) (Xi:Int) (Yq:Int) (Xp:List Qa):Option (Xx.S ⊕ (List Qa)):=
 if Yq < (Xp.length:Int) then
  if 0<=Yq/\Yq < (Xp.length:Int) then
   (p1 (Xp.getD Yq.toNat Qa.z)).bind fun v2=>
   if v2=true then
    Xx.j1 Yq Xi Xp
   else
    if 0<=Xi/\Xi < (Xp.length:Int) then
     Xx.j1 Yq (IntKind.wrap .i64 (Xi+1)) (Xp.set Xi.toNat (Xp.getD Yq.toNat Qa.z))
    else none
  else none
 else
  if 0<=Xi/\Xi<=(Xp.length:Int) then
   some (.inr (Xp.take Xi.toNat))
  else none
def Xx.step (p1:Qa->Option Bool):Xx.S->Option (Xx.S ⊕ (List Qa))
 | .l1 Xi Yq Xp=>Xx.l1 p1 Xi Yq Xp
def Xx (a0:List Qa) (p1:Qa->Option Bool):Option (List Qa):=
 (Zd a0 p1).bind fun v1=>
 if v1=(-1) then
  some a0
 else
  Xf (Xx.step p1) (.l1 v1 (IntKind.wrap .i64 (v1+1)) a0)
def Qe2.j1 (Qh8:Bool):Bool:=
 Qh8
def Qe2 (a0:Qb) (k0:Int):Bool:=
 if (Qcd a0)=true then
  if k0>=a0.Lo then
   Qe2.j1 (decide (k0 < a0.Hi))
  else
   Qe2.j1 false
 else
  Qe2.j1 false
def Qf9 (a0:List Qb) (a1:Int):Option Bool:=
 (Qb3 a0 (fun z0=>some (Qe2 z0 a1))).bind fun v1=>
 some v1
def Qem.j1 (Qd3:Bool):Option Bool:=
 some Qd3
def Qem (a0:Qa) (k0:Qb) (k1:List Qb):Option Bool:=
 if a0.Key>=k0.Lo then
  if a0.Key < k0.Hi then
   (Qf9 k1 a0.Key).bind fun v1=>
   Qem.j1 v1
  else
   Qem.j1 false
 else
  Qem.j1 false
def Qkx (a0:List Qa) (a1:Qb) (a2:List Qb):Option (List Qa):=
 (Xx a0 (fun z0=>Qem z0 a1 a2)).bind fun v1=>
 some v1
def Qfz.j1 (Qb4:Bool):Option Bool:=
 some Qb4
def Qfz (a0:We):Option Bool:=
 (Qbx a0).bind fun v1=>
 if v1=true then
  if a0.Kind=3 then
   Qfz.j1 true
  else
   Qfz.j1 (a0.Kind == 4)
 else
  Qfz.j1 false
inductive Xw.S where
 | l1 (Qa4:Int) (Xq:Int)
def Xw.j1 (Qa4:Int) (Qlp:Bool):Option (Xw.S ⊕ (Int × Bool)):=
 some (.inr (Qa4,Qlp))
def Xw.l1 (a0:List Qa) (a1:Int) (p2:Qa->Int->Option Int) (Qa4:Int) (Xq:Int):Option (Xw.S ⊕ (Int × Bool)):=
 if Qa4 < Xq then
  bnd (IntKind.wrap .i64 (Int.fdiv (IntKind.wrap .u64 (IntKind.wrap .i64 (Qa4+Xq))) 2)) fun (v2:Int)=>
  if 0<=v2/\v2 < (a0.length:Int) then
   (p2 (a0.getD v2.toNat Qa.z) a1).bind fun v3=>
   if v3 < 0 then
    some (.inl (.l1 (IntKind.wrap .i64 (v2+1)) Xq))
   else
    some (.inl (.l1 Qa4 v2))
  else none
 else
  if Qa4 < (a0.length:Int) then
   if 0<=Qa4/\Qa4 < (a0.length:Int) then
    (p2 (a0.getD Qa4.toNat Qa.z) a1).bind fun v1=>
    Xw.j1 Qa4 (v1 == 0)
   else none
  else
   Xw.j1 Qa4 false
def Xw.step (a0:List Qa) (a1:Int) (p2:Qa->Int->Option Int):Xw.S->Option (Xw.S ⊕ (Int × Bool))
 | .l1 Qa4 Xq=>Xw.l1 a0 a1 p2 Qa4 Xq
def Xw (a0:List Qa) (a1:Int) (p2:Qa->Int->Option Int):Option (Int × Bool):=
 Xf (Xw.step a0 a1 p2) (.l1 0 (a0.length:Int))
def Qgj (a0:Qa) (a1:Int):Int:=
 Zt a0.Key a1
def Qhm (a0:List Qa) (a1:Int):Option (Int × Bool):=
 (Xw a0 a1 (fun z0 z1=>some (Qgj z0 z1))).bind fun v1=>
 some (v1.1,v1.2)
def Qij (a0:List Qa) (a1:Int):Option (Int × Bool):=
 (Qhm a0 a1).bind fun v1=>
 if v1.2=true then
  if 0<=v1.1/\v1.1 < (a0.length:Int) then
   some ((a0.getD v1.1.toNat Qa.z).Val,true)
  else none
 else
  some (0,false)
def Qe6 (a0:List Qa) (a1:Int) (a2:Int):Option (List Qa):=
 (Qhm a0 a1).bind fun v1=>
 if v1.2=true then
  if 0<=v1.1/\v1.1 < (a0.length:Int) then
   some (a0.set v1.1.toNat (⟨(a0.getD v1.1.toNat Qa.z).Key,a2⟩:Qa))
  else none
 else
  if (0<=v1.1/\v1.1<=(a0.length:Int))/\(a0.length+1) * 16<=140737488355328 then
   some (a0.take v1.1.toNat ++ (⟨a1,a2⟩:Qa) :: a0.drop v1.1.toNat)
  else none
def Qcb.j1 (a0:List Qa) (a1:We) (v1:Int × Bool) (Qe4:Bool):Option ((List Qa) × Bool):=
 if Qe4=true then
  some (a0,false)
 else
  (Qe6 a0 ((a1.Pairs.getD 0 Qa.z).Key) (IntKind.wrap .i64 (v1.1+((a1.Pairs.getD 0 Qa.z).Val)))).bind fun v2=>
  some (v2,true)
def Qcb.j2 (a0:List Qa) (a1:We) (Qtu:Int):Option ((List Qa) × Bool):=
 if Qtu=a1.Old then
  (Qe6 a0 ((a1.Pairs.getD 0 Qa.z).Key) ((a1.Pairs.getD 0 Qa.z).Val)).bind fun v3=>
  some (v3,true)
 else
  some (a0,false)
def Qcb (a0:List Qa) (a1:We):Option ((List Qa) × Bool):=
 if (0:Int)<=0/\0 < (a1.Pairs.length:Int) then
  (Qij a0 ((a1.Pairs.getD 0 Qa.z).Key)).bind fun v1=>
  if a1.Kind=3 then
   if (IntKind.wrap .i64 (v1.1+((a1.Pairs.getD 0 Qa.z).Val))) < 0 then
    Qcb.j1 a0 a1 v1 true
   else
    Qcb.j1 a0 a1 v1 (decide ((IntKind.wrap .i64 (v1.1+((a1.Pairs.getD 0 Qa.z).Val))) > 1099511627776))
  else
   if v1.2=true then
    Qcb.j2 a0 a1 v1.1
   else
    Qcb.j2 a0 a1 1099511627777
 else none
def Qg0 (a0:List Qa) (a1:Int) (a2:Int):Option (List Qa):=
 (Qij a0 a1).bind fun v1=>
 (Qe6 a0 a1 (Qh3 (Qf6 (IntKind.wrap .i64 (v1.1+a2)) (-1099511627776)) 1099511627776)).bind fun v2=>
 some v2
inductive Wz.S where
 | l1 (Qam:Int) (Xp:List Qa)
def Wz.j2 (Qam:Int) (Qp5:List Qa):Option (Wz.S ⊕ ((List Qa) × Bool)):=
 some (.inl (.l1 (IntKind.wrap .i64 (Qam+1)) Qp5))
def Wz.l1 (a1:We) (a2:List Qb) (Qam:Int) (Xp:List Qa):Option (Wz.S ⊕ ((List Qa) × Bool)):=
 if Qam < (a1.Pairs.length:Int) then
  if 0<=Qam/\Qam < (a1.Pairs.length:Int) then
   (Qf9 a2 ((a1.Pairs.getD Qam.toNat Qa.z).Key)).bind fun v8=>
   if v8=true then
    if a1.Kind=1 then
     (Qe6 Xp ((a1.Pairs.getD Qam.toNat Qa.z).Key) ((a1.Pairs.getD Qam.toNat Qa.z).Val)).bind fun v9=>
     Wz.j2 Qam v9
    else
     if Qam=0 then
      (Qg0 Xp ((a1.Pairs.getD Qam.toNat Qa.z).Key) (IntKind.wrap .i64 (0 - ((a1.Pairs.getD Qam.toNat Qa.z).Val)))).bind fun v10=>
      Wz.j2 Qam v10
     else
      (Qg0 Xp ((a1.Pairs.getD Qam.toNat Qa.z).Key) ((a1.Pairs.getD Qam.toNat Qa.z).Val)).bind fun v11=>
      Wz.j2 Qam v11
   else
    Wz.j2 Qam Xp
  else none
 else
  some (.inr (Xp,true))
def Wz.step (a1:We) (a2:List Qb):Wz.S->Option (Wz.S ⊕ ((List Qa) × Bool))
 | .l1 Qam Xp=>Wz.l1 a1 a2 Qam Xp
def Wz.j1 (a0:List Qa) (a1:We) (a2:List Qb) (Qr0:Bool):Option ((List Qa) × Bool):=
 if Qr0=true then
  some (([]:List Qa),false)
 else
  if a0.length * 16<=140737488355328 then
   if a1.Kind=2 then
    (Qkx a0 a1.Over a2).bind fun v4=>
    some (v4,true)
   else
    (Qfz a1).bind fun v5=>
    if v5=true then
     if (0:Int)<=0/\0 < (a1.Pairs.length:Int) then
      (Qf9 a2 ((a1.Pairs.getD 0 Qa.z).Key)).bind fun v6=>
      if v6=true then
       (Qcb a0 a1).bind fun v7=>
       some (v7.1,v7.2)
      else
       some (a0,true)
     else none
    else
     Xf (Wz.step a1 a2) (.l1 0 a0)
  else none
def Wz (a0:List Qa) (a1:We) (a2:List Qb):Option ((List Qa) × Bool):=
 (Xn a0).bind fun v1=>
 if v1=true then
  (Qbx a1).bind fun v2=>
  if v2=true then
   (Zz a2).bind fun v3=>
   Wz.j1 a0 a1 a2 (!v3)
  else
   Wz.j1 a0 a1 a2 true
 else
  Wz.j1 a0 a1 a2 true
inductive Zn.S where
 | l1 (Qd7:Int) (Qx:List Qa)
def Zn.j3 (Qd7:Int) (Qp6:List Qa):Option (Zn.S ⊕ (List Qa)):=
 some (.inl (.l1 (IntKind.wrap .i64 (Qd7+1)) Qp6))
def Zn.j2 (a0:List Qc) (a1:List Qb) (Qd7:Int) (Qx:List Qa) (Qsg:Bool):Option (Zn.S ⊕ (List Qa)):=
 if Qsg=true then
  (Wz Qx ((a0.getD Qd7.toNat Qc.z).M) a1).bind fun v3=>
  Zn.j3 Qd7 v3.1
 else
  Zn.j3 Qd7 Qx
def Zn.l1 (a0:List Qc) (a1:List Qb) (a2:Int) (Qd7:Int) (Qx:List Qa):Option (Zn.S ⊕ (List Qa)):=
 if Qd7 < (a0.length:Int) then
  if 0<=Qd7/\Qd7 < (a0.length:Int) then
   if ((a0.getD Qd7.toNat Qc.z).Zw)=true then
    Zn.j2 a0 a1 Qd7 Qx (decide (((a0.getD Qd7.toNat Qc.z).Time)<=a2))
   else
    Zn.j2 a0 a1 Qd7 Qx false
  else none
 else
  some (.inr Qx)
def Zn.step (a0:List Qc) (a1:List Qb) (a2:Int):Zn.S->Option (Zn.S ⊕ (List Qa))
 | .l1 Qd7 Qx=>Zn.l1 a0 a1 a2 Qd7 Qx
def Zn.j1 (a0:List Qc) (a1:List Qb) (a2:Int) (Qry:Bool):Option (List Qa):=
 if Qry=true then
  some ([]:List Qa)
 else
  Xf (Zn.step a0 a1 a2) (.l1 0 ([]:List Qa))
def Zn (a0:List Qc) (a1:List Qb) (a2:Int):Option (List Qa):=
 (Zz a1).bind fun v1=>
 if v1=true then
  (Qbl a0 (fun z0=>Qg8 z0)).bind fun v2=>
  Zn.j1 a0 a1 a2 v2
 else
  Zn.j1 a0 a1 a2 true
inductive Jc.S where
 | l1 (Xd:Int)
def Jc.l1 (a0:List We) (p1:We->Option Bool) (Xd:Int):Option (Jc.S ⊕ Int):=
 if Xd < (a0.length:Int) then
  if 0<=Xd/\Xd < (a0.length:Int) then
   (p1 (a0.getD Xd.toNat We.z)).bind fun v1=>
   if v1=true then
    some (.inr Xd)
   else
    some (.inl (.l1 (IntKind.wrap .i64 (Xd+1))))
  else none
 else
  some (.inr (-1))
def Jc.step (a0:List We) (p1:We->Option Bool):Jc.S->Option (Jc.S ⊕ Int)
 | .l1 Xd=>Jc.l1 a0 p1 Xd
def Jc (a0:List We) (p1:We->Option Bool):Option Int:=
 Xf (Jc.step a0 p1) (.l1 0)
def Qcp (a0:List We) (p1:We->Option Bool):Option Bool:=
 (Jc a0 p1).bind fun v1=>
 some (decide (v1>=0))
def Qg9 (a0:We):Option Bool:=
 (Qbx a0).bind fun v1=>
 some (!v1)
inductive Qbk.S where
 | l1 (Qhc:Int) (Qx:List Qa)
def Qbk.l1 (a1:List We) (a2:List Qb) (Qhc:Int) (Qx:List Qa):Option (Qbk.S ⊕ (List Qa)):=
 if Qhc < (a1.length:Int) then
  if 0<=Qhc/\Qhc < (a1.length:Int) then
   (Wz Qx (a1.getD Qhc.toNat We.z) a2).bind fun v4=>
   some (.inl (.l1 (IntKind.wrap .i64 (Qhc+1)) v4.1))
  else none
 else
  some (.inr Qx)
def Qbk.step (a1:List We) (a2:List Qb):Qbk.S->Option (Qbk.S ⊕ (List Qa))
 | .l1 Qhc Qx=>Qbk.l1 a1 a2 Qhc Qx
def Qbk.j1 (a0:List Qa) (a1:List We) (a2:List Qb) (Qgo:Bool):Option (List Qa):=
 if Qgo=true then
  some ([]:List Qa)
 else
  if a0.length * 16<=140737488355328 then
   Xf (Qbk.step a1 a2) (.l1 0 a0)
  else none
def Qbk (a0:List Qa) (a1:List We) (a2:List Qb):Option (List Qa):=
 (Xn a0).bind fun v1=>
 if v1=true then
  (Zz a2).bind fun v2=>
  if v2=true then
   (Qcp a1 (fun z0=>Qg9 z0)).bind fun v3=>
   Qbk.j1 a0 a1 a2 v3
  else
   Qbk.j1 a0 a1 a2 true
 else
  Qbk.j1 a0 a1 a2 true
def Qcu.j1 (Qh8:Bool):Bool:=
 Qh8
def Qcu (a0:Qc) (k0:Qc):Bool:=
 if a0.M.Client=k0.M.Client then
  Qcu.j1 (decide (a0.M.Seq>=k0.M.Seq))
 else
  Qcu.j1 false
inductive Qau.S where
 | l1 (Ws:Int)
def Qau.l1 (a0:List Qc) (Ws:Int):Option (Qau.S ⊕ Bool):=
 if Ws < (a0.length:Int) then
  if 0<=Ws/\Ws < (a0.length:Int) then
   if 0<=(0:Int)/\(0:Int)<=Ws/\Ws<=(a0.length:Int) then
    (Qbl ((a0.drop 0).take (Ws.toNat - 0)) (fun z0=>some (Qcu z0 (a0.getD Ws.toNat Qc.z)))).bind fun v1=>
    if v1=true then
     some (.inr false)
    else
     some (.inl (.l1 (IntKind.wrap .i64 (Ws+1))))
   else none
  else none
 else
  some (.inr true)
def Qau.step (a0:List Qc):Qau.S->Option (Qau.S ⊕ Bool)
 | .l1 Ws=>Qau.l1 a0 Ws
def Qau (a0:List Qc):Option Bool:=
 Xf (Qau.step a0) (.l1 0)
def Qu.j1 (Qvr:Bool):Option Bool:=
 some Qvr
def Qu:Option Bool:=
 bnd (Qbv 1 5 1) fun (v1:We)=>
 bnd (Qbv 3 5 2) fun (v2:We)=>
 (Zn ([(⟨(⟨v1.Client,v1.Seq,v1.Kind,v1.Pairs,(v1.Over),v1.Old⟩:We),3,true⟩:Qc),(⟨(⟨v2.Client,v2.Seq,v2.Kind,v2.Pairs,(v2.Over),v2.Old⟩:We),4,true⟩:Qc)]:List Qc) ([(⟨0,9⟩:Qb)]:List Qb) 3).bind fun v3=>
 (Zn ([(⟨(⟨v1.Client,v1.Seq,v1.Kind,v1.Pairs,(v1.Over),v1.Old⟩:We),3,true⟩:Qc),(⟨(⟨v2.Client,v2.Seq,v2.Kind,v2.Pairs,(v2.Over),v2.Old⟩:We),4,true⟩:Qc)]:List Qc) ([(⟨0,9⟩:Qb)]:List Qb) 9).bind fun v4=>
 bnd (Qbv 3 5 4) fun (v5:We)=>
 (Qbk v4 ([v5]:List We) ([(⟨0,9⟩:Qb)]:List Qb)).bind fun v6=>
 if (v3.length:Int)=1 then
  if (0:Int)<=0/\0 < (v3.length:Int) then
   if ((v3.getD 0 Qa.z).Val)=1 then
    if (v4.length:Int)=1 then
     if (0:Int)<=0/\0 < (v4.length:Int) then
      if ((v4.getD 0 Qa.z).Val)=3 then
       if (v6.length:Int)=1 then
        if (0:Int)<=0/\0 < (v6.length:Int) then
         if ((v6.getD 0 Qa.z).Val)=7 then
          (Qau ([(⟨(⟨v1.Client,v1.Seq,v1.Kind,v1.Pairs,(v1.Over),v1.Old⟩:We),3,true⟩:Qc),(⟨(⟨v2.Client,v2.Seq,v2.Kind,v2.Pairs,(v2.Over),v2.Old⟩:We),4,true⟩:Qc)]:List Qc)).bind fun v7=>
          Qu.j1 v7
         else
          Qu.j1 false
        else none
       else
        Qu.j1 false
      else
       Qu.j1 false
     else none
    else
     Qu.j1 false
   else
    Qu.j1 false
  else none
 else
  Qu.j1 false
inductive Yj.S where
 | l1 (Qq:Int)
 | l2 (Yk:Int)
def Yj.j2 (Qq:Int) (Qsi:Bool):Option (Yj.S ⊕ Bool):=
 if Qsi=true then
  some (.inr false)
 else
  some (.inl (.l1 (IntKind.wrap .i64 (Qq+1))))
def Yj.l1 (a0:Qm) (Qq:Int):Option (Yj.S ⊕ Bool):=
 if Qq < (a0.Held.length:Int) then
  if 0<=Qq/\Qq < (a0.Held.length:Int) then
   if ((((a0.Held.getD Qq.toNat Qr.z).M).Pairs).length:Int) > 20 then
    Yj.j2 Qq true
   else
    Yj.j2 Qq (decide ((((a0.Held.getD Qq.toNat Qr.z).Qdk).length:Int) > 30))
  else none
 else
  some (.inl (.l2 0))
def Yj.l2 (a0:Qm) (Yk:Int):Option (Yj.S ⊕ Bool):=
 if Yk < (a0.Log.length:Int) then
  if 0<=Yk/\Yk < (a0.Log.length:Int) then
   if ((((a0.Log.getD Yk.toNat Qc.z).M).Pairs).length:Int) > 20 then
    some (.inr false)
   else
    some (.inl (.l2 (IntKind.wrap .i64 (Yk+1))))
  else none
 else
  some (.inr true)
def Yj.step (a0:Qm):Yj.S->Option (Yj.S ⊕ Bool)
 | .l1 Qq=>Yj.l1 a0 Qq
 | .l2 Yk=>Yj.l2 a0 Yk
def Yj.j1 (a0:Qm) (Qjz:Bool):Option Bool:=
 if Qjz=true then
  some false
 else
  Xf (Yj.step a0) (.l1 0)
def Yj (a0:Qm):Option Bool:=
 if (a0.Held.length:Int) > 30 then
  Yj.j1 a0 true
 else
  if (a0.Log.length:Int) > 40 then
   Yj.j1 a0 true
  else
   if (a0.Qs.length:Int) > 60 then
    Yj.j1 a0 true
   else
    Yj.j1 a0 (decide ((a0.Base.length:Int) > 60))
inductive Jw.S where
 | l1 (Qq:Int)
def Jw.j1 (Qq:Int) (Qrz:Bool):Option (Jw.S ⊕ Bool):=
 if Qrz=true then
  some (.inr false)
 else
  some (.inl (.l1 (IntKind.wrap .i64 (Qq+1))))
def Jw.l1 (a0:List Qm) (Qq:Int):Option (Jw.S ⊕ Bool):=
 if Qq < (a0.length:Int) then
  if Qq > 6 then
   Jw.j1 Qq true
  else
   if 0<=Qq/\Qq < (a0.length:Int) then
    (Yj (a0.getD Qq.toNat Qm.z)).bind fun v1=>
    Jw.j1 Qq (!v1)
   else none
 else
  some (.inr true)
def Jw.step (a0:List Qm):Jw.S->Option (Jw.S ⊕ Bool)
 | .l1 Qq=>Jw.l1 a0 Qq
def Jw (a0:List Qm):Option Bool:=
 Xf (Jw.step a0) (.l1 0)
def Qbj.j1 (Qh9:Bool):Bool:=
 Qh9
def Qbj (a0:Int) (a1:Int) (a2:Int):Bool:=
 if a0>=a1 then
  Qbj.j1 (decide (a0<=a2))
 else
  Qbj.j1 false
def Qec (a0:Int):Bool:=
 Qbj a0 0 1099511627775
def Qa5 (a0:Qm):List Qb:=
 ([a0.Keys]:List Qb)
inductive Qap.S where
 | l1 (Qdl:Int) (Qx:List Qa)
def Qap.j2 (Qdl:Int) (Qfy:List Qa):Option (Qap.S ⊕ (List Qa)):=
 some (.inl (.l1 (IntKind.wrap .i64 (Qdl+1)) Qfy))
def Qap.l1 (a0:List Qa) (a1:List Qb) (Qdl:Int) (Qx:List Qa):Option (Qap.S ⊕ (List Qa)):=
 if Qdl < (a0.length:Int) then
  if 0<=Qdl/\Qdl < (a0.length:Int) then
   (Qf9 a1 ((a0.getD Qdl.toNat Qa.z).Key)).bind fun v3=>
   if v3=true then
    if (Qx.length+1) * 16<=140737488355328 then
     Qap.j2 Qdl (Qx ++ [(a0.getD Qdl.toNat Qa.z)])
    else none
   else
    Qap.j2 Qdl Qx
  else none
 else
  some (.inr Qx)
def Qap.step (a0:List Qa) (a1:List Qb):Qap.S->Option (Qap.S ⊕ (List Qa))
 | .l1 Qdl Qx=>Qap.l1 a0 a1 Qdl Qx
def Qap.j1 (a0:List Qa) (a1:List Qb) (Qrx:Bool):Option (List Qa):=
 if Qrx=true then
  some ([]:List Qa)
 else
  Xf (Qap.step a0 a1) (.l1 0 ([]:List Qa))
def Qap (a0:List Qa) (a1:List Qb):Option (List Qa):=
 (Xn a0).bind fun v1=>
 if v1=true then
  (Zz a1).bind fun v2=>
  Qap.j1 a0 a1 (!v2)
 else
  Qap.j1 a0 a1 true
def Qeu (a0:Qo) (a1:Qo):Option Int:=
 (Qa8 ([Zt a0.Client a1.Client,Zt a0.Seq a1.Seq]:List Int)).bind fun v1=>
 some v1
inductive Xt.S where
 | l1 (Xd:Int)
def Xt.j1 (Xd:Int) (Qr8:Bool):Option (Xt.S ⊕ Bool):=
 if Qr8=true then
  some (.inr false)
 else
  some (.inl (.l1 (IntKind.wrap .i64 (Xd+1))))
def Xt.l1 (a0:Qm) (Xd:Int):Option (Xt.S ⊕ Bool):=
 if Xd < (a0.Qs.length:Int) then
  if 0<=Xd/\Xd < (a0.Qs.length:Int) then
   if (Qbj ((a0.Qs.getD Xd.toNat Qo.z).Client) 1 1048576)=true then
    if (Qbj ((a0.Qs.getD Xd.toNat Qo.z).Seq) 1 1073741824)=true then
     if (Qec ((a0.Qs.getD Xd.toNat Qo.z).Time))=true then
      if Xd > 0 then
       if 0<=(IntKind.wrap .i64 (Xd - 1))/\(IntKind.wrap .i64 (Xd - 1)) < (a0.Qs.length:Int) then
        (Qeu (a0.Qs.getD ((IntKind.wrap .i64 (Xd - 1)).toNat) Qo.z) (a0.Qs.getD Xd.toNat Qo.z)).bind fun v1=>
        Xt.j1 Xd (decide (v1>=0))
       else none
      else
       Xt.j1 Xd false
     else
      Xt.j1 Xd true
    else
     Xt.j1 Xd true
   else
    Xt.j1 Xd true
  else none
 else
  some (.inr true)
def Xt.step (a0:Qm):Xt.S->Option (Xt.S ⊕ Bool)
 | .l1 Xd=>Xt.l1 a0 Xd
def Xt (a0:Qm):Option Bool:=
 Xf (Xt.step a0) (.l1 0)
inductive Qbd.S where
 | l1 (Qaw:Int) (Qx:List Qb)
def Qbd.l1 (a0:We) (Qaw:Int) (Qx:List Qb):Option (Qbd.S ⊕ (List Qb)):=
 if Qaw < (a0.Pairs.length:Int) then
  if 0<=Qaw/\Qaw < (a0.Pairs.length:Int) then
   if (Qx.length+1) * 16<=140737488355328 then
    some (.inl (.l1 (IntKind.wrap .i64 (Qaw+1)) (Qx ++ [(⟨(a0.Pairs.getD Qaw.toNat Qa.z).Key,IntKind.wrap .i64 (((a0.Pairs.getD Qaw.toNat Qa.z).Key)+1)⟩:Qb)])))
   else none
  else none
 else
  (Wx Qx).bind fun v2=>
  some (.inr v2.1)
def Qbd.step (a0:We):Qbd.S->Option (Qbd.S ⊕ (List Qb))
 | .l1 Qaw Qx=>Qbd.l1 a0 Qaw Qx
def Qbd (a0:We):Option (List Qb):=
 (Qbx a0).bind fun v1=>
 if v1=true then
  if a0.Kind=2 then
   some ([a0.Over]:List Qb)
  else
   Xf (Qbd.step a0) (.l1 0 ([]:List Qb))
 else
  some ([]:List Qb)
inductive Qar.S where
 | l1 (Ja:Int) (Qx:List Qb)
 | l2 (Qgn:Int) (Qb7:Int) (Zm:List Qb) (Yu:Int) (Ye:Int)
def Qar.j1 (Qgn:Int) (Qb7:Int) (Yu:Int) (Ye:Int) (Qp4:List Qb):Option (Qar.S ⊕ (List Qb)):=
 some (.inl (.l2 Qgn (IntKind.wrap .i64 (Qb7+1)) Qp4 Yu Ye))
def Qar.l1 (a0:List Qb) (Ja:Int) (Qx:List Qb):Option (Qar.S ⊕ (List Qb)):=
 if Ja < (a0.length:Int) then
  if 0<=Ja/\Ja < (a0.length:Int) then
   some (.inl (.l2 Ja 0 Qx ((a0.getD Ja.toNat Qb.z).Lo) ((a0.getD Ja.toNat Qb.z).Hi)))
  else none
 else
  some (.inr Qx)
def Qar.l2 (a1:List Qb) (Qgn:Int) (Qb7:Int) (Zm:List Qb) (Yu:Int) (Ye:Int):Option (Qar.S ⊕ (List Qb)):=
 if Qb7 < (a1.length:Int) then
  if 0<=Qb7/\Qb7 < (a1.length:Int) then
   if (Qf6 Yu ((a1.getD Qb7.toNat Qb.z).Lo)) < (Qh3 Ye ((a1.getD Qb7.toNat Qb.z).Hi)) then
    if (Zm.length+1) * 16<=140737488355328 then
     Qar.j1 Qgn Qb7 Yu Ye (Zm ++ [(⟨Qf6 Yu ((a1.getD Qb7.toNat Qb.z).Lo),Qh3 Ye ((a1.getD Qb7.toNat Qb.z).Hi)⟩:Qb)])
    else none
   else
    Qar.j1 Qgn Qb7 Yu Ye Zm
  else none
 else
  some (.inl (.l1 (IntKind.wrap .i64 (Qgn+1)) Zm))
def Qar.step (a0:List Qb) (a1:List Qb):Qar.S->Option (Qar.S ⊕ (List Qb))
 | .l1 Ja Qx=>Qar.l1 a0 Ja Qx
 | .l2 Qgn Qb7 Zm Yu Ye=>Qar.l2 a1 Qgn Qb7 Zm Yu Ye
def Qar (a0:List Qb) (a1:List Qb):Option (List Qb):=
 Xf (Qar.step a0 a1) (.l1 0 ([]:List Qb))
def Qdx.j1 (Qd3:Bool):Option Bool:=
 some Qd3
def Qdx (a0:List Qb) (a1:List Qb):Option Bool:=
 (Zz a0).bind fun v1=>
 if v1=true then
  (Zz a1).bind fun v2=>
  if v2=true then
   (Qar a0 a1).bind fun v3=>
   Qdx.j1 (decide ((v3.length:Int) > 0))
  else
   Qdx.j1 false
 else
  Qdx.j1 false
def Qgc (a0:Qm) (a1:We):Option Bool:=
 (Qbd a1).bind fun v1=>
 bnd (Qa5 a0) fun (v2:List Qb)=>
 (Qdx v1 v2).bind fun v3=>
 some v3
inductive Xm.S where
 | l1 (Qa4:Int) (Xq:Int)
def Xm.j1 (Qa4:Int) (Qlp:Bool):Option (Xm.S ⊕ (Int × Bool)):=
 some (.inr (Qa4,Qlp))
def Xm.l1 (a0:List Qo) (a1:Qo) (p2:Qo->Qo->Option Int) (Qa4:Int) (Xq:Int):Option (Xm.S ⊕ (Int × Bool)):=
 if Qa4 < Xq then
  bnd (IntKind.wrap .i64 (Int.fdiv (IntKind.wrap .u64 (IntKind.wrap .i64 (Qa4+Xq))) 2)) fun (v2:Int)=>
  if 0<=v2/\v2 < (a0.length:Int) then
   (p2 (a0.getD v2.toNat Qo.z) a1).bind fun v3=>
   if v3 < 0 then
    some (.inl (.l1 (IntKind.wrap .i64 (v2+1)) Xq))
   else
    some (.inl (.l1 Qa4 v2))
  else none
 else
  if Qa4 < (a0.length:Int) then
   if 0<=Qa4/\Qa4 < (a0.length:Int) then
    (p2 (a0.getD Qa4.toNat Qo.z) a1).bind fun v1=>
    Xm.j1 Qa4 (v1 == 0)
   else none
  else
   Xm.j1 Qa4 false
def Xm.step (a0:List Qo) (a1:Qo) (p2:Qo->Qo->Option Int):Xm.S->Option (Xm.S ⊕ (Int × Bool))
 | .l1 Qa4 Xq=>Xm.l1 a0 a1 p2 Qa4 Xq
def Xm (a0:List Qo) (a1:Qo) (p2:Qo->Qo->Option Int):Option (Int × Bool):=
 Xf (Xm.step a0 a1 p2) (.l1 0 (a0.length:Int))
def Qic (a0:Qm) (a1:Int) (a2:Int):Option (Int × Bool):=
 (Xm a0.Qs (⟨a1,a2,0,false⟩:Qo) (fun z0 z1=>Qeu z0 z1)).bind fun v1=>
 some (v1.1,v1.2)
inductive Xk.S where
 | l1 (Xq:Int)
def Xk.j3 (Xq:Int) (Qj3:Bool):Option (Xk.S ⊕ Bool):=
 if Qj3=true then
  some (.inr false)
 else
  some (.inl (.l1 (IntKind.wrap .i64 (Xq+1))))
def Xk.j2 (a0:Qm) (Xq:Int) (Qj2:Bool):Option (Xk.S ⊕ Bool):=
 if Qj2=true then
  some (.inr false)
 else
  (Qic a0 (((a0.Log.getD Xq.toNat Qc.z).M).Client) (((a0.Log.getD Xq.toNat Qc.z).M).Seq)).bind fun v4=>
  if v4.2=true then
   if 0<=v4.1/\v4.1 < (a0.Qs.length:Int) then
    if ((a0.Qs.getD v4.1.toNat Qo.z).Time)=((a0.Log.getD Xq.toNat Qc.z).Time) then
     Xk.j3 Xq (!(((a0.Qs.getD v4.1.toNat Qo.z).Zw) == ((a0.Log.getD Xq.toNat Qc.z).Zw)))
    else
     Xk.j3 Xq true
   else none
  else
   Xk.j3 Xq true
def Xk.j1 (a0:Qm) (Xq:Int) (Qr4:Bool):Option (Xk.S ⊕ Bool):=
 if Qr4=true then
  some (.inr false)
 else
  if Xq > 0 then
   if 0<=(IntKind.wrap .i64 (Xq - 1))/\(IntKind.wrap .i64 (Xq - 1)) < (a0.Log.length:Int) then
    (Qcw (Qbr ((a0.Log.getD ((IntKind.wrap .i64 (Xq - 1)).toNat) Qc.z).Time) ((a0.Log.getD ((IntKind.wrap .i64 (Xq - 1)).toNat) Qc.z).M)) (Qbr ((a0.Log.getD Xq.toNat Qc.z).Time) ((a0.Log.getD Xq.toNat Qc.z).M))).bind fun v3=>
    Xk.j2 a0 Xq (decide (v3>=0))
   else none
  else
   Xk.j2 a0 Xq false
def Xk.l1 (a0:Qm) (Xq:Int):Option (Xk.S ⊕ Bool):=
 if Xq < (a0.Log.length:Int) then
  if 0<=Xq/\Xq < (a0.Log.length:Int) then
   (Qbx ((a0.Log.getD Xq.toNat Qc.z).M)).bind fun v1=>
   if v1=true then
    (Qgc a0 ((a0.Log.getD Xq.toNat Qc.z).M)).bind fun v2=>
    if v2=true then
     Xk.j1 a0 Xq (!(Qbj ((a0.Log.getD Xq.toNat Qc.z).Time) 0 a0.Clock))
    else
     Xk.j1 a0 Xq true
   else
    Xk.j1 a0 Xq true
  else none
 else
  some (.inr (decide ((a0.Log.length:Int)<=(a0.Qs.length:Int))))
def Xk.step (a0:Qm):Xk.S->Option (Xk.S ⊕ Bool)
 | .l1 Xq=>Xk.l1 a0 Xq
def Xk (a0:Qm):Option Bool:=
 Xf (Xk.step a0) (.l1 0)
inductive Zv.S where
 | l1 (Xd:Int)
def Zv.l1 (a0:List Qr) (p1:Qr->Option Bool) (Xd:Int):Option (Zv.S ⊕ Int):=
 if Xd < (a0.length:Int) then
  if 0<=Xd/\Xd < (a0.length:Int) then
   (p1 (a0.getD Xd.toNat Qr.z)).bind fun v1=>
   if v1=true then
    some (.inr Xd)
   else
    some (.inl (.l1 (IntKind.wrap .i64 (Xd+1))))
  else none
 else
  some (.inr (-1))
def Zv.step (a0:List Qr) (p1:Qr->Option Bool):Zv.S->Option (Zv.S ⊕ Int)
 | .l1 Xd=>Zv.l1 a0 p1 Xd
def Zv (a0:List Qr) (p1:Qr->Option Bool):Option Int:=
 Xf (Zv.step a0 p1) (.l1 0)
def Qd4.j1 (Qd3:Bool):Bool:=
 Qd3
def Qd4 (a0:Qr) (k0:Int) (k1:Int):Bool:=
 if a0.M.Client=k0 then
  Qd4.j1 (a0.M.Seq == k1)
 else
  Qd4.j1 false
def Qkp (a0:Qm) (a1:Int) (a2:Int):Option Int:=
 (Zv a0.Held (fun z0=>some (Qd4 z0 a1 a2))).bind fun v1=>
 some v1
def Qgx (a0:Qr):Jk:=
 bnd (Qbr a0.Time a0.M) fun (v1:Jk)=>
 v1
inductive Xh.S where
 | l1 (Ju:Int)
def Xh.j2 (Ju:Int) (Qsl:Bool):Option (Xh.S ⊕ Bool):=
 if Qsl=true then
  some (.inr false)
 else
  some (.inl (.l1 (IntKind.wrap .i64 (Ju+1))))
def Xh.j1 (a0:Qm) (Ju:Int) (Qsa:Bool):Option (Xh.S ⊕ Bool):=
 if Qsa=true then
  some (.inr false)
 else
  (Qic a0 (((a0.Held.getD Ju.toNat Qr.z).M).Client) (((a0.Held.getD Ju.toNat Qr.z).M).Seq)).bind fun v4=>
  if v4.2=true then
   some (.inr false)
  else
   if (IntKind.wrap .i64 ((a0.Log.length:Int) - 1))>=0 then
    if 0<=(IntKind.wrap .i64 ((a0.Log.length:Int) - 1))/\(IntKind.wrap .i64 ((a0.Log.length:Int) - 1)) < (a0.Log.length:Int) then
     (Qcw (Qgx (a0.Held.getD Ju.toNat Qr.z)) (Qbr ((a0.Log.getD ((IntKind.wrap .i64 ((a0.Log.length:Int) - 1)).toNat) Qc.z).Time) ((a0.Log.getD ((IntKind.wrap .i64 ((a0.Log.length:Int) - 1)).toNat) Qc.z).M))).bind fun v5=>
     Xh.j2 Ju (decide (v5 < 0))
    else none
   else
    Xh.j2 Ju false
def Xh.l1 (a0:Qm) (Ju:Int):Option (Xh.S ⊕ Bool):=
 if Ju < (a0.Held.length:Int) then
  if 0<=Ju/\Ju < (a0.Held.length:Int) then
   (Qbx ((a0.Held.getD Ju.toNat Qr.z).M)).bind fun v1=>
   if v1=true then
    (Qgc a0 ((a0.Held.getD Ju.toNat Qr.z).M)).bind fun v2=>
    if v2=true then
     if (Qbj ((a0.Held.getD Ju.toNat Qr.z).Time) 1 a0.Clock)=true then
      (Qkp a0 (((a0.Held.getD Ju.toNat Qr.z).M).Client) (((a0.Held.getD Ju.toNat Qr.z).M).Seq)).bind fun v3=>
      Xh.j1 a0 Ju (v3 != Ju)
     else
      Xh.j1 a0 Ju true
    else
     Xh.j1 a0 Ju true
   else
    Xh.j1 a0 Ju true
  else none
 else
  some (.inr true)
def Xh.step (a0:Qm):Xh.S->Option (Xh.S ⊕ Bool)
 | .l1 Ju=>Xh.l1 a0 Ju
def Xh (a0:Qm):Option Bool:=
 Xf (Xh.step a0) (.l1 0)
def Qa9.j3 (Qkn:Bool):Option Bool:=
 some Qkn
def Qa9.j2 (a0:Qm) (Qj2:Bool):Option Bool:=
 if Qj2=true then
  some false
 else
  (Xt a0).bind fun v3=>
  if v3=true then
   (Xk a0).bind fun v4=>
   if v4=true then
    (Xh a0).bind fun v5=>
    Qa9.j3 v5
   else
    Qa9.j3 false
  else
   Qa9.j3 false
def Qa9.j1 (a0:Qm) (Qr2:Bool):Option Bool:=
 if Qr2=true then
  some false
 else
  (Xn a0.Base).bind fun v1=>
  if v1=true then
   (Qap a0.Base (Qa5 a0)).bind fun v2=>
   if (v2.length:Int)=(a0.Base.length:Int) then
    if a0.Qag=true then
     if a0.Qa1=true then
      Qa9.j2 a0 (decide ((a0.Held.length:Int) > 0))
     else
      Qa9.j2 a0 true
    else
     Qa9.j2 a0 false
   else
    Qa9.j2 a0 true
  else
   Qa9.j2 a0 true
def Qa9 (a0:Qm):Option Bool:=
 if (Qbj a0.ID 1 65536)=true then
  if (Qcd a0.Keys)=true then
   if (Qec a0.Clock)=true then
    Qa9.j1 a0 (decide ((IntKind.wrap .i64 ((a0.Held.length:Int)+(a0.Qs.length:Int))) > 1000))
   else
    Qa9.j1 a0 true
  else
   Qa9.j1 a0 true
 else
  Qa9.j1 a0 true
def Qgf.j1 (Qd3:Bool):Bool:=
 Qd3
def Qgf (a0:Qc) (a1:Qc):Bool:=
 if a0.M.Client=a1.M.Client then
  Qgf.j1 (a0.M.Seq == a1.M.Seq)
 else
  Qgf.j1 false
def Qfe (a0:Qc) (k0:Qc):Bool:=
 Qgf a0 k0
inductive Js.S where
 | l1 (Ja:Int)
def Js.l1 (a0:List Qa) (a1:List Qa) (Ja:Int):Option (Js.S ⊕ Bool):=
 if Ja < (a0.length:Int) then
  if 0<=Ja/\Ja < (a0.length:Int) then
   if 0<=Ja/\Ja < (a1.length:Int) then
    if ((a0.getD Ja.toNat Qa.z).Key)=((a1.getD Ja.toNat Qa.z).Key) then
     if ((a0.getD Ja.toNat Qa.z).Val)=((a1.getD Ja.toNat Qa.z).Val) then
      some (.inl (.l1 (IntKind.wrap .i64 (Ja+1))))
     else
      some (.inr false)
    else
     if ((a0.getD Ja.toNat Qa.z).Val)=((a1.getD Ja.toNat Qa.z).Val) then
      some (.inr false)
     else
      some (.inr false)
   else none
  else none
 else
  some (.inr true)
def Js.step (a0:List Qa) (a1:List Qa):Js.S->Option (Js.S ⊕ Bool)
 | .l1 Ja=>Js.l1 a0 a1 Ja
def Js (a0:List Qa) (a1:List Qa):Option Bool:=
 if (a0.length:Int)=(a1.length:Int) then
  Xf (Js.step a0 a1) (.l1 0)
 else
  some false
def Qdh.j1 (Qd3:Bool):Option Bool:=
 some Qd3
def Qdh (a0:We) (a1:We):Option Bool:=
 if a0.Client=a1.Client then
  if a0.Seq=a1.Seq then
   if a0.Kind=a1.Kind then
    if a0.Over.Lo=a1.Over.Lo then
     if a0.Over.Hi=a1.Over.Hi then
      if a0.Old=a1.Old then
       (Js a0.Pairs a1.Pairs).bind fun v1=>
       Qdh.j1 v1
      else
       Qdh.j1 false
     else
      Qdh.j1 false
    else
     if a0.Over.Hi=a1.Over.Hi then
      Qdh.j1 false
     else
      Qdh.j1 false
   else
    Qdh.j1 false
  else
   Qdh.j1 false
 else
  Qdh.j1 false
def Qe1.j1 (Qd3:Bool):Option Bool:=
 some Qd3
def Qe1 (a0:Qc) (a1:Qc):Option Bool:=
 (Qdh a0.M a1.M).bind fun v1=>
 if v1=true then
  if a0.Time=a1.Time then
   Qe1.j1 (a0.Zw == a1.Zw)
  else
   Qe1.j1 false
 else
  Qe1.j1 false
inductive Qt.S where
 | l1 (Qf4:Int)
 | l2 (Qho:Int) (Zm:List Qc)
 | l3 (Qef:Int) (Yt:List Qc) (Qek:Int) (Yr:Int) (Wm:List Qc)
def Qt.j2 (Qef:Int) (Yt:List Qc) (Qek:Int) (Yr:Int) (Qfy:List Qc):Option (Qt.S ⊕ ((List Qc) × Int)):=
 some (.inl (.l3 Qef Yt Qek (IntKind.wrap .i64 (Yr+1)) Qfy))
def Qt.j1 (Qef:Int) (Yt:List Qc) (Qek:Int) (Yr:Int) (Wm:List Qc) (v2:Int) (Qsc:Bool):Option (Qt.S ⊕ ((List Qc) × Int)):=
 if Qsc=true then
  some (.inr (([]:List Qc),3))
 else
  if v2 < 0 then
   if (((Yt.getD Yr.toNat Qc.z).M).Pairs).length * 16<=140737488355328 then
    if (Wm.length+1) * 88<=140737488355328 then
     Qt.j2 Qef Yt Qek Yr (Wm ++ [(Yt.getD Yr.toNat Qc.z)])
    else none
   else none
  else
   Qt.j2 Qef Yt Qek Yr Wm
def Qt.l1 (a0:List Qm) (Qf4:Int):Option (Qt.S ⊕ ((List Qc) × Int)):=
 if Qf4 < (a0.length:Int) then
  if 0<=Qf4/\Qf4 < (a0.length:Int) then
   (Qa9 (a0.getD Qf4.toNat Qm.z)).bind fun v1=>
   if v1=true then
    some (.inl (.l1 (IntKind.wrap .i64 (Qf4+1))))
   else
    some (.inr (([]:List Qc),1))
  else none
 else
  some (.inl (.l2 0 ([]:List Qc)))
def Qt.l2 (a0:List Qm) (Qho:Int) (Zm:List Qc):Option (Qt.S ⊕ ((List Qc) × Int)):=
 if Qho < (a0.length:Int) then
  if 0<=Qho/\Qho < (a0.length:Int) then
   some (.inl (.l3 Qho ((a0.getD Qho.toNat Qm.z).Log) (((a0.getD Qho.toNat Qm.z).Log).length:Int) 0 Zm))
  else none
 else
  if Zm.length * 88<=140737488355328 then
   some (.inr (Qfm Qc.z Qdd Zm,0))
  else none
def Qt.l3 (Qef:Int) (Yt:List Qc) (Qek:Int) (Yr:Int) (Wm:List Qc):Option (Qt.S ⊕ ((List Qc) × Int)):=
 if Yr < Qek then
  if 0<=Yr/\Yr < (Yt.length:Int) then
   (Yy Wm (fun z0=>some (Qfe z0 (Yt.getD Yr.toNat Qc.z)))).bind fun v2=>
   if v2>=0 then
    if 0<=v2/\v2 < (Wm.length:Int) then
     (Qe1 (Wm.getD v2.toNat Qc.z) (Yt.getD Yr.toNat Qc.z)).bind fun v3=>
     Qt.j1 Qef Yt Qek Yr Wm v2 (!v3)
    else none
   else
    Qt.j1 Qef Yt Qek Yr Wm v2 false
  else none
 else
  some (.inl (.l2 (IntKind.wrap .i64 (Qef+1)) Wm))
def Qt.step (a0:List Qm):Qt.S->Option (Qt.S ⊕ ((List Qc) × Int))
 | .l1 Qf4=>Qt.l1 a0 Qf4
 | .l2 Qho Zm=>Qt.l2 a0 Qho Zm
 | .l3 Qef Yt Qek Yr Wm=>Qt.l3 Qef Yt Qek Yr Wm
def Qt (a0:List Qm):Option ((List Qc) × Int):=
 Xf (Qt.step a0) (.l1 0)
inductive Jl.S where
 | l1 (Wy:Int) (Qx:List Qg)
def Jl.l1 (a0:List Qa) (Wy:Int) (Qx:List Qg):Option (Jl.S ⊕ (List Qg)):=
 if Wy < (a0.length:Int) then
  if 0<=Wy/\Wy < (a0.length:Int) then
   if (Qx.length+1) * 16<=140737488355328 then
    some (.inl (.l1 (IntKind.wrap .i64 (Wy+1)) (Qx ++ [(⟨(a0.getD Wy.toNat Qa.z).Key,(a0.getD Wy.toNat Qa.z).Val⟩:Qg)])))
   else none
  else none
 else
  some (.inr Qx)
def Jl.step (a0:List Qa):Jl.S->Option (Jl.S ⊕ (List Qg))
 | .l1 Wy Qx=>Jl.l1 a0 Wy Qx
def Jl (a0:List Qa):Option (List Qg):=
 Xf (Jl.step a0) (.l1 0 ([]:List Qg))
inductive Xg.S where
 | l1 (Wy:Int) (Zx:List Qg)
def Xg.l1 (a0:We) (Wy:Int) (Zx:List Qg):Option (Xg.S ⊕ Xe):=
 if Wy < (a0.Pairs.length:Int) then
  if 0<=Wy/\Wy < (a0.Pairs.length:Int) then
   if (Zx.length+1) * 16<=140737488355328 then
    some (.inl (.l1 (IntKind.wrap .i64 (Wy+1)) (Zx ++ [(⟨(a0.Pairs.getD Wy.toNat Qa.z).Key,(a0.Pairs.getD Wy.toNat Qa.z).Val⟩:Qg)])))
   else none
  else none
 else
  some (.inr (⟨a0.Client,a0.Seq,a0.Kind,Zx,(⟨a0.Over.Lo,a0.Over.Hi⟩:Qi),a0.Old⟩:Xe))
def Xg.step (a0:We):Xg.S->Option (Xg.S ⊕ Xe)
 | .l1 Wy Zx=>Xg.l1 a0 Wy Zx
def Xg (a0:We):Option Xe:=
 Xf (Xg.step a0) (.l1 0 ([]:List Qg))
inductive Qj.S where
 | l1 (Wy:Int) (Zx:List Qz)
 | l2 (Jv:Int) (Jn:List Qz) (Qdg:List Qd)
 | l3 (v2:Xe) (Qc7:Int) (Wn:Int) (Qcg:List Qz) (Qbz:Int) (Qb0:Bool) (Qbq:List Yh)
 | l4 (Qeg:Int) (Qb8:List Qz) (Qb9:List Qd) (Qbw:List Wh)
def Qj.l1 (a0:Qm) (Wy:Int) (Zx:List Qz):Option (Qj.S ⊕ Ql):=
 if Wy < (a0.Held.length:Int) then
  if 0<=Wy/\Wy < (a0.Held.length:Int) then
   (Xg ((a0.Held.getD Wy.toNat Qr.z).M)).bind fun v2=>
   some (.inl (.l3 v2 Wy 0 Zx ((a0.Held.getD Wy.toNat Qr.z).Time) ((a0.Held.getD Wy.toNat Qr.z).Qcq) ([]:List Yh)))
  else none
 else
  some (.inl (.l2 0 Zx ([]:List Qd)))
def Qj.l2 (a0:Qm) (Jv:Int) (Jn:List Qz) (Qdg:List Qd):Option (Qj.S ⊕ Ql):=
 if Jv < (a0.Log.length:Int) then
  if 0<=Jv/\Jv < (a0.Log.length:Int) then
   (Xg ((a0.Log.getD Jv.toNat Qc.z).M)).bind fun v3=>
   if (Qdg.length+1) * 88<=140737488355328 then
    some (.inl (.l2 (IntKind.wrap .i64 (Jv+1)) Jn (Qdg ++ [(⟨v3,(a0.Log.getD Jv.toNat Qc.z).Time,(a0.Log.getD Jv.toNat Qc.z).Zw⟩:Qd)])))
   else none
  else none
 else
  some (.inl (.l4 0 Jn Qdg ([]:List Wh)))
def Qj.l3 (a0:Qm) (v2:Xe) (Qc7:Int) (Wn:Int) (Qcg:List Qz) (Qbz:Int) (Qb0:Bool) (Qbq:List Yh):Option (Qj.S ⊕ Ql):=
 if 0<=Qc7/\Qc7 < (a0.Held.length:Int) then
  if Wn < (((a0.Held.getD Qc7.toNat Qr.z).Qdk).length:Int) then
   if 0<=Wn/\Wn < (((a0.Held.getD Qc7.toNat Qr.z).Qdk).length:Int) then
    if (Qbq.length+1) * 16<=140737488355328 then
     some (.inl (.l3 v2 Qc7 (IntKind.wrap .i64 (Wn+1)) Qcg Qbz Qb0 (Qbq ++ [(⟨(((a0.Held.getD Qc7.toNat Qr.z).Qdk).getD Wn.toNat Qbb.z).Qo8,(((a0.Held.getD Qc7.toNat Qr.z).Qdk).getD Wn.toNat Qbb.z).Time⟩:Yh)])))
    else none
   else none
  else
   if (Qcg.length+1) * 112<=140737488355328 then
    some (.inl (.l1 (IntKind.wrap .i64 (Qc7+1)) (Qcg ++ [(⟨v2,Qbz,Qb0,Qbq⟩:Qz)])))
   else none
 else none
def Qj.l4 (a0:Qm) (v1:List Qg) (Qeg:Int) (Qb8:List Qz) (Qb9:List Qd) (Qbw:List Wh):Option (Qj.S ⊕ Ql):=
 if Qeg < (a0.Qs.length:Int) then
  if 0<=Qeg/\Qeg < (a0.Qs.length:Int) then
   if (Qbw.length+1) * 32<=140737488355328 then
    some (.inl (.l4 (IntKind.wrap .i64 (Qeg+1)) Qb8 Qb9 (Qbw ++ [(⟨(a0.Qs.getD Qeg.toNat Qo.z).Client,(a0.Qs.getD Qeg.toNat Qo.z).Seq,(a0.Qs.getD Qeg.toNat Qo.z).Time,(a0.Qs.getD Qeg.toNat Qo.z).Zw⟩:Wh)])))
   else none
  else none
 else
  some (.inr (⟨a0.ID,(⟨a0.Keys.Lo,a0.Keys.Hi⟩:Qi),a0.Clock,a0.Qa1,a0.Qag,Qb8,v1,Qb9,Qbw⟩:Ql))
def Qj.step (a0:Qm) (v1:List Qg):Qj.S->Option (Qj.S ⊕ Ql)
 | .l1 Wy Zx=>Qj.l1 a0 Wy Zx
 | .l2 Jv Jn Qdg=>Qj.l2 a0 Jv Jn Qdg
 | .l3 v2 Qc7 Wn Qcg Qbz Qb0 Qbq=>Qj.l3 a0 v2 Qc7 Wn Qcg Qbz Qb0 Qbq
 | .l4 Qeg Qb8 Qb9 Qbw=>Qj.l4 a0 v1 Qeg Qb8 Qb9 Qbw
def Qj (a0:Qm):Option Ql:=
 (Jl a0.Base).bind fun v1=>
 Xf (Qj.step a0 v1) (.l1 0 ([]:List Qz))
inductive Qab.S where
 | l1 (Wy:Int) (Qx:List Ql)
def Qab.l1 (a0:List Qm) (Wy:Int) (Qx:List Ql):Option (Qab.S ⊕ (List Ql)):=
 if Wy < (a0.length:Int) then
  if 0<=Wy/\Wy < (a0.length:Int) then
   (Qj (a0.getD Wy.toNat Qm.z)).bind fun v1=>
   if (Qx.length+1) * 136<=140737488355328 then
    some (.inl (.l1 (IntKind.wrap .i64 (Wy+1)) (Qx ++ [v1])))
   else none
  else none
 else
  some (.inr Qx)
def Qab.step (a0:List Qm):Qab.S->Option (Qab.S ⊕ (List Ql))
 | .l1 Wy Qx=>Qab.l1 a0 Wy Qx
def Qab (a0:List Qm):Option (List Ql):=
 Xf (Qab.step a0) (.l1 0 ([]:List Ql))
def Zf.j1 (Qh9:Bool):Bool:=
 Qh9
def Zf (a0:Int) (a1:Int) (a2:Int):Bool:=
 if a0>=a1 then
  Zf.j1 (decide (a0<=a2))
 else
  Zf.j1 false
def Qaa.j1 (Qb4:Bool):Bool:=
 Qb4
def Qaa (a0:Qi):Bool:=
 if a0.Lo>=0 then
  if a0.Lo < a0.Hi then
   Qaa.j1 (decide (a0.Hi<=4096))
  else
   Qaa.j1 false
 else
  Qaa.j1 false
inductive Ym.S where
 | l1 (Qq:Int)
def Ym.j2 (Qq:Int) (Qoa:Bool):Option (Ym.S ⊕ Bool):=
 if Qoa=true then
  some (.inr false)
 else
  some (.inl (.l1 (IntKind.wrap .i64 (Qq+1))))
def Ym.j1 (a0:List Qg) (Qq:Int) (Qr7:Bool):Option (Ym.S ⊕ Bool):=
 if Qr7=true then
  some (.inr false)
 else
  if Qq > 0 then
   if 0<=(IntKind.wrap .i64 (Qq - 1))/\(IntKind.wrap .i64 (Qq - 1)) < (a0.length:Int) then
    Ym.j2 Qq (decide (((a0.getD Qq.toNat Qg.z).Key)<=((a0.getD ((IntKind.wrap .i64 (Qq - 1)).toNat) Qg.z).Key)))
   else none
  else
   Ym.j2 Qq false
def Ym.l1 (a0:List Qg) (Qq:Int):Option (Ym.S ⊕ Bool):=
 if Qq < (a0.length:Int) then
  if 0<=Qq/\Qq < (a0.length:Int) then
   if ((a0.getD Qq.toNat Qg.z).Key) < 0 then
    Ym.j1 a0 Qq true
   else
    if ((a0.getD Qq.toNat Qg.z).Key) > 4095 then
     Ym.j1 a0 Qq true
    else
     if ((a0.getD Qq.toNat Qg.z).Val) < (-1099511627776) then
      Ym.j1 a0 Qq true
     else
      Ym.j1 a0 Qq (decide (((a0.getD Qq.toNat Qg.z).Val) > 1099511627776))
  else none
 else
  some (.inr true)
def Ym.step (a0:List Qg):Ym.S->Option (Ym.S ⊕ Bool)
 | .l1 Qq=>Ym.l1 a0 Qq
def Ym (a0:List Qg):Option Bool:=
 Xf (Ym.step a0) (.l1 0)
def Qbm.j1 (Qb4:Bool):Bool:=
 Qb4
def Qbm (a0:Int):Bool:=
 if a0>=(-1099511627776) then
  Qbm.j1 (decide (a0<=1099511627776))
 else
  Qbm.j1 false
inductive Yb.S where
 | l1 (Ws:Int)
def Yb.j2 (Ws:Int) (Qsh:Bool):Option (Yb.S ⊕ Bool):=
 if Qsh=true then
  some (.inr false)
 else
  some (.inl (.l1 (IntKind.wrap .i64 (Ws+1))))
def Yb.l1 (a0:List Qg) (Ws:Int):Option (Yb.S ⊕ Bool):=
 if Ws < (a0.length:Int) then
  if 0<=Ws/\Ws < (a0.length:Int) then
   if ((a0.getD Ws.toNat Qg.z).Key) < 0 then
    Yb.j2 Ws true
   else
    if ((a0.getD Ws.toNat Qg.z).Key) > 4095 then
     Yb.j2 Ws true
    else
     Yb.j2 Ws (!(Qbm ((a0.getD Ws.toNat Qg.z).Val)))
  else none
 else
  some (.inr true)
def Yb.step (a0:List Qg):Yb.S->Option (Yb.S ⊕ Bool)
 | .l1 Ws=>Yb.l1 a0 Ws
def Yb.j1 (a0:List Qg) (Qjy:Bool):Option Bool:=
 if Qjy=true then
  some false
 else
  Xf (Yb.step a0) (.l1 0)
def Yb (a0:List Qg) (a1:Int) (a2:Int):Option Bool:=
 if (a0.length:Int) < a1 then
  Yb.j1 a0 true
 else
  Yb.j1 a0 (decide ((a0.length:Int) > a2))
def Wi.j2 (Qlq:Bool):Option Bool:=
 some Qlq
def Wi.j4 (Qia:Bool):Option Bool:=
 some Qia
inductive Wi.S where
 | l1 (Qq:Int)
def Wi.l1 (a0:Xe) (Qq:Int):Option (Wi.S ⊕ Bool):=
 if Qq < (a0.Pairs.length:Int) then
  if 0<=(IntKind.wrap .i64 (Qq - 1))/\(IntKind.wrap .i64 (Qq - 1)) < (a0.Pairs.length:Int) then
   if 0<=Qq/\Qq < (a0.Pairs.length:Int) then
    if ((a0.Pairs.getD ((IntKind.wrap .i64 (Qq - 1)).toNat) Qg.z).Key)>=((a0.Pairs.getD Qq.toNat Qg.z).Key) then
     some (.inr false)
    else
     some (.inl (.l1 (IntKind.wrap .i64 (Qq+1))))
   else none
  else none
 else
  (Yb a0.Pairs 1 8).bind fun v2=>
  some (.inr v2)
def Wi.step (a0:Xe):Wi.S->Option (Wi.S ⊕ Bool)
 | .l1 Qq=>Wi.l1 a0 Qq
def Wi.j5 (Qls:Bool):Option Bool:=
 some Qls
def Wi.j3 (a0:Xe) (Qsn:Bool):Option Bool:=
 if Qsn=true then
  some false
 else
  if a0.Kind=4 then
   (Yb a0.Pairs 1 1).bind fun v1=>
   if v1=true then
    if (Qbm a0.Old)=true then
     Wi.j4 true
    else
     Wi.j4 (a0.Old == 1099511627777)
   else
    Wi.j4 false
  else
   if a0.Old=0 then
    if a0.Kind=1 then
     Xf (Wi.step a0) (.l1 1)
    else
     if a0.Kind=3 then
      (Yb a0.Pairs 1 1).bind fun v3=>
      some v3
     else
      if a0.Kind=5 then
       (Yb a0.Pairs 2 2).bind fun v4=>
       if v4=true then
        if (0:Int)<=0/\0 < (a0.Pairs.length:Int) then
         if (0:Int)<=1/\1 < (a0.Pairs.length:Int) then
          if ((a0.Pairs.getD 0 Qg.z).Key)=((a0.Pairs.getD 1 Qg.z).Key) then
           Wi.j5 false
          else
           if ((a0.Pairs.getD 0 Qg.z).Val)=((a0.Pairs.getD 1 Qg.z).Val) then
            Wi.j5 (decide (((a0.Pairs.getD 0 Qg.z).Val)>=0))
           else
            Wi.j5 false
         else none
        else none
       else
        Wi.j5 false
      else
       Wi.j5 false
   else
    some false
def Wi.j1 (a0:Xe) (Qgo:Bool):Option Bool:=
 if Qgo=true then
  some false
 else
  if a0.Kind=2 then
   if (a0.Pairs.length:Int)=0 then
    if a0.Old=0 then
     Wi.j2 (Qaa a0.Over)
    else
     Wi.j2 false
   else
    Wi.j2 false
  else
   if a0.Over.Lo=0 then
    Wi.j3 a0 (a0.Over.Hi != 0)
   else
    Wi.j3 a0 true
def Wi (a0:Xe):Option Bool:=
 if a0.Client < 1 then
  Wi.j1 a0 true
 else
  if a0.Client > 1048576 then
   Wi.j1 a0 true
  else
   if a0.Seq < 1 then
    Wi.j1 a0 true
   else
    Wi.j1 a0 (decide (a0.Seq > 1073741824))
inductive Xo.S where
 | l1 (Wy:Int) (Qx:List Bool)
 | l2 (Zq:Int) (Zm:List Bool)
 | l3 (Qby:Int) (Wn:Int) (Wm:List Bool)
def Xo.j1 (Qby:Int) (Wn:Int) (Wm:List Bool) (Qj1:Bool):Option (Xo.S ⊕ (List Bool)):=
 if Qj1=true then
  if 0<=Wn/\Wn < (Wm.length:Int) then
   some (.inl (.l3 Qby (IntKind.wrap .i64 (Wn+1)) (Wm.set Wn.toNat true)))
  else none
 else
  some (.inl (.l2 (IntKind.wrap .i64 (Qby+1)) Wm))
def Xo.l1 (Wy:Int) (Qx:List Bool):Option (Xo.S ⊕ (List Bool)):=
 if Wy < 4096 then
  if (Qx.length+1) * 1<=140737488355328 then
   some (.inl (.l1 (IntKind.wrap .i64 (Wy+1)) (Qx ++ [false])))
  else none
 else
  some (.inl (.l2 0 Qx))
def Xo.l2 (a0:List Qi) (Zq:Int) (Zm:List Bool):Option (Xo.S ⊕ (List Bool)):=
 if Zq < (a0.length:Int) then
  if 0<=Zq/\Zq < (a0.length:Int) then
   some (.inl (.l3 Zq ((a0.getD Zq.toNat Qi.z).Lo) Zm))
  else none
 else
  some (.inr Zm)
def Xo.l3 (a0:List Qi) (Qby:Int) (Wn:Int) (Wm:List Bool):Option (Xo.S ⊕ (List Bool)):=
 if 0<=Qby/\Qby < (a0.length:Int) then
  if (Qaa (a0.getD Qby.toNat Qi.z))=true then
   Xo.j1 Qby Wn Wm (decide (Wn < ((a0.getD Qby.toNat Qi.z).Hi)))
  else
   Xo.j1 Qby Wn Wm false
 else none
def Xo.step (a0:List Qi):Xo.S->Option (Xo.S ⊕ (List Bool))
 | .l1 Wy Qx=>Xo.l1 Wy Qx
 | .l2 Zq Zm=>Xo.l2 a0 Zq Zm
 | .l3 Qby Wn Wm=>Xo.l3 a0 Qby Wn Wm
def Xo (a0:List Qi):Option (List Bool):=
 Xf (Xo.step a0) (.l1 0 ([]:List Bool))
inductive Yw.S where
 | l1 (Xi:Int) (Qx:List Qi)
 | l2 (Zq:Int) (Qc2:Int) (Zm:List Qi)
def Yw.j1 (Zq:Int) (Qc2:Int) (Zm:List Qi) (Qgo:Bool):Option (Yw.S ⊕ ((List Qi) × Int)):=
 if Qgo=true then
  some (.inl (.l2 (IntKind.wrap .i64 (Zq+1)) Qc2 Zm))
 else
  if Zq > Qc2 then
   if (Zm.length+1) * 16<=140737488355328 then
    some (.inl (.l1 Zq (Zm ++ [(⟨Qc2,Zq⟩:Qi)])))
   else none
  else
   some (.inl (.l1 (IntKind.wrap .i64 (Zq+1)) Zm))
def Yw.l1 (a0:List Bool) (Xi:Int) (Qx:List Qi):Option (Yw.S ⊕ ((List Qi) × Int)):=
 if Xi < (a0.length:Int) then
  some (.inl (.l2 Xi Xi Qx))
 else
  if (Qx.length:Int) > 64 then
   some (.inr (([]:List Qi),2))
  else
   some (.inr (Qx,0))
def Yw.l2 (a0:List Bool) (Zq:Int) (Qc2:Int) (Zm:List Qi):Option (Yw.S ⊕ ((List Qi) × Int)):=
 if Zq < (a0.length:Int) then
  if 0<=Zq/\Zq < (a0.length:Int) then
   Yw.j1 Zq Qc2 Zm (a0.getD Zq.toNat false)
  else none
 else
  Yw.j1 Zq Qc2 Zm false
def Yw.step (a0:List Bool):Yw.S->Option (Yw.S ⊕ ((List Qi) × Int))
 | .l1 Xi Qx=>Yw.l1 a0 Xi Qx
 | .l2 Zq Qc2 Zm=>Yw.l2 a0 Zq Qc2 Zm
def Yw (a0:List Bool):Option ((List Qi) × Int):=
 Xf (Yw.step a0) (.l1 0 ([]:List Qi))
inductive Qas.S where
 | l1 (Wy:Int)
def Qas.l1 (a0:List Qi) (Wy:Int):Option (Qas.S ⊕ ((List Qi) × Int)):=
 if Wy < (a0.length:Int) then
  if 0<=Wy/\Wy < (a0.length:Int) then
   if (Qaa (a0.getD Wy.toNat Qi.z))=true then
    some (.inl (.l1 (IntKind.wrap .i64 (Wy+1))))
   else
    some (.inr (([]:List Qi),1))
  else none
 else
  (Xo a0).bind fun v1=>
  (Yw v1).bind fun v2=>
  some (.inr (v2.1,v2.2))
def Qas.step (a0:List Qi):Qas.S->Option (Qas.S ⊕ ((List Qi) × Int))
 | .l1 Wy=>Qas.l1 a0 Wy
def Qas (a0:List Qi):Option ((List Qi) × Int):=
 Xf (Qas.step a0) (.l1 0)
inductive Jg.S where
 | l1 (Wy:Int) (Xp:List Qi)
def Jg.l1 (a0:Xe) (Wy:Int) (Xp:List Qi):Option (Jg.S ⊕ (List Qi)):=
 if Wy < (a0.Pairs.length:Int) then
  if 0<=Wy/\Wy < (a0.Pairs.length:Int) then
   if (Xp.length+1) * 16<=140737488355328 then
    some (.inl (.l1 (IntKind.wrap .i64 (Wy+1)) (Xp ++ [(⟨(a0.Pairs.getD Wy.toNat Qg.z).Key,IntKind.wrap .i64 (((a0.Pairs.getD Wy.toNat Qg.z).Key)+1)⟩:Qi)])))
   else none
  else none
 else
  (Qas Xp).bind fun v2=>
  some (.inr v2.1)
def Jg.step (a0:Xe):Jg.S->Option (Jg.S ⊕ (List Qi))
 | .l1 Wy Xp=>Jg.l1 a0 Wy Xp
def Jg (a0:Xe):Option (List Qi):=
 (Wi a0).bind fun v1=>
 if v1=true then
  if a0.Kind=2 then
   some ([a0.Over]:List Qi)
  else
   Xf (Jg.step a0) (.l1 0 ([]:List Qi))
 else
  some ([]:List Qi)
inductive Za.S where
 | l1 (Yq:Int)
def Za.j1 (Yq:Int) (Qe4:Bool):Option (Za.S ⊕ Bool):=
 if Qe4=true then
  some (.inr true)
 else
  some (.inl (.l1 (IntKind.wrap .i64 (Yq+1))))
def Za.l1 (a0:Ql) (v1:List Qi) (Yq:Int):Option (Za.S ⊕ Bool):=
 if Yq < (v1.length:Int) then
  if 0<=Yq/\Yq < (v1.length:Int) then
   if ((v1.getD Yq.toNat Qi.z).Lo) < a0.Keys.Hi then
    Za.j1 Yq (decide (a0.Keys.Lo < ((v1.getD Yq.toNat Qi.z).Hi)))
   else
    Za.j1 Yq false
  else none
 else
  some (.inr false)
def Za.step (a0:Ql) (v1:List Qi):Za.S->Option (Za.S ⊕ Bool)
 | .l1 Yq=>Za.l1 a0 v1 Yq
def Za (a0:Ql) (a1:Xe):Option Bool:=
 (Jg a1).bind fun v1=>
 Xf (Za.step a0 v1) (.l1 0)
inductive Zr.S where
 | l1 (Ws:Int)
def Zr.j1 (Ws:Int) (Qj0:Bool):Option (Zr.S ⊕ Int):=
 if Qj0=true then
  some (.inr Ws)
 else
  some (.inl (.l1 (IntKind.wrap .i64 (Ws+1))))
def Zr.l1 (a0:Ql) (a1:Int) (a2:Int) (Ws:Int):Option (Zr.S ⊕ Int):=
 if Ws < (a0.Qs.length:Int) then
  if 0<=Ws/\Ws < (a0.Qs.length:Int) then
   if ((a0.Qs.getD Ws.toNat Wh.z).Client)=a1 then
    Zr.j1 Ws (((a0.Qs.getD Ws.toNat Wh.z).Seq) == a2)
   else
    Zr.j1 Ws false
  else none
 else
  some (.inr (-1))
def Zr.step (a0:Ql) (a1:Int) (a2:Int):Zr.S->Option (Zr.S ⊕ Int)
 | .l1 Ws=>Zr.l1 a0 a1 a2 Ws
def Zr (a0:Ql) (a1:Int) (a2:Int):Option Int:=
 Xf (Zr.step a0 a1 a2) (.l1 0)
def Jh (a0:Xe) (a1:Int):Qa7:=
 (⟨a1,a0.Client,a0.Seq⟩:Qa7)
def Qa6 (a0:Qa7) (a1:Qa7):Bool:=
 if a0.Time=a1.Time then
  if a0.Client=a1.Client then
   decide (a0.Seq < a1.Seq)
  else
   decide (a0.Client < a1.Client)
 else
  decide (a0.Time < a1.Time)
inductive Qp.S where
 | l1 (Qq:Int)
def Qp.j3 (Qq:Int) (Qj3:Bool):Option (Qp.S ⊕ Bool):=
 if Qj3=true then
  some (.inr false)
 else
  some (.inl (.l1 (IntKind.wrap .i64 (Qq+1))))
def Qp.j2 (a0:Ql) (Qq:Int) (Qsk:Bool):Option (Qp.S ⊕ Bool):=
 if Qsk=true then
  some (.inr false)
 else
  if Qq > 0 then
   if 0<=(IntKind.wrap .i64 (Qq - 1))/\(IntKind.wrap .i64 (Qq - 1)) < (a0.Log.length:Int) then
    Qp.j3 Qq (!(Qa6 (Jh ((a0.Log.getD ((IntKind.wrap .i64 (Qq - 1)).toNat) Qd.z).M) ((a0.Log.getD ((IntKind.wrap .i64 (Qq - 1)).toNat) Qd.z).Time)) (Jh ((a0.Log.getD Qq.toNat Qd.z).M) ((a0.Log.getD Qq.toNat Qd.z).Time))))
   else none
  else
   Qp.j3 Qq false
def Qp.j1 (a0:Ql) (Qq:Int) (Qr5:Bool):Option (Qp.S ⊕ Bool):=
 if Qr5=true then
  some (.inr false)
 else
  (Zr a0 (((a0.Log.getD Qq.toNat Qd.z).M).Client) (((a0.Log.getD Qq.toNat Qd.z).M).Seq)).bind fun v4=>
  if v4 < 0 then
   Qp.j2 a0 Qq true
  else
   if 0<=v4/\v4 < (a0.Qs.length:Int) then
    if ((a0.Qs.getD v4.toNat Wh.z).Time)=((a0.Log.getD Qq.toNat Qd.z).Time) then
     Qp.j2 a0 Qq (!(((a0.Qs.getD v4.toNat Wh.z).Zw) == ((a0.Log.getD Qq.toNat Qd.z).Zw)))
    else
     Qp.j2 a0 Qq true
   else none
def Qp.l1 (a0:Ql) (Qq:Int):Option (Qp.S ⊕ Bool):=
 if Qq < (a0.Log.length:Int) then
  if 0<=Qq/\Qq < (a0.Log.length:Int) then
   (Wi ((a0.Log.getD Qq.toNat Qd.z).M)).bind fun v1=>
   if v1=true then
    (Za a0 ((a0.Log.getD Qq.toNat Qd.z).M)).bind fun v2=>
    if v2=true then
     bnd (Zf ((a0.Log.getD Qq.toNat Qd.z).Time) 0 a0.Clock) fun (v3:Bool)=>
     Qp.j1 a0 Qq (!v3)
    else
     Qp.j1 a0 Qq true
   else
    Qp.j1 a0 Qq true
  else none
 else
  some (.inr (decide ((a0.Log.length:Int)<=(a0.Qs.length:Int))))
def Qp.step (a0:Ql):Qp.S->Option (Qp.S ⊕ Bool)
 | .l1 Qq=>Qp.l1 a0 Qq
def Qp (a0:Ql):Option Bool:=
 Xf (Qp.step a0) (.l1 0)
inductive Jm.S where
 | l1 (Ws:Int)
def Jm.j1 (Ws:Int) (Qe4:Bool):Option (Jm.S ⊕ Int):=
 if Qe4=true then
  some (.inr Ws)
 else
  some (.inl (.l1 (IntKind.wrap .i64 (Ws+1))))
def Jm.l1 (a0:Ql) (a1:Int) (a2:Int) (Ws:Int):Option (Jm.S ⊕ Int):=
 if Ws < (a0.Held.length:Int) then
  if 0<=Ws/\Ws < (a0.Held.length:Int) then
   if (((a0.Held.getD Ws.toNat Qz.z).M).Client)=a1 then
    Jm.j1 Ws ((((a0.Held.getD Ws.toNat Qz.z).M).Seq) == a2)
   else
    Jm.j1 Ws false
  else none
 else
  some (.inr (-1))
def Jm.step (a0:Ql) (a1:Int) (a2:Int):Jm.S->Option (Jm.S ⊕ Int)
 | .l1 Ws=>Jm.l1 a0 a1 a2 Ws
def Jm (a0:Ql) (a1:Int) (a2:Int):Option Int:=
 Xf (Jm.step a0 a1 a2) (.l1 0)
inductive Qv.S where
 | l1 (Qq:Int)
 | l2 (Qmm:Int) (Zq:Int) (Yu:Int) (Ye:Int) (Zy:Int) (Qac:List Qg) (Qad:Int) (Jt:Int) (Qae:Int) (Qaf:Int) (Qaz:Bool) (Qa0:List Yh)
def Qv.j1 (a0:Ql) (Qq:Int) (Qsf:Bool):Option (Qv.S ⊕ Bool):=
 if Qsf=true then
  some (.inr false)
 else
  some (.inl (.l2 Qq 0 (((a0.Held.getD Qq.toNat Qz.z).M).Client) (((a0.Held.getD Qq.toNat Qz.z).M).Seq) (((a0.Held.getD Qq.toNat Qz.z).M).Kind) (((a0.Held.getD Qq.toNat Qz.z).M).Pairs) ((((a0.Held.getD Qq.toNat Qz.z).M).Over).Lo) ((((a0.Held.getD Qq.toNat Qz.z).M).Over).Hi) (((a0.Held.getD Qq.toNat Qz.z).M).Old) ((a0.Held.getD Qq.toNat Qz.z).Time) ((a0.Held.getD Qq.toNat Qz.z).Qcq) ((a0.Held.getD Qq.toNat Qz.z).Qdk)))
def Qv.l1 (a0:Ql) (Qq:Int):Option (Qv.S ⊕ Bool):=
 if Qq < (a0.Held.length:Int) then
  if 0<=Qq/\Qq < (a0.Held.length:Int) then
   (Wi ((a0.Held.getD Qq.toNat Qz.z).M)).bind fun v1=>
   if v1=true then
    (Za a0 ((a0.Held.getD Qq.toNat Qz.z).M)).bind fun v2=>
    if v2=true then
     bnd (Zf ((a0.Held.getD Qq.toNat Qz.z).Time) 1 a0.Clock) fun (v3:Bool)=>
     if v3=true then
      (Jm a0 (((a0.Held.getD Qq.toNat Qz.z).M).Client) (((a0.Held.getD Qq.toNat Qz.z).M).Seq)).bind fun v4=>
      if v4=Qq then
       (Zr a0 (((a0.Held.getD Qq.toNat Qz.z).M).Client) (((a0.Held.getD Qq.toNat Qz.z).M).Seq)).bind fun v5=>
       Qv.j1 a0 Qq (decide (v5>=0))
      else
       Qv.j1 a0 Qq true
     else
      Qv.j1 a0 Qq true
    else
     Qv.j1 a0 Qq true
   else
    Qv.j1 a0 Qq true
  else none
 else
  some (.inr true)
def Qv.l2 (a0:Ql) (Qmm:Int) (Zq:Int) (Yu:Int) (Ye:Int) (Zy:Int) (Qac:List Qg) (Qad:Int) (Jt:Int) (Qae:Int) (Qaf:Int) (Qaz:Bool) (Qa0:List Yh):Option (Qv.S ⊕ Bool):=
 if Zq < (a0.Log.length:Int) then
  if 0<=Zq/\Zq < (a0.Log.length:Int) then
   if (Qa6 (Jh (⟨Yu,Ye,Zy,Qac,(⟨Qad,Jt⟩:Qi),Qae⟩:Xe) Qaf) (Jh ((a0.Log.getD Zq.toNat Qd.z).M) ((a0.Log.getD Zq.toNat Qd.z).Time)))=true then
    some (.inr false)
   else
    some (.inl (.l2 Qmm (IntKind.wrap .i64 (Zq+1)) Yu Ye Zy Qac Qad Jt Qae Qaf Qaz Qa0))
  else none
 else
  some (.inl (.l1 (IntKind.wrap .i64 (Qmm+1))))
def Qv.step (a0:Ql):Qv.S->Option (Qv.S ⊕ Bool)
 | .l1 Qq=>Qv.l1 a0 Qq
 | .l2 Qmm Zq Yu Ye Zy Qac Qad Jt Qae Qaf Qaz Qa0=>Qv.l2 a0 Qmm Zq Yu Ye Zy Qac Qad Jt Qae Qaf Qaz Qa0
def Qv (a0:Ql):Option Bool:=
 Xf (Qv.step a0) (.l1 0)
inductive Qk.S where
 | l1 (Qq:Int)
 | l2 (Yk:Int)
def Qk.j2 (Qq:Int) (Qsj:Bool):Option (Qk.S ⊕ Bool):=
 if Qsj=true then
  some (.inr false)
 else
  some (.inl (.l1 (IntKind.wrap .i64 (Qq+1))))
def Qk.j6 (Yk:Int) (Qo4:Bool):Option (Qk.S ⊕ Bool):=
 if Qo4=true then
  some (.inr false)
 else
  some (.inl (.l2 (IntKind.wrap .i64 (Yk+1))))
def Qk.j5 (a0:Ql) (Yk:Int) (Qsq:Bool):Option (Qk.S ⊕ Bool):=
 if Qsq=true then
  some (.inr false)
 else
  if Yk > 0 then
   if 0<=(IntKind.wrap .i64 (Yk - 1))/\(IntKind.wrap .i64 (Yk - 1)) < (a0.Qs.length:Int) then
    if ((a0.Qs.getD ((IntKind.wrap .i64 (Yk - 1)).toNat) Wh.z).Client) > ((a0.Qs.getD Yk.toNat Wh.z).Client) then
     Qk.j6 Yk true
    else
     if ((a0.Qs.getD ((IntKind.wrap .i64 (Yk - 1)).toNat) Wh.z).Client)=((a0.Qs.getD Yk.toNat Wh.z).Client) then
      Qk.j6 Yk (decide (((a0.Qs.getD ((IntKind.wrap .i64 (Yk - 1)).toNat) Wh.z).Seq)>=((a0.Qs.getD Yk.toNat Wh.z).Seq)))
     else
      Qk.j6 Yk false
   else none
  else
   Qk.j6 Yk false
def Qk.j4 (Qia:Bool):Option (Qk.S ⊕ Bool):=
 some (.inr Qia)
def Qk.j3 (a0:Ql) (Qo2:Bool):Option (Qk.S ⊕ Bool):=
 if Qo2=true then
  some (.inr false)
 else
  (Qp a0).bind fun v2=>
  if v2=true then
   (Qv a0).bind fun v3=>
   Qk.j4 v3
  else
   Qk.j4 false
def Qk.l1 (a0:Ql) (Qq:Int):Option (Qk.S ⊕ Bool):=
 if Qq < (a0.Base.length:Int) then
  if 0<=Qq/\Qq < (a0.Base.length:Int) then
   if ((a0.Base.getD Qq.toNat Qg.z).Key) < a0.Keys.Lo then
    Qk.j2 Qq true
   else
    Qk.j2 Qq (decide (((a0.Base.getD Qq.toNat Qg.z).Key)>=a0.Keys.Hi))
  else none
 else
  some (.inl (.l2 0))
def Qk.l2 (a0:Ql) (Yk:Int):Option (Qk.S ⊕ Bool):=
 if Yk < (a0.Qs.length:Int) then
  if 0<=Yk/\Yk < (a0.Qs.length:Int) then
   bnd (Zf ((a0.Qs.getD Yk.toNat Wh.z).Client) 1 1048576) fun (v4:Bool)=>
   if v4=true then
    bnd (Zf ((a0.Qs.getD Yk.toNat Wh.z).Seq) 1 1073741824) fun (v5:Bool)=>
    if v5=true then
     bnd (Zf ((a0.Qs.getD Yk.toNat Wh.z).Time) 0 1099511627775) fun (v6:Bool)=>
     Qk.j5 a0 Yk (!v6)
    else
     Qk.j5 a0 Yk true
   else
    Qk.j5 a0 Yk true
  else none
 else
  if a0.Qag=true then
   if a0.Qa1=true then
    Qk.j3 a0 (decide ((a0.Held.length:Int) > 0))
   else
    Qk.j3 a0 true
  else
   Qk.j3 a0 false
def Qk.step (a0:Ql):Qk.S->Option (Qk.S ⊕ Bool)
 | .l1 Qq=>Qk.l1 a0 Qq
 | .l2 Yk=>Qk.l2 a0 Yk
def Qk.j1 (a0:Ql) (Qr6:Bool):Option Bool:=
 if Qr6=true then
  some false
 else
  Xf (Qk.step a0) (.l1 0)
def Qk (a0:Ql):Option Bool:=
 if (Zf a0.ID 1 65536)=true then
  if (Qaa a0.Keys)=true then
   if (Zf a0.Clock 0 1099511627775)=true then
    if (IntKind.wrap .i64 ((a0.Held.length:Int)+(a0.Qs.length:Int))) > 1000 then
     Qk.j1 a0 true
    else
     (Ym a0.Base).bind fun v1=>
     Qk.j1 a0 (!v1)
   else
    Qk.j1 a0 true
  else
   Qk.j1 a0 true
 else
  Qk.j1 a0 true
inductive Ya.S where
 | l1 (Xi:Int)
def Ya.l1 (a0:Xe) (a1:Xe) (Xi:Int):Option (Ya.S ⊕ Bool):=
 if Xi < (a0.Pairs.length:Int) then
  if 0<=Xi/\Xi < (a0.Pairs.length:Int) then
   if 0<=Xi/\Xi < (a1.Pairs.length:Int) then
    if ((a0.Pairs.getD Xi.toNat Qg.z).Key)=((a1.Pairs.getD Xi.toNat Qg.z).Key) then
     if ((a0.Pairs.getD Xi.toNat Qg.z).Val)=((a1.Pairs.getD Xi.toNat Qg.z).Val) then
      some (.inl (.l1 (IntKind.wrap .i64 (Xi+1))))
     else
      some (.inr false)
    else
     if ((a0.Pairs.getD Xi.toNat Qg.z).Val)=((a1.Pairs.getD Xi.toNat Qg.z).Val) then
      some (.inr false)
     else
      some (.inr false)
   else none
  else none
 else
  some (.inr true)
def Ya.step (a0:Xe) (a1:Xe):Ya.S->Option (Ya.S ⊕ Bool)
 | .l1 Xi=>Ya.l1 a0 a1 Xi
def Ya.j1 (a0:Xe) (a1:Xe) (Qsb:Bool):Option Bool:=
 if Qsb=true then
  some false
 else
  Xf (Ya.step a0 a1) (.l1 0)
def Ya (a0:Xe) (a1:Xe):Option Bool:=
 if a0.Client=a1.Client then
  if a0.Seq=a1.Seq then
   if a0.Kind=a1.Kind then
    if a0.Over.Lo=a1.Over.Lo then
     if a0.Over.Hi=a1.Over.Hi then
      if a0.Old=a1.Old then
       Ya.j1 a0 a1 ((a0.Pairs.length:Int) != (a1.Pairs.length:Int))
      else
       Ya.j1 a0 a1 true
     else
      Ya.j1 a0 a1 true
    else
     if a0.Over.Hi=a1.Over.Hi then
      Ya.j1 a0 a1 true
     else
      Ya.j1 a0 a1 true
   else
    Ya.j1 a0 a1 true
  else
   Ya.j1 a0 a1 true
 else
  Ya.j1 a0 a1 true
def Qao (a0:Qd):Qa7:=
 (⟨a0.Time,a0.M.Client,a0.M.Seq⟩:Qa7)
inductive Qf.S where
 | l1 (Wy:Int)
 | l2 (Qc2:Int) (Zm:List Qd)
 | l3 (Wn:Int) (Yz:Int) (Wm:List Qd)
 | l4 (Wn:Int) (Yz:Int) (Wm:List Qd) (Qer:Bool) (Qch:Bool) (Zo:Int) (Qaq:List Qd)
def Qf.j7 (Wn:Int) (Yz:Int) (Wm:List Qd) (Zo:Int) (Qgb:Bool) (Qob:Bool) (Qj4:List Qd):Option (Qf.S ⊕ ((List Qd) × Int)):=
 if (Qj4.length+1) * 88<=140737488355328 then
  some (.inl (.l4 Wn Yz Wm Qgb Qob (IntKind.wrap .i64 (Zo+1)) (Qj4 ++ [(Wm.getD Zo.toNat Qd.z)])))
 else none
def Qf.j6 (a0:List Ql) (Wn:Int) (Yz:Int) (Wm:List Qd) (Qch:Bool) (Zo:Int) (Qaq:List Qd) (Qgb:Bool) (Qo3:Bool):Option (Qf.S ⊕ ((List Qd) × Int)):=
 if Qo3=true then
  if (Qaq.length+1) * 88<=140737488355328 then
   Qf.j7 Wn Yz Wm Zo Qgb true (Qaq ++ [(((a0.getD Wn.toNat Ql.z).Log).getD Yz.toNat Qd.z)])
  else none
 else
  Qf.j7 Wn Yz Wm Zo Qgb Qch Qaq
def Qf.j5 (a0:List Ql) (Wn:Int) (Yz:Int) (Wm:List Qd) (Qch:Bool) (Zo:Int) (Qaq:List Qd) (Qgb:Bool):Option (Qf.S ⊕ ((List Qd) × Int)):=
 if Qch=true then
  Qf.j6 a0 Wn Yz Wm Qch Zo Qaq Qgb false
 else
  Qf.j6 a0 Wn Yz Wm Qch Zo Qaq Qgb (Qa6 (Qao (((a0.getD Wn.toNat Ql.z).Log).getD Yz.toNat Qd.z)) (Qao (Wm.getD Zo.toNat Qd.z)))
def Qf.j4 (a0:List Ql) (Wn:Int) (Yz:Int) (Wm:List Qd) (Qch:Bool) (Zo:Int) (Qaq:List Qd) (Qsp:Bool):Option (Qf.S ⊕ ((List Qd) × Int)):=
 if Qsp=true then
  some (.inr (([]:List Qd),3))
 else
  Qf.j5 a0 Wn Yz Wm Qch Zo Qaq true
def Qf.j3 (a0:List Ql) (Wn:Int) (Yz:Int) (Wm:List Qd) (Qer:Bool) (Qch:Bool) (Zo:Int) (Qaq:List Qd) (Qso:Bool):Option (Qf.S ⊕ ((List Qd) × Int)):=
 if Qso=true then
  (Ya ((Wm.getD Zo.toNat Qd.z).M) ((((a0.getD Wn.toNat Ql.z).Log).getD Yz.toNat Qd.z).M)).bind fun v2=>
  if v2=true then
   if ((Wm.getD Zo.toNat Qd.z).Time)=((((a0.getD Wn.toNat Ql.z).Log).getD Yz.toNat Qd.z).Time) then
    Qf.j4 a0 Wn Yz Wm Qch Zo Qaq (!(((Wm.getD Zo.toNat Qd.z).Zw) == ((((a0.getD Wn.toNat Ql.z).Log).getD Yz.toNat Qd.z).Zw)))
   else
    Qf.j4 a0 Wn Yz Wm Qch Zo Qaq true
  else
   Qf.j4 a0 Wn Yz Wm Qch Zo Qaq true
 else
  Qf.j5 a0 Wn Yz Wm Qch Zo Qaq Qer
def Qf.j2 (Wn:Int) (Yz:Int) (Qfy:List Qd):Option (Qf.S ⊕ ((List Qd) × Int)):=
 some (.inl (.l3 Wn (IntKind.wrap .i64 (Yz+1)) Qfy))
def Qf.j1 (Wn:Int) (Yz:Int) (Wm:List Qd) (Qer:Bool) (Qis:List Qd):Option (Qf.S ⊕ ((List Qd) × Int)):=
 if Qer=true then
  Qf.j2 Wn Yz Wm
 else
  Qf.j2 Wn Yz Qis
def Qf.l1 (a0:List Ql) (Wy:Int):Option (Qf.S ⊕ ((List Qd) × Int)):=
 if Wy < (a0.length:Int) then
  if 0<=Wy/\Wy < (a0.length:Int) then
   (Qk (a0.getD Wy.toNat Ql.z)).bind fun v1=>
   if v1=true then
    some (.inl (.l1 (IntKind.wrap .i64 (Wy+1))))
   else
    some (.inr (([]:List Qd),1))
  else none
 else
  some (.inl (.l2 0 ([]:List Qd)))
def Qf.l2 (a0:List Ql) (Qc2:Int) (Zm:List Qd):Option (Qf.S ⊕ ((List Qd) × Int)):=
 if Qc2 < (a0.length:Int) then
  some (.inl (.l3 Qc2 0 Zm))
 else
  some (.inr (Zm,0))
def Qf.l3 (a0:List Ql) (Wn:Int) (Yz:Int) (Wm:List Qd):Option (Qf.S ⊕ ((List Qd) × Int)):=
 if 0<=Wn/\Wn < (a0.length:Int) then
  if Yz < (((a0.getD Wn.toNat Ql.z).Log).length:Int) then
   if 0<=Yz/\Yz < (((a0.getD Wn.toNat Ql.z).Log).length:Int) then
    some (.inl (.l4 Wn Yz Wm false false 0 ([]:List Qd)))
   else none
  else
   some (.inl (.l2 (IntKind.wrap .i64 (Wn+1)) Wm))
 else none
def Qf.l4 (a0:List Ql) (Wn:Int) (Yz:Int) (Wm:List Qd) (Qer:Bool) (Qch:Bool) (Zo:Int) (Qaq:List Qd):Option (Qf.S ⊕ ((List Qd) × Int)):=
 if Zo < (Wm.length:Int) then
  if 0<=Zo/\Zo < (Wm.length:Int) then
   if (((Wm.getD Zo.toNat Qd.z).M).Client)=(((((a0.getD Wn.toNat Ql.z).Log).getD Yz.toNat Qd.z).M).Client) then
    Qf.j3 a0 Wn Yz Wm Qer Qch Zo Qaq ((((Wm.getD Zo.toNat Qd.z).M).Seq) == (((((a0.getD Wn.toNat Ql.z).Log).getD Yz.toNat Qd.z).M).Seq))
   else
    Qf.j3 a0 Wn Yz Wm Qer Qch Zo Qaq false
  else none
 else
  if Qch=true then
   Qf.j1 Wn Yz Wm Qer Qaq
  else
   if (Qaq.length+1) * 88<=140737488355328 then
    Qf.j1 Wn Yz Wm Qer (Qaq ++ [(((a0.getD Wn.toNat Ql.z).Log).getD Yz.toNat Qd.z)])
   else none
def Qf.step (a0:List Ql):Qf.S->Option (Qf.S ⊕ ((List Qd) × Int))
 | .l1 Wy=>Qf.l1 a0 Wy
 | .l2 Qc2 Zm=>Qf.l2 a0 Qc2 Zm
 | .l3 Wn Yz Wm=>Qf.l3 a0 Wn Yz Wm
 | .l4 Wn Yz Wm Qer Qch Zo Qaq=>Qf.l4 a0 Wn Yz Wm Qer Qch Zo Qaq
def Qf (a0:List Ql):Option ((List Qd) × Int):=
 Xf (Qf.step a0) (.l1 0)
inductive Qw.S where
 | l1
 | l2 (Jv:Int) (Jn:List Qd)
 | l3 (Jn:List Qd)
def Qw.l1:Option (Qw.S ⊕ Ql):=
 some (.inl (.l2 0 ([]:List Qd)))
def Qw.l2 (a0:List Qc) (Jv:Int) (Jn:List Qd):Option (Qw.S ⊕ Ql):=
 if Jv < (a0.length:Int) then
  if 0<=Jv/\Jv < (a0.length:Int) then
   (Xg ((a0.getD Jv.toNat Qc.z).M)).bind fun v2=>
   if (Jn.length+1) * 88<=140737488355328 then
    some (.inl (.l2 (IntKind.wrap .i64 (Jv+1)) (Jn ++ [(⟨v2,(a0.getD Jv.toNat Qc.z).Time,(a0.getD Jv.toNat Qc.z).Zw⟩:Qd)])))
   else none
  else none
 else
  some (.inl (.l3 Jn))
def Qw.l3 (v1:List Qg) (Jn:List Qd):Option (Qw.S ⊕ Ql):=
 some (.inr (⟨0,(⟨0,0⟩:Qi),0,false,false,([]:List Qz),v1,Jn,([]:List Wh)⟩:Ql))
def Qw.step (a0:List Qc) (v1:List Qg):Qw.S->Option (Qw.S ⊕ Ql)
 | .l1=>Qw.l1
 | .l2 Jv Jn=>Qw.l2 a0 Jv Jn
 | .l3 Jn=>Qw.l3 v1 Jn
def Qw (a0:List Qc):Option Ql:=
 (Jl ([]:List Qa)).bind fun v1=>
 Xf (Qw.step a0 v1) (.l1)
def Qcx (a0:List Qc):Option (List Qd):=
 (Qw a0).bind fun v1=>
 some v1.Log
inductive Jf.S where
 | l1 (Xi:Int)
def Jf.j1 (Xi:Int) (Qsd:Bool):Option (Jf.S ⊕ Bool):=
 if Qsd=true then
  some (.inr false)
 else
  some (.inl (.l1 (IntKind.wrap .i64 (Xi+1))))
def Jf.l1 (a0:List Qd) (a1:List Qd) (Xi:Int):Option (Jf.S ⊕ Bool):=
 if Xi < (a0.length:Int) then
  if 0<=Xi/\Xi < (a0.length:Int) then
   if 0<=Xi/\Xi < (a1.length:Int) then
    (Ya ((a0.getD Xi.toNat Qd.z).M) ((a1.getD Xi.toNat Qd.z).M)).bind fun v1=>
    if v1=true then
     if ((a0.getD Xi.toNat Qd.z).Time)=((a1.getD Xi.toNat Qd.z).Time) then
      Jf.j1 Xi (!(((a0.getD Xi.toNat Qd.z).Zw) == ((a1.getD Xi.toNat Qd.z).Zw)))
     else
      Jf.j1 Xi true
    else
     Jf.j1 Xi true
   else none
  else none
 else
  some (.inr true)
def Jf.step (a0:List Qd) (a1:List Qd):Jf.S->Option (Jf.S ⊕ Bool)
 | .l1 Xi=>Jf.l1 a0 a1 Xi
def Jf (a0:List Qd) (a1:List Qd):Option Bool:=
 if (a0.length:Int)=(a1.length:Int) then
  Xf (Jf.step a0 a1) (.l1 0)
 else
  some false
inductive Qbf.S where
 | l1 (Ja:Int) (Xp:QL)
def Qbf.l1 (a0:Qm) (Ja:Int) (Xp:QL):Option (Qbf.S ⊕ Int):=
 if Ja < (a0.Held.length:Int) then
  if 0<=Ja/\Ja < (a0.Held.length:Int) then
   (Wdl Xp (⟨((a0.Held.getD Ja.toNat Qr.z).M),(a0.Held.getD Ja.toNat Qr.z).Time,false⟩:Yl)).bind fun v3=>
   some (.inl (.l1 (IntKind.wrap .i64 (Ja+1)) v3.2))
  else none
 else
  some (.inr (Qnd Xp a0.Clock))
def Qbf.step (a0:Qm):Qbf.S->Option (Qbf.S ⊕ Int)
 | .l1 Ja Xp=>Qbf.l1 a0 Ja Xp
def Qbf (a0:Qm):Option Int:=
 (Qa9 a0).bind fun v1=>
 if v1=true then
  bnd (Qra) fun (v2:QL)=>
  Xf (Qbf.step a0) (.l1 0 v2)
 else
  some 0
inductive Zh.S where
 | l1 (Xd:Int)
def Zh.l1 (a0:List Qo) (p1:Qo->Option Bool) (Xd:Int):Option (Zh.S ⊕ Int):=
 if Xd < (a0.length:Int) then
  if 0<=Xd/\Xd < (a0.length:Int) then
   (p1 (a0.getD Xd.toNat Qo.z)).bind fun v1=>
   if v1=true then
    some (.inr Xd)
   else
    some (.inl (.l1 (IntKind.wrap .i64 (Xd+1))))
  else none
 else
  some (.inr (-1))
def Zh.step (a0:List Qo) (p1:Qo->Option Bool):Zh.S->Option (Zh.S ⊕ Int)
 | .l1 Xd=>Zh.l1 a0 p1 Xd
def Zh (a0:List Qo) (p1:Qo->Option Bool):Option Int:=
 Xf (Zh.step a0 p1) (.l1 0)
def Qdt (a0:List Qo) (p1:Qo->Option Bool):Option Bool:=
 (Zh a0 p1).bind fun v1=>
 some (decide (v1>=0))
def Qde.j1 (Qh8:Bool):Bool:=
 Qh8
def Qde (a0:Qo) (k0:Qc):Bool:=
 if a0.Client=k0.M.Client then
  Qde.j1 (a0.Seq == k0.M.Seq)
 else
  Qde.j1 false
def Qhr (a0:Qm) (a1:Qc):Option Bool:=
 (Qdt a0.Qs (fun z0=>some (Qde z0 a1))).bind fun v1=>
 some v1
inductive Wu.S where
 | l1 (Xi:Int) (Qaw:Int)
 | l2 (v2:Int) (Zq:Int) (Qeq:Int) (Qba:Int) (Yu:Int) (Ye:Int) (Zy:Int) (Qac:Int) (Qad:Bool) (Jt:Bool) (Qae:List Qr) (Qaf:List Qa) (Qaz:List Qc) (Qa0:List Qo)
def Wu.j2 (Qeq:Int) (Qba:Int) (Yu:Int) (Ye:Int) (Zy:Int) (Qac:Int) (Qad:Bool) (Jt:Bool) (Qae:List Qr) (Qaf:List Qa) (Qaz:List Qc) (Qa0:List Qo) (v2:Int) (Qlr:Int):Option (Wu.S ⊕ Int):=
 some (.inl (.l2 v2 Qlr Qeq (IntKind.wrap .i64 (Qba+1)) Yu Ye Zy Qac Qad Jt Qae Qaf Qaz Qa0))
def Wu.j1 (Zq:Int) (Qeq:Int) (Qba:Int) (Yu:Int) (Ye:Int) (Zy:Int) (Qac:Int) (Qad:Bool) (Jt:Bool) (Qae:List Qr) (Qaf:List Qa) (Qaz:List Qc) (Qa0:List Qo) (v2:Int) (Qse:Bool):Option (Wu.S ⊕ Int):=
 if Qse=true then
  Wu.j2 Qeq Qba Yu Ye Zy Qac Qad Jt Qae Qaf Qaz Qa0 v2 (IntKind.wrap .i64 (Zq+1))
 else
  Wu.j2 Qeq Qba Yu Ye Zy Qac Qad Jt Qae Qaf Qaz Qa0 v2 Zq
def Wu.l1 (a0:List Qm) (Xi:Int) (Qaw:Int):Option (Wu.S ⊕ Int):=
 if Qaw < (a0.length:Int) then
  if 0<=Qaw/\Qaw < (a0.length:Int) then
   (Qbf (a0.getD Qaw.toNat Qm.z)).bind fun v2=>
   some (.inl (.l2 v2 Xi Qaw 0 ((a0.getD Qaw.toNat Qm.z).ID) (((a0.getD Qaw.toNat Qm.z).Keys).Lo) (((a0.getD Qaw.toNat Qm.z).Keys).Hi) ((a0.getD Qaw.toNat Qm.z).Clock) ((a0.getD Qaw.toNat Qm.z).Qa1) ((a0.getD Qaw.toNat Qm.z).Qag) ((a0.getD Qaw.toNat Qm.z).Held) ((a0.getD Qaw.toNat Qm.z).Base) ((a0.getD Qaw.toNat Qm.z).Log) ((a0.getD Qaw.toNat Qm.z).Qs)))
  else none
 else
  some (.inr Xi)
def Wu.l2 (v1:(List Qc) × Int) (v2:Int) (Zq:Int) (Qeq:Int) (Qba:Int) (Yu:Int) (Ye:Int) (Zy:Int) (Qac:Int) (Qad:Bool) (Jt:Bool) (Qae:List Qr) (Qaf:List Qa) (Qaz:List Qc) (Qa0:List Qo):Option (Wu.S ⊕ Int):=
 if Qba < (v1.1.length:Int) then
  if 0<=Qba/\Qba < (v1.1.length:Int) then
   if Jt=true then
    Wu.j1 Zq Qeq Qba Yu Ye Zy Qac Qad Jt Qae Qaf Qaz Qa0 v2 false
   else
    if ((v1.1.getD Qba.toNat Qc.z).Time)<=v2 then
     (Qbd ((v1.1.getD Qba.toNat Qc.z).M)).bind fun v3=>
     (Qdx v3 ([(⟨Ye,Zy⟩:Qb)]:List Qb)).bind fun v4=>
     if v4=true then
      (Qhr (⟨Yu,(⟨Ye,Zy⟩:Qb),Qac,Qad,Jt,Qae,Qaf,Qaz,Qa0⟩:Qm) (v1.1.getD Qba.toNat Qc.z)).bind fun v5=>
      Wu.j1 Zq Qeq Qba Yu Ye Zy Qac Qad Jt Qae Qaf Qaz Qa0 v2 (!v5)
     else
      Wu.j1 Zq Qeq Qba Yu Ye Zy Qac Qad Jt Qae Qaf Qaz Qa0 v2 false
    else
     Wu.j1 Zq Qeq Qba Yu Ye Zy Qac Qad Jt Qae Qaf Qaz Qa0 v2 false
  else none
 else
  some (.inl (.l1 Zq (IntKind.wrap .i64 (Qeq+1))))
def Wu.step (a0:List Qm) (v1:(List Qc) × Int):Wu.S->Option (Wu.S ⊕ Int)
 | .l1 Xi Qaw=>Wu.l1 a0 Xi Qaw
 | .l2 v2 Zq Qeq Qba Yu Ye Zy Qac Qad Jt Qae Qaf Qaz Qa0=>Wu.l2 v1 v2 Zq Qeq Qba Yu Ye Zy Qac Qad Jt Qae Qaf Qaz Qa0
def Wu (a0:List Qm):Option Int:=
 (Qt a0).bind fun v1=>
 if v1.2=0 then
  Xf (Wu.step a0 v1) (.l1 0 0)
 else
  some (-1)
inductive Yo.S where
 | l1 (Qq:Int) (Wy:Int)
def Yo.j2 (Wy:Int) (Qvs:Int):Option (Yo.S ⊕ Int):=
 some (.inl (.l1 Qvs (IntKind.wrap .i64 (Wy+1))))
def Yo.j1 (a0:Ql) (Qq:Int) (Wy:Int) (Qjz:Bool):Option (Yo.S ⊕ Int):=
 if Qjz=true then
  if 0<=Wy/\Wy < (a0.Held.length:Int) then
   bnd (IntKind.wrap .i64 (((a0.Held.getD Wy.toNat Qz.z).Time) - 1)) fun (v1:Int)=>
   Yo.j2 Wy v1
  else none
 else
  Yo.j2 Wy Qq
def Yo.l1 (a0:Ql) (Qq:Int) (Wy:Int):Option (Yo.S ⊕ Int):=
 if Wy < (a0.Held.length:Int) then
  if Wy=0 then
   Yo.j1 a0 Qq Wy true
  else
   if 0<=Wy/\Wy < (a0.Held.length:Int) then
    Yo.j1 a0 Qq Wy (decide ((IntKind.wrap .i64 (((a0.Held.getD Wy.toNat Qz.z).Time) - 1)) < Qq))
   else none
 else
  some (.inr Qq)
def Yo.step (a0:Ql):Yo.S->Option (Yo.S ⊕ Int)
 | .l1 Qq Wy=>Yo.l1 a0 Qq Wy
def Yo (a0:Ql):Option Int:=
 Xf (Yo.step a0) (.l1 a0.Clock 0)
inductive Zb.S where
 | l1 (Yq:Int)
def Zb.j1 (Yq:Int) (Qj0:Bool):Option (Zb.S ⊕ Bool):=
 if Qj0=true then
  some (.inr true)
 else
  some (.inl (.l1 (IntKind.wrap .i64 (Yq+1))))
def Zb.l1 (a1:Qi) (v1:List Qi) (Yq:Int):Option (Zb.S ⊕ Bool):=
 if Yq < (v1.length:Int) then
  if 0<=Yq/\Yq < (v1.length:Int) then
   if ((v1.getD Yq.toNat Qi.z).Lo) < a1.Hi then
    Zb.j1 Yq (decide (a1.Lo < ((v1.getD Yq.toNat Qi.z).Hi)))
   else
    Zb.j1 Yq false
  else none
 else
  some (.inr false)
def Zb.step (a1:Qi) (v1:List Qi):Zb.S->Option (Zb.S ⊕ Bool)
 | .l1 Yq=>Zb.l1 a1 v1 Yq
def Zb (a0:Xe) (a1:Qi):Option Bool:=
 (Jg a0).bind fun v1=>
 Xf (Zb.step a1 v1) (.l1 0)
inductive Wq.S where
 | l1 (Xi:Int) (Yq:Int)
 | l2 (v2:Int) (Zq:Int) (Qc2:Int) (Qei:Int)
 | l3 (v2:Int) (Qby:Int) (Wn:Int) (Qe3:Int) (Qhp:Bool) (Qd8:Int) (Qcm:Int) (Qcv:Int) (Qc8:Int) (Qc9:List Qg) (Qda:Int) (Qdb:Int) (Qdc:Int) (Qc1:Int) (Qet:Bool)
def Wq.j3 (Qby:Int) (Wn:Int) (Qe3:Int) (Qd8:Int) (Qcm:Int) (Qcv:Int) (Qc8:Int) (Qc9:List Qg) (Qda:Int) (Qdb:Int) (Qdc:Int) (Qc1:Int) (Qet:Bool) (v2:Int) (Qsm:Bool):Option (Wq.S ⊕ Int):=
 some (.inl (.l3 v2 Qby Wn Qe3 Qsm (IntKind.wrap .i64 (Qd8+1)) Qcm Qcv Qc8 Qc9 Qda Qdb Qdc Qc1 Qet))
def Wq.j2 (Wn:Int) (Qe3:Int) (v2:Int) (Qlr:Int):Option (Wq.S ⊕ Int):=
 some (.inl (.l2 v2 Qlr Wn (IntKind.wrap .i64 (Qe3+1))))
def Wq.j1 (Qby:Int) (Wn:Int) (Qe3:Int) (v2:Int) (Qo1:Bool):Option (Wq.S ⊕ Int):=
 if Qo1=true then
  Wq.j2 Wn Qe3 v2 (IntKind.wrap .i64 (Qby+1))
 else
  Wq.j2 Wn Qe3 v2 Qby
def Wq.l1 (a0:List Ql) (Xi:Int) (Yq:Int):Option (Wq.S ⊕ Int):=
 if Yq < (a0.length:Int) then
  if 0<=Yq/\Yq < (a0.length:Int) then
   (Yo (a0.getD Yq.toNat Ql.z)).bind fun v2=>
   some (.inl (.l2 v2 Xi Yq 0))
  else none
 else
  some (.inr Xi)
def Wq.l2 (v1:(List Qd) × Int) (v2:Int) (Zq:Int) (Qc2:Int) (Qei:Int):Option (Wq.S ⊕ Int):=
 if Qei < (v1.1.length:Int) then
  if 0<=Qei/\Qei < (v1.1.length:Int) then
   some (.inl (.l3 v2 Zq Qc2 Qei false 0 (((v1.1.getD Qei.toNat Qd.z).M).Client) (((v1.1.getD Qei.toNat Qd.z).M).Seq) (((v1.1.getD Qei.toNat Qd.z).M).Kind) (((v1.1.getD Qei.toNat Qd.z).M).Pairs) ((((v1.1.getD Qei.toNat Qd.z).M).Over).Lo) ((((v1.1.getD Qei.toNat Qd.z).M).Over).Hi) (((v1.1.getD Qei.toNat Qd.z).M).Old) ((v1.1.getD Qei.toNat Qd.z).Time) ((v1.1.getD Qei.toNat Qd.z).Zw)))
  else none
 else
  some (.inl (.l1 Zq (IntKind.wrap .i64 (Qc2+1))))
def Wq.l3 (a0:List Ql) (v2:Int) (Qby:Int) (Wn:Int) (Qe3:Int) (Qhp:Bool) (Qd8:Int) (Qcm:Int) (Qcv:Int) (Qc8:Int) (Qc9:List Qg) (Qda:Int) (Qdb:Int) (Qdc:Int) (Qc1:Int) (Qet:Bool):Option (Wq.S ⊕ Int):=
 if 0<=Wn/\Wn < (a0.length:Int) then
  if Qd8 < (((a0.getD Wn.toNat Ql.z).Qs).length:Int) then
   if 0<=Qd8/\Qd8 < (((a0.getD Wn.toNat Ql.z).Qs).length:Int) then
    if Qhp=true then
     Wq.j3 Qby Wn Qe3 Qd8 Qcm Qcv Qc8 Qc9 Qda Qdb Qdc Qc1 Qet v2 true
    else
     if ((((a0.getD Wn.toNat Ql.z).Qs).getD Qd8.toNat Wh.z).Client)=Qcm then
      Wq.j3 Qby Wn Qe3 Qd8 Qcm Qcv Qc8 Qc9 Qda Qdb Qdc Qc1 Qet v2 (((((a0.getD Wn.toNat Ql.z).Qs).getD Qd8.toNat Wh.z).Seq) == Qcv)
     else
      Wq.j3 Qby Wn Qe3 Qd8 Qcm Qcv Qc8 Qc9 Qda Qdb Qdc Qc1 Qet v2 false
   else none
  else
   if ((a0.getD Wn.toNat Ql.z).Qag)=true then
    Wq.j1 Qby Wn Qe3 v2 false
   else
    if Qc1<=v2 then
     (Zb (⟨Qcm,Qcv,Qc8,Qc9,(⟨Qda,Qdb⟩:Qi),Qdc⟩:Xe) ((a0.getD Wn.toNat Ql.z).Keys)).bind fun v3=>
     if v3=true then
      Wq.j1 Qby Wn Qe3 v2 (!Qhp)
     else
      Wq.j1 Qby Wn Qe3 v2 false
    else
     Wq.j1 Qby Wn Qe3 v2 false
 else none
def Wq.step (a0:List Ql) (v1:(List Qd) × Int):Wq.S->Option (Wq.S ⊕ Int)
 | .l1 Xi Yq=>Wq.l1 a0 Xi Yq
 | .l2 v2 Zq Qc2 Qei=>Wq.l2 v1 v2 Zq Qc2 Qei
 | .l3 v2 Qby Wn Qe3 Qhp Qd8 Qcm Qcv Qc8 Qc9 Qda Qdb Qdc Qc1 Qet=>Wq.l3 a0 v2 Qby Wn Qe3 Qhp Qd8 Qcm Qcv Qc8 Qc9 Qda Qdb Qdc Qc1 Qet
def Wq (a0:List Ql):Option Int:=
 (Qf a0).bind fun v1=>
 if v1.2=0 then
  Xf (Wq.step a0 v1) (.l1 0 0)
 else
  some (-1)
def Qbh.j1 (Qb4:Bool):Option Bool:=
 some Qb4
def Qbh (a0:List Qm):Option Bool:=
 (Jw a0).bind fun v1=>
 if v1=true then
  (Qt a0).bind fun v3=>
  (Qab a0).bind fun v4=>
  (Qf v4).bind fun v5=>
  (Qu).bind fun v6=>
  if v6=true then
   (Qcx v3.1).bind fun v7=>
   (Jf v7 v5.1).bind fun v8=>
   if v8=true then
    if v3.2=v5.2 then
     (Wu a0).bind fun v9=>
     (Qab a0).bind fun v10=>
     (Wq v10).bind fun v11=>
     Qbh.j1 (v9 == v11)
    else
     Qbh.j1 false
   else
    Qbh.j1 false
  else
   Qbh.j1 false
 else
  (Qu).bind fun v2=>
  some v2
inductive Je.S where
 | l1 (Wy:Int) (Qx:List Qm)
def Je.j3 (Qkn:Bool):Option (Je.S ⊕ Bool):=
 some (.inr Qkn)
def Je.j2 (a0:List Qm) (Qx:List Qm) (v3:(List Qc) × Int) (v4:(List Qc) × Int) (Qoa:Bool):Option (Je.S ⊕ Bool):=
 if Qoa=true then
  some (.inr false)
 else
  if (([]:List Qm).length+a0.length) * 136<=140737488355328 then
   if ((([]:List Qm) ++ a0).length+Qx.length) * 136<=140737488355328 then
    (Qt ((([]:List Qm) ++ a0) ++ Qx)).bind fun v9=>
    (Qu).bind fun v10=>
    if v10=true then
     if v3.2=0 then
      (Qcx v3.1).bind fun v11=>
      (Qcx v4.1).bind fun v12=>
      (Jf v11 v12).bind fun v13=>
      if v13=true then
       if v9.2=0 then
        (Qcx v3.1).bind fun v14=>
        (Qcx v9.1).bind fun v15=>
        (Jf v14 v15).bind fun v16=>
        Je.j3 v16
       else
        Je.j3 false
      else
       Je.j3 false
     else
      Je.j3 true
    else
     Je.j3 false
   else none
  else none
def Je.l1 (a0:List Qm) (Wy:Int) (Qx:List Qm):Option (Je.S ⊕ Bool):=
 if Wy>=0 then
  if 0<=Wy/\Wy < (a0.length:Int) then
   if (Qx.length+1) * 136<=140737488355328 then
    some (.inl (.l1 (IntKind.wrap .i64 (Wy - 1)) (Qx ++ [a0.getD Wy.toNat Qm.z])))
   else none
  else none
 else
  (Qt a0).bind fun v3=>
  (Qt Qx).bind fun v4=>
  if v3.2=0 then
   if v4.2=0 then
    (Wu a0).bind fun v5=>
    (Wu Qx).bind fun v6=>
    Je.j2 a0 Qx v3 v4 (v5 != v6)
   else
    Je.j2 a0 Qx v3 v4 true
  else
   if v4.2=0 then
    Je.j2 a0 Qx v3 v4 true
   else
    (Wu a0).bind fun v7=>
    (Wu Qx).bind fun v8=>
    Je.j2 a0 Qx v3 v4 (v7 != v8)
def Je.step (a0:List Qm):Je.S->Option (Je.S ⊕ Bool)
 | .l1 Wy Qx=>Je.l1 a0 Wy Qx
def Je.j1 (a0:List Qm) (Wmp:Bool):Option Bool:=
 if Wmp=true then
  (Qu).bind fun v2=>
  some v2
 else
  Xf (Je.step a0) (.l1 (IntKind.wrap .i64 ((a0.length:Int) - 1)) ([]:List Qm))
def Je (a0:List Qm):Option Bool:=
 if (a0.length:Int) > 4 then
  Je.j1 a0 true
 else
  (Jw a0).bind fun v1=>
  Je.j1 a0 (!v1)
end
end Go.SyP
