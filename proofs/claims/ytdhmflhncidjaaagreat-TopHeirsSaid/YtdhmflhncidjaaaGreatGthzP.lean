/- Plain functions, printed by gen.py. -/
import Derived.Test.YtdhmflhncidjaaaGreatSyArr
set_option linter.unusedVariables false
namespace Go.SyP
open Go Go.Sy
noncomputable section
def Qnk:Bool:=true
structure Qa where
 Key:Int
 Val:Int
def Qa.z:Qa:=⟨0,0⟩
structure Qb where
 Lo:Int
 Hi:Int
def Qb.z:Qb:=⟨0,0⟩
structure Qp where
 Client:Int
 Seq:Int
 Kind:Int
 Pairs:List Qa
 Over:Qb
 Old:Int
def Qp.z:Qp:=⟨0,0,0,[],Qb.z,0⟩
structure Qaq where
 Qtl:Int
 Time:Int
def Qaq.z:Qaq:=⟨0,0⟩
structure Qh where
 M:Qp
 Time:Int
 Qg5:Bool
 Qg6:List Qaq
def Qh.z:Qh:=⟨Qp.z,0,false,[]⟩
structure Qe where
 M:Qp
 Time:Int
 Qa3:Bool
def Qe.z:Qe:=⟨Qp.z,0,false⟩
structure Qg where
 Client:Int
 Seq:Int
 Time:Int
 Qa3:Bool
def Qg.z:Qg:=⟨0,0,0,false⟩
structure Qc where
 ID:Int
 Keys:Qb
 Clock:Int
 Ws:Bool
 Wn:Bool
 Held:List Qh
 Base:List Qa
 Log:List Qe
 Known:List Qg
def Qc.z:Qc:=⟨0,Qb.z,0,false,false,[],[],[],[]⟩
structure Qi where
 ID:Int
 Keys:Qb
 Node:Int
def Qi.z:Qi:=⟨0,Qb.z,0⟩
structure Qbu where
 Time:Int
 Client:Int
 Seq:Int
structure Yi where
 Qbl:Int
 Next:Int
 L:List Qi
def Yi.z:Yi:=⟨0,0,[]⟩
structure Qed where
 Kind:Int
 From:Int
 Client:Int
 Seq:Int
 Time:Int
 Ask:Bool
 M:Qp
structure Wu where
 Kind:Int
 Qtl:Int
 Client:Int
 Seq:Int
 Time:Int
 M:Qp
 Core:Qc
 Zu:Yi
def Wu.z:Wu:=⟨0,0,0,0,0,Qp.z,Qc.z,Yi.z⟩
structure Xg where
 Kind:Int
 From:Int
 To:Int
 Client:Int
 Seq:Int
 Time:Int
 N:Int
 Ask:Bool
 Qa3:Bool
 M:Qp
 Pairs:List Qa
 Entries:List Qe
 Known:List Qg
 Qk9:List Qc
 Zu:Yi
def Xg.z:Xg:=⟨0,0,0,0,0,0,0,false,false,Qp.z,[],[],[],[],Yi.z⟩
structure Qn where
 c:Qc
 x:Yi
 recs:List Wu
 notes:List Xg
structure Qei where
 C:Qc
 Wiy:List Wu
 Notes:List Xg
 E:Int
structure Qx where
 Key:Int
 Val:Int
def Qx.z:Qx:=⟨0,0⟩
def Qeu:Qc:=
 (⟨1,(⟨0,4096⟩:Qb),0,false,false,([]:List Qh),([]:List Qa),([]:List Qe),([]:List Qg)⟩:Qc)
def Qhg (a0:Int) (a1:Int):Option Int:=
 if ¬ a1=0 then
  some (Int.tmod (IntKind.wrap .i64 ((Int.tmod a0 a1)+a1)) a1)
 else none
inductive Zf.S where
 | l1 (Wi:Int)
def Zf.l1 (a0:List Qc) (p1:Qc->Option Bool) (Wi:Int):Option (Zf.S ⊕ Int):=
 if Wi < (a0.length:Int) then
  if 0<=Wi/\Wi < (a0.length:Int) then
   (p1 (a0.getD Wi.toNat Qc.z)).bind fun v1=>
   if v1=true then
    some (.inr Wi)
   else
    some (.inl (.l1 (IntKind.wrap .i64 (Wi+1))))
  else none
 else
  some (.inr (-1))
def Zf.step (a0:List Qc) (p1:Qc->Option Bool):Zf.S->Option (Zf.S ⊕ Int)
 | .l1 Wi=>Zf.l1 a0 p1 Wi
def Zf (a0:List Qc) (p1:Qc->Option Bool):Option Int:=
 Yy (Zf.step a0 p1) (.l1 0)
def Qcs (a0:List Qc) (p1:Qc->Option Bool):Option Bool:=
 (Zf a0 p1).bind fun v1=>
 some (decide (v1>=0))
def Qbs.j1 (Qk5:Bool):Bool:=
 Qk5
def Qbs (a0:Int) (a1:Int) (a2:Int):Bool:=
 if a0>=a1 then
  Qbs.j1 (decide (a0<=a2))
 else
  Qbs.j1 false
def Qbk.j1 (Qcu:Bool):Bool:=
 Qcu
def Qbk (a0:Qb):Bool:=
 if a0.Lo>=0 then
  if a0.Lo < a0.Hi then
   Qbk.j1 (decide (a0.Hi<=4096))
  else
   Qbk.j1 false
 else
  Qbk.j1 false
def Qdc (a0:Int):Bool:=
 Qbs a0 0 1099511627775
inductive Wz.S where
 | l1 (Xp:Int)
def Wz.j1 (Xp:Int) (Qi6:Bool):Option (Wz.S ⊕ Bool):=
 if Qi6=true then
  some (.inr false)
 else
  some (.inl (.l1 (IntKind.wrap .i64 (Xp+1))))
def Wz.l1 (a0:List Qa) (Xp:Int):Option (Wz.S ⊕ Bool):=
 if Xp < (a0.length:Int) then
  if 0<=Xp/\Xp < (a0.length:Int) then
   if ((a0.getD Xp.toNat Qa.z).Key) < 0 then
    Wz.j1 Xp true
   else
    if ((a0.getD Xp.toNat Qa.z).Key)>=4096 then
     Wz.j1 Xp true
    else
     if ((a0.getD Xp.toNat Qa.z).Val) < (-1099511627776) then
      Wz.j1 Xp true
     else
      if ((a0.getD Xp.toNat Qa.z).Val) > 1099511627776 then
       Wz.j1 Xp true
      else
       if Xp > 0 then
        if 0<=(IntKind.wrap .i64 (Xp - 1))/\(IntKind.wrap .i64 (Xp - 1)) < (a0.length:Int) then
         Wz.j1 Xp (decide (((a0.getD ((IntKind.wrap .i64 (Xp - 1)).toNat) Qa.z).Key)>=((a0.getD Xp.toNat Qa.z).Key)))
        else none
       else
        Wz.j1 Xp false
  else none
 else
  some (.inr true)
def Wz.step (a0:List Qa):Wz.S->Option (Wz.S ⊕ Bool)
 | .l1 Xp=>Wz.l1 a0 Xp
def Wz (a0:List Qa):Option Bool:=
 Yy (Wz.step a0) (.l1 0)
def Zx (a0:Qc):List Qb:=
 ([a0.Keys]:List Qb)
inductive Jf.S where
 | l1 (Xp:Int)
def Jf.j1 (Xp:Int) (Qi4:Bool):Option (Jf.S ⊕ Bool):=
 if Qi4=true then
  some (.inr false)
 else
  some (.inl (.l1 (IntKind.wrap .i64 (Xp+1))))
def Jf.l1 (a0:List Qb) (Xp:Int):Option (Jf.S ⊕ Bool):=
 if Xp < (a0.length:Int) then
  if 0<=Xp/\Xp < (a0.length:Int) then
   if (Qbk (a0.getD Xp.toNat Qb.z))=true then
    if Xp > 0 then
     if 0<=(IntKind.wrap .i64 (Xp - 1))/\(IntKind.wrap .i64 (Xp - 1)) < (a0.length:Int) then
      Jf.j1 Xp (decide (((a0.getD Xp.toNat Qb.z).Lo)<=((a0.getD ((IntKind.wrap .i64 (Xp - 1)).toNat) Qb.z).Hi)))
     else none
    else
     Jf.j1 Xp false
   else
    Jf.j1 Xp true
  else none
 else
  some (.inr (decide ((a0.length:Int)<=64)))
def Jf.step (a0:List Qb):Jf.S->Option (Jf.S ⊕ Bool)
 | .l1 Xp=>Jf.l1 a0 Xp
def Jf (a0:List Qb):Option Bool:=
 Yy (Jf.step a0) (.l1 0)
inductive Za.S where
 | l1 (Wi:Int)
def Za.l1 (a0:List Qb) (p1:Qb->Option Bool) (Wi:Int):Option (Za.S ⊕ Int):=
 if Wi < (a0.length:Int) then
  if 0<=Wi/\Wi < (a0.length:Int) then
   (p1 (a0.getD Wi.toNat Qb.z)).bind fun v1=>
   if v1=true then
    some (.inr Wi)
   else
    some (.inl (.l1 (IntKind.wrap .i64 (Wi+1))))
  else none
 else
  some (.inr (-1))
def Za.step (a0:List Qb) (p1:Qb->Option Bool):Za.S->Option (Za.S ⊕ Int)
 | .l1 Wi=>Za.l1 a0 p1 Wi
def Za (a0:List Qb) (p1:Qb->Option Bool):Option Int:=
 Yy (Za.step a0 p1) (.l1 0)
def Qbo (a0:List Qb) (p1:Qb->Option Bool):Option Bool:=
 (Za a0 p1).bind fun v1=>
 some (decide (v1>=0))
def Qd4.j1 (Qhi:Bool):Bool:=
 Qhi
def Qd4 (a0:Qb) (k0:Int):Bool:=
 if (Qbk a0)=true then
  if k0>=a0.Lo then
   Qd4.j1 (decide (k0 < a0.Hi))
  else
   Qd4.j1 false
 else
  Qd4.j1 false
def Qe6 (a0:List Qb) (a1:Int):Option Bool:=
 (Qbo a0 (fun z0=>some (Qd4 z0 a1))).bind fun v1=>
 some v1
inductive Ji.S where
 | l1 (Qdg:Int) (Qm:List Qa)
def Ji.j2 (Qdg:Int) (Qps:List Qa):Option (Ji.S ⊕ (List Qa)):=
 some (.inl (.l1 (IntKind.wrap .i64 (Qdg+1)) Qps))
def Ji.l1 (a0:List Qa) (a1:List Qb) (Qdg:Int) (Qm:List Qa):Option (Ji.S ⊕ (List Qa)):=
 if Qdg < (a0.length:Int) then
  if 0<=Qdg/\Qdg < (a0.length:Int) then
   (Qe6 a1 ((a0.getD Qdg.toNat Qa.z).Key)).bind fun v3=>
   if v3=true then
    if (Qm.length+1) * 16<=140737488355328 then
     Ji.j2 Qdg (Qm ++ [(a0.getD Qdg.toNat Qa.z)])
    else none
   else
    Ji.j2 Qdg Qm
  else none
 else
  some (.inr Qm)
def Ji.step (a0:List Qa) (a1:List Qb):Ji.S->Option (Ji.S ⊕ (List Qa))
 | .l1 Qdg Qm=>Ji.l1 a0 a1 Qdg Qm
def Ji.j1 (a0:List Qa) (a1:List Qb) (Qrz:Bool):Option (List Qa):=
 if Qrz=true then
  some ([]:List Qa)
 else
  Yy (Ji.step a0 a1) (.l1 0 ([]:List Qa))
def Ji (a0:List Qa) (a1:List Qb):Option (List Qa):=
 (Wz a0).bind fun v1=>
 if v1=true then
  (Jf a1).bind fun v2=>
  Ji.j1 a0 a1 (!v2)
 else
  Ji.j1 a0 a1 true
def cmp_isNaN_int (a0:Int):Bool:=
 (a0 != a0)
def Yr (a0:Int) (a1:Int):Int:=
 if (cmp_isNaN_int a0)=true then
  if (cmp_isNaN_int a1)=true then
   0
  else
   (-1)
 else
  if (cmp_isNaN_int a1)=true then
   1
  else
   if a0 < a1 then
    (-1)
   else
    if a0 > a1 then
     1
    else
     0
inductive Qam.S where
 | l1 (Wi:Int)
def Qam.l1 (a0:List Int) (Wi:Int):Option (Qam.S ⊕ Int):=
 if Wi < (a0.length:Int) then
  if 0<=Wi/\Wi < (a0.length:Int) then
   if (a0.getD Wi.toNat 0)=0 then
    some (.inl (.l1 (IntKind.wrap .i64 (Wi+1))))
   else
    some (.inr (a0.getD Wi.toNat 0))
  else none
 else
  some (.inr 0)
def Qam.step (a0:List Int):Qam.S->Option (Qam.S ⊕ Int)
 | .l1 Wi=>Qam.l1 a0 Wi
def Qam (a0:List Int):Option Int:=
 Yy (Qam.step a0) (.l1 0)
def Qcp (a0:Qg) (a1:Qg):Option Int:=
 (Qam ([Yr a0.Client a1.Client,Yr a0.Seq a1.Seq]:List Int)).bind fun v1=>
 some v1
inductive Xm.S where
 | l1 (Wi:Int)
def Xm.j1 (Wi:Int) (Qsc:Bool):Option (Xm.S ⊕ Bool):=
 if Qsc=true then
  none
 else
  some (.inl (.l1 (IntKind.wrap .i64 (Wi+1))))
def Xm.l1 (a0:Qc) (Wi:Int):Option (Xm.S ⊕ Bool):=
 if Wi < (a0.Known.length:Int) then
  if 0<=Wi/\Wi < (a0.Known.length:Int) then
   if (Qbs ((a0.Known.getD Wi.toNat Qg.z).Client) 1 1048576)=true then
    if (Qbs ((a0.Known.getD Wi.toNat Qg.z).Seq) 1 1073741824)=true then
     if (Qdc ((a0.Known.getD Wi.toNat Qg.z).Time))=true then
      if Wi > 0 then
       if 0<=(IntKind.wrap .i64 (Wi - 1))/\(IntKind.wrap .i64 (Wi - 1)) < (a0.Known.length:Int) then
        (Qcp (a0.Known.getD ((IntKind.wrap .i64 (Wi - 1)).toNat) Qg.z) (a0.Known.getD Wi.toNat Qg.z)).bind fun v1=>
        Xm.j1 Wi (decide (v1>=0))
       else none
      else
       Xm.j1 Wi false
     else
      Xm.j1 Wi true
    else
     Xm.j1 Wi true
   else
    Xm.j1 Wi true
  else none
 else
  some (.inr true)
def Xm.step (a0:Qc):Xm.S->Option (Xm.S ⊕ Bool)
 | .l1 Wi=>Xm.l1 a0 Wi
def Xm (a0:Qc):Option Bool:=
 Yy (Xm.step a0) (.l1 0)
inductive Yn.S where
 | l1 (Wi:Int)
def Yn.l1 (a0:List Qa) (p1:Qa->Option Bool) (Wi:Int):Option (Yn.S ⊕ Int):=
 if Wi < (a0.length:Int) then
  if 0<=Wi/\Wi < (a0.length:Int) then
   (p1 (a0.getD Wi.toNat Qa.z)).bind fun v1=>
   if v1=true then
    some (.inr Wi)
   else
    some (.inl (.l1 (IntKind.wrap .i64 (Wi+1))))
  else none
 else
  some (.inr (-1))
def Yn.step (a0:List Qa) (p1:Qa->Option Bool):Yn.S->Option (Yn.S ⊕ Int)
 | .l1 Wi=>Yn.l1 a0 p1 Wi
def Yn (a0:List Qa) (p1:Qa->Option Bool):Option Int:=
 Yy (Yn.step a0 p1) (.l1 0)
def Qct (a0:List Qa) (p1:Qa->Option Bool):Option Bool:=
 (Yn a0 p1).bind fun v1=>
 some (decide (v1>=0))
def Qdx.j1 (Qcu:Bool):Bool:=
 Qcu
def Qdx (a0:Int):Bool:=
 if a0>=(-1099511627776) then
  Qdx.j1 (decide (a0<=1099511627776))
 else
  Qdx.j1 false
def Qe5.j1 (Qcu:Bool):Bool:=
 Qcu
def Qe5 (a0:Qa):Bool:=
 if a0.Key>=0 then
  if a0.Key < 4096 then
   Qe5.j1 (Qdx a0.Val)
  else
   Qe5.j1 false
 else
  Qe5.j1 false
def Qf3 (a0:Qa):Bool:=
 (!(Qe5 a0))
def Qcq.j1 (Qk5:Bool):Option Bool:=
 some Qk5
def Qcq (a0:Qp) (a1:Int) (a2:Int):Option Bool:=
 if (a0.Pairs.length:Int)>=a1 then
  if (a0.Pairs.length:Int)<=a2 then
   (Qct a0.Pairs (fun z0=>some (Qf3 z0))).bind fun v1=>
   Qcq.j1 (!v1)
  else
   Qcq.j1 false
 else
  Qcq.j1 false
inductive Qb9.S where
 | l1 (Yz:Int)
def Qb9.l1 (a0:List Qa) (Yz:Int):Option (Qb9.S ⊕ Bool):=
 if Yz < (a0.length:Int) then
  if 0<=(IntKind.wrap .i64 (Yz - 1))/\(IntKind.wrap .i64 (Yz - 1)) < (a0.length:Int) then
   if 0<=Yz/\Yz < (a0.length:Int) then
    if ((a0.getD ((IntKind.wrap .i64 (Yz - 1)).toNat) Qa.z).Key)>=((a0.getD Yz.toNat Qa.z).Key) then
     some (.inr false)
    else
     some (.inl (.l1 (IntKind.wrap .i64 (Yz+1))))
   else none
  else none
 else
  some (.inr true)
def Qb9.step (a0:List Qa):Qb9.S->Option (Qb9.S ⊕ Bool)
 | .l1 Yz=>Qb9.l1 a0 Yz
def Qb9 (a0:List Qa):Option Bool:=
 Yy (Qb9.step a0) (.l1 1)
def Zq.j2 (Qk7:Bool):Option Bool:=
 some Qk7
def Zq.j3 (Qk8:Bool):Option Bool:=
 some Qk8
def Zq.j4 (Qvz:Bool):Option Bool:=
 some Qvz
def Zq.j5 (Qv1:Bool):Option Bool:=
 some Qv1
def Zq.j1 (a0:Qp) (Qr4:Bool):Option Bool:=
 if Qr4=true then
  some false
 else
  if a0.Kind=1 then
   (Qcq a0 1 8).bind fun v1=>
   if v1=true then
    (Qb9 a0.Pairs).bind fun v2=>
    Zq.j2 v2
   else
    Zq.j2 false
  else
   if a0.Kind=2 then
    if (a0.Pairs.length:Int)=0 then
     Zq.j3 (Qbk a0.Over)
    else
     Zq.j3 false
   else
    if a0.Kind=3 then
     (Qcq a0 1 1).bind fun v3=>
     some v3
    else
     if a0.Kind=4 then
      (Qcq a0 1 1).bind fun v4=>
      if v4=true then
       if (Qdx a0.Old)=true then
        Zq.j4 true
       else
        Zq.j4 (a0.Old == 1099511627777)
      else
       Zq.j4 false
     else
      if a0.Kind=5 then
       (Qcq a0 2 2).bind fun v5=>
       if v5=true then
        if (0:Int)<=0/\0 < (a0.Pairs.length:Int) then
         if (0:Int)<=1/\1 < (a0.Pairs.length:Int) then
          if ((a0.Pairs.getD 0 Qa.z).Key)=((a0.Pairs.getD 1 Qa.z).Key) then
           Zq.j5 false
          else
           if ((a0.Pairs.getD 0 Qa.z).Val)=((a0.Pairs.getD 1 Qa.z).Val) then
            Zq.j5 (decide (((a0.Pairs.getD 0 Qa.z).Val)>=0))
           else
            Zq.j5 false
         else none
        else none
       else
        Zq.j5 false
      else
       some false
def Zq (a0:Qp):Option Bool:=
 if a0.Kind=2 then
  if a0.Kind=4 then
   Zq.j1 a0 false
  else
   Zq.j1 a0 (a0.Old != 0)
 else
  if a0.Over.Lo=0 then
   if a0.Over.Hi=0 then
    if a0.Kind=4 then
     Zq.j1 a0 false
    else
     Zq.j1 a0 (a0.Old != 0)
   else
    Zq.j1 a0 true
  else
   if a0.Over.Hi=0 then
    Zq.j1 a0 true
   else
    Zq.j1 a0 true
def Qbi.j1 (Qcu:Bool):Option Bool:=
 some Qcu
def Qbi (a0:Qp):Option Bool:=
 if a0.Client>=1 then
  if a0.Client<=1048576 then
   if a0.Seq>=1 then
    if a0.Seq<=1073741824 then
     (Zq a0).bind fun v1=>
     Qbi.j1 v1
    else
     Qbi.j1 false
   else
    Qbi.j1 false
  else
   Qbi.j1 false
 else
  Qbi.j1 false
def Qg4 (a0:Qb):Bool:=
 (!(Qbk a0))
def Yq (a0:Qb) (a1:Qb):Int:=
 Yr a0.Lo a1.Lo
def Qet (a0:List Qb):(List Qb) × Int:=
 if (a0.length:Int) > 64 then
  (([]:List Qb),2)
 else
  (a0,0)
inductive Qz.S where
 | l1 (Xy:Int) (Qm:List Qb)
def Qz.j1 (a0:List Qb) (Xy:Int) (Qm:List Qb) (Qi5:Bool):Option (Qz.S ⊕ ((List Qb) × Int)):=
 if Qi5=true then
  if 0<=(IntKind.wrap .i64 ((Qm.length:Int) - 1))/\(IntKind.wrap .i64 ((Qm.length:Int) - 1)) < (Qm.length:Int) then
   some (.inl (.l1 (IntKind.wrap .i64 (Xy+1)) (Qm.set ((IntKind.wrap .i64 ((Qm.length:Int) - 1)).toNat) (⟨(Qm.getD ((IntKind.wrap .i64 ((Qm.length:Int) - 1)).toNat) Qb.z).Lo,Qb6 ((Qm.getD ((IntKind.wrap .i64 ((Qm.length:Int) - 1)).toNat) Qb.z).Hi) (((Ja Qb.z Yq a0).getD Xy.toNat Qb.z).Hi)⟩:Qb))))
  else none
 else
  if (Qm.length+1) * 16<=140737488355328 then
   some (.inl (.l1 (IntKind.wrap .i64 (Xy+1)) (Qm ++ [((Ja Qb.z Yq a0).getD Xy.toNat Qb.z)])))
  else none
def Qz.l1 (a0:List Qb) (Xy:Int) (Qm:List Qb):Option (Qz.S ⊕ ((List Qb) × Int)):=
 if Xy < ((Ja Qb.z Yq a0).length:Int) then
  if 0<=Xy/\Xy < ((Ja Qb.z Yq a0).length:Int) then
   if (IntKind.wrap .i64 ((Qm.length:Int) - 1))>=0 then
    if 0<=(IntKind.wrap .i64 ((Qm.length:Int) - 1))/\(IntKind.wrap .i64 ((Qm.length:Int) - 1)) < (Qm.length:Int) then
     Qz.j1 a0 Xy Qm (decide ((((Ja Qb.z Yq a0).getD Xy.toNat Qb.z).Lo)<=((Qm.getD ((IntKind.wrap .i64 ((Qm.length:Int) - 1)).toNat) Qb.z).Hi)))
    else none
   else
    Qz.j1 a0 Xy Qm false
  else none
 else
  bnd (Qet Qm) fun (v2:(List Qb) × Int)=>
  some (.inr (v2.1,v2.2))
def Qz.step (a0:List Qb):Qz.S->Option (Qz.S ⊕ ((List Qb) × Int))
 | .l1 Xy Qm=>Qz.l1 a0 Xy Qm
def Qz (a0:List Qb):Option ((List Qb) × Int):=
 (Qbo a0 (fun z0=>some (Qg4 z0))).bind fun v1=>
 if v1=true then
  some (([]:List Qb),1)
 else
  if a0.length * 16<=140737488355328 then
   Yy (Qz.step a0) (.l1 0 ([]:List Qb))
  else none
inductive Qaj.S where
 | l1 (Qdr:Int) (Qm:List Qb)
def Qaj.l1 (a0:Qp) (Qdr:Int) (Qm:List Qb):Option (Qaj.S ⊕ (List Qb)):=
 if Qdr < (a0.Pairs.length:Int) then
  if 0<=Qdr/\Qdr < (a0.Pairs.length:Int) then
   if (Qm.length+1) * 16<=140737488355328 then
    some (.inl (.l1 (IntKind.wrap .i64 (Qdr+1)) (Qm ++ [(⟨(a0.Pairs.getD Qdr.toNat Qa.z).Key,IntKind.wrap .i64 (((a0.Pairs.getD Qdr.toNat Qa.z).Key)+1)⟩:Qb)])))
   else none
  else none
 else
  (Qz Qm).bind fun v2=>
  some (.inr v2.1)
def Qaj.step (a0:Qp):Qaj.S->Option (Qaj.S ⊕ (List Qb))
 | .l1 Qdr Qm=>Qaj.l1 a0 Qdr Qm
def Qaj (a0:Qp):Option (List Qb):=
 (Qbi a0).bind fun v1=>
 if v1=true then
  if a0.Kind=2 then
   some ([a0.Over]:List Qb)
  else
   Yy (Qaj.step a0) (.l1 0 ([]:List Qb))
 else
  some ([]:List Qb)
inductive Qaa.S where
 | l1 (Qg8:Int) (Qm:List Qb)
 | l2 (Qfy:Int) (Qby:Int) (Qa2:List Qb) (Qcg:Int) (Qch:Int)
def Qaa.j1 (Qfy:Int) (Qby:Int) (Qcg:Int) (Qch:Int) (Qh1:List Qb):Option (Qaa.S ⊕ (List Qb)):=
 some (.inl (.l2 Qfy (IntKind.wrap .i64 (Qby+1)) Qh1 Qcg Qch))
def Qaa.l1 (a0:List Qb) (Qg8:Int) (Qm:List Qb):Option (Qaa.S ⊕ (List Qb)):=
 if Qg8 < (a0.length:Int) then
  if 0<=Qg8/\Qg8 < (a0.length:Int) then
   some (.inl (.l2 Qg8 0 Qm ((a0.getD Qg8.toNat Qb.z).Lo) ((a0.getD Qg8.toNat Qb.z).Hi)))
  else none
 else
  some (.inr Qm)
def Qaa.l2 (a1:List Qb) (Qfy:Int) (Qby:Int) (Qa2:List Qb) (Qcg:Int) (Qch:Int):Option (Qaa.S ⊕ (List Qb)):=
 if Qby < (a1.length:Int) then
  if 0<=Qby/\Qby < (a1.length:Int) then
   if (Qb6 Qcg ((a1.getD Qby.toNat Qb.z).Lo)) < (Qhd Qch ((a1.getD Qby.toNat Qb.z).Hi)) then
    if (Qa2.length+1) * 16<=140737488355328 then
     Qaa.j1 Qfy Qby Qcg Qch (Qa2 ++ [(⟨Qb6 Qcg ((a1.getD Qby.toNat Qb.z).Lo),Qhd Qch ((a1.getD Qby.toNat Qb.z).Hi)⟩:Qb)])
    else none
   else
    Qaa.j1 Qfy Qby Qcg Qch Qa2
  else none
 else
  some (.inl (.l1 (IntKind.wrap .i64 (Qfy+1)) Qa2))
def Qaa.step (a0:List Qb) (a1:List Qb):Qaa.S->Option (Qaa.S ⊕ (List Qb))
 | .l1 Qg8 Qm=>Qaa.l1 a0 Qg8 Qm
 | .l2 Qfy Qby Qa2 Qcg Qch=>Qaa.l2 a1 Qfy Qby Qa2 Qcg Qch
def Qaa (a0:List Qb) (a1:List Qb):Option (List Qb):=
 Yy (Qaa.step a0 a1) (.l1 0 ([]:List Qb))
def Qc0.j1 (Qhj:Bool):Option Bool:=
 some Qhj
def Qc0 (a0:List Qb) (a1:List Qb):Option Bool:=
 (Jf a0).bind fun v1=>
 if v1=true then
  (Jf a1).bind fun v2=>
  if v2=true then
   (Qaa a0 a1).bind fun v3=>
   Qc0.j1 (decide ((v3.length:Int) > 0))
  else
   Qc0.j1 false
 else
  Qc0.j1 false
def Qg9 (a0:Qc) (a1:Qp):Option Bool:=
 (Qaj a1).bind fun v1=>
 bnd (Zx a0) fun (v2:List Qb)=>
 (Qc0 v1 v2).bind fun v3=>
 some v3
inductive Qu.S where
 | l1 (Zo:Int) (Wq:Int)
def Qu.j1 (Zo:Int) (Qk6:Bool):Option (Qu.S ⊕ (Int × Bool)):=
 some (.inr (Zo,Qk6))
def Qu.l1 (a0:List Qg) (a1:Qg) (p2:Qg->Qg->Option Int) (Zo:Int) (Wq:Int):Option (Qu.S ⊕ (Int × Bool)):=
 if Zo < Wq then
  bnd (IntKind.wrap .i64 (Int.fdiv (IntKind.wrap .u64 (IntKind.wrap .i64 (Zo+Wq))) 2)) fun (v2:Int)=>
  if 0<=v2/\v2 < (a0.length:Int) then
   (p2 (a0.getD v2.toNat Qg.z) a1).bind fun v3=>
   if v3 < 0 then
    some (.inl (.l1 (IntKind.wrap .i64 (v2+1)) Wq))
   else
    some (.inl (.l1 Zo v2))
  else none
 else
  if Zo < (a0.length:Int) then
   if 0<=Zo/\Zo < (a0.length:Int) then
    (p2 (a0.getD Zo.toNat Qg.z) a1).bind fun v1=>
    Qu.j1 Zo (v1 == 0)
   else none
  else
   Qu.j1 Zo false
def Qu.step (a0:List Qg) (a1:Qg) (p2:Qg->Qg->Option Int):Qu.S->Option (Qu.S ⊕ (Int × Bool))
 | .l1 Zo Wq=>Qu.l1 a0 a1 p2 Zo Wq
def Qu (a0:List Qg) (a1:Qg) (p2:Qg->Qg->Option Int):Option (Int × Bool):=
 Yy (Qu.step a0 a1 p2) (.l1 0 (a0.length:Int))
def Qhk (a0:Qc) (a1:Int) (a2:Int):Option (Int × Bool):=
 (Qu a0.Known (⟨a1,a2,0,false⟩:Qg) (fun z0 z1=>Qcp z0 z1)).bind fun v1=>
 some (v1.1,v1.2)
def Qdf (a0:Int) (a1:Qp):Qbu:=
 (⟨a0,a1.Client,a1.Seq⟩:Qbu)
def Qc6 (a0:Qbu) (a1:Qbu):Option Int:=
 (Qam ([Yr a0.Time a1.Time,Yr a0.Client a1.Client,Yr a0.Seq a1.Seq]:List Int)).bind fun v1=>
 some v1
inductive Wv.S where
 | l1 (Wq:Int)
def Wv.j3 (Wq:Int) (Qsj:Bool):Option (Wv.S ⊕ Bool):=
 if Qsj=true then
  none
 else
  some (.inl (.l1 (IntKind.wrap .i64 (Wq+1))))
def Wv.j2 (a0:Qc) (Wq:Int) (Qfi:Bool):Option (Wv.S ⊕ Bool):=
 if Qfi=true then
  none
 else
  (Qhk a0 (((a0.Log.getD Wq.toNat Qe.z).M).Client) (((a0.Log.getD Wq.toNat Qe.z).M).Seq)).bind fun v4=>
  if v4.2=true then
   if 0<=v4.1/\v4.1 < (a0.Known.length:Int) then
    if ((a0.Known.getD v4.1.toNat Qg.z).Time)=((a0.Log.getD Wq.toNat Qe.z).Time) then
     Wv.j3 Wq (!(((a0.Known.getD v4.1.toNat Qg.z).Qa3) == ((a0.Log.getD Wq.toNat Qe.z).Qa3)))
    else
     Wv.j3 Wq true
   else none
  else
   Wv.j3 Wq true
def Wv.j1 (a0:Qc) (Wq:Int) (Qr9:Bool):Option (Wv.S ⊕ Bool):=
 if Qr9=true then
  none
 else
  if Wq > 0 then
   if 0<=(IntKind.wrap .i64 (Wq - 1))/\(IntKind.wrap .i64 (Wq - 1)) < (a0.Log.length:Int) then
    (Qc6 (Qdf ((a0.Log.getD ((IntKind.wrap .i64 (Wq - 1)).toNat) Qe.z).Time) ((a0.Log.getD ((IntKind.wrap .i64 (Wq - 1)).toNat) Qe.z).M)) (Qdf ((a0.Log.getD Wq.toNat Qe.z).Time) ((a0.Log.getD Wq.toNat Qe.z).M))).bind fun v3=>
    Wv.j2 a0 Wq (decide (v3>=0))
   else none
  else
   Wv.j2 a0 Wq false
def Wv.l1 (a0:Qc) (Wq:Int):Option (Wv.S ⊕ Bool):=
 if Wq < (a0.Log.length:Int) then
  if 0<=Wq/\Wq < (a0.Log.length:Int) then
   (Qbi ((a0.Log.getD Wq.toNat Qe.z).M)).bind fun v1=>
   if v1=true then
    (Qg9 a0 ((a0.Log.getD Wq.toNat Qe.z).M)).bind fun v2=>
    if v2=true then
     Wv.j1 a0 Wq (!(Qbs ((a0.Log.getD Wq.toNat Qe.z).Time) 0 a0.Clock))
    else
     Wv.j1 a0 Wq true
   else
    Wv.j1 a0 Wq true
  else none
 else
  some (.inr (decide ((a0.Log.length:Int)<=(a0.Known.length:Int))))
def Wv.step (a0:Qc):Wv.S->Option (Wv.S ⊕ Bool)
 | .l1 Wq=>Wv.l1 a0 Wq
def Wv (a0:Qc):Option Bool:=
 Yy (Wv.step a0) (.l1 0)
inductive Qb8.S where
 | l1
def Qb8.l1 (a0:Qc):Option (Qb8.S ⊕ Bool):=
 if 0 < (a0.Held.length:Int) then
  none
 else
  some (.inr true)
def Qb8.step (a0:Qc):Qb8.S->Option (Qb8.S ⊕ Bool)
 | .l1=>Qb8.l1 a0
def Qb8 (a0:Qc):Option Bool:=
 Yy (Qb8.step a0) (.l1)
def Jg.j3 (Qk8:Bool):Option Bool:=
 some Qk8
def Jg.j2 (a0:Qc) (Qfi:Bool):Option Bool:=
 if Qfi=true then
  none
 else
  (Xm a0).bind fun v3=>
  if v3=true then
   (Wv a0).bind fun v4=>
   if v4=true then
    (Qb8 a0).bind fun v5=>
    Jg.j3 v5
   else
    Jg.j3 false
  else
   Jg.j3 false
def Jg.j1 (a0:Qc) (Qr8:Bool):Option Bool:=
 if Qr8=true then
  none
 else
  (Wz a0.Base).bind fun v1=>
  if v1=true then
   (Ji a0.Base (Zx a0)).bind fun v2=>
   if (v2.length:Int)=(a0.Base.length:Int) then
    if a0.Wn=true then
     if a0.Ws=true then
      Jg.j2 a0 (decide ((a0.Held.length:Int) > 0))
     else
      Jg.j2 a0 true
    else
     Jg.j2 a0 false
   else
    Jg.j2 a0 true
  else
   Jg.j2 a0 true
def Jg (a0:Qc):Option Bool:=
 if (Qbs a0.ID 1 65536)=true then
  if (Qbk a0.Keys)=true then
   if (Qdc a0.Clock)=true then
    Jg.j1 a0 (decide ((IntKind.wrap .i64 ((a0.Held.length:Int)+(a0.Known.length:Int))) > 1000))
   else
    Jg.j1 a0 true
  else
   Jg.j1 a0 true
 else
  Jg.j1 a0 true
def Qdu.j1 (Qcu:Bool):Option Bool:=
 some Qcu
def Qdu (a0:Qc):Option Bool:=
 (Jg a0).bind fun v1=>
 if v1=true then
  Qdu.j1 (!a0.Wn)
 else
  Qdu.j1 true
inductive Qas.S where
 | l1 (Qa5:Int) (Qm:List Qb)
 | l2 (Qev:Int) (Qa2:List Qb) (Xe:List Qb)
def Qas.l1 (a0:List Qc) (Qa5:Int) (Qm:List Qb):Option (Qas.S ⊕ ((List Qb) × (List Qb))):=
 if Qa5 < (a0.length:Int) then
  if 0<=Qa5/\Qa5 < (a0.length:Int) then
   if (Qm.length+1) * 16<=140737488355328 then
    some (.inl (.l1 (IntKind.wrap .i64 (Qa5+1)) (Qm ++ [((a0.getD Qa5.toNat Qc.z).Keys)])))
   else none
  else none
 else
  some (.inl (.l2 0 Qm ([]:List Qb)))
def Qas.l2 (a1:List Qi) (Qev:Int) (Qa2:List Qb) (Xe:List Qb):Option (Qas.S ⊕ ((List Qb) × (List Qb))):=
 if Qev < (a1.length:Int) then
  if 0<=Qev/\Qev < (a1.length:Int) then
   if (Xe.length+1) * 16<=140737488355328 then
    some (.inl (.l2 (IntKind.wrap .i64 (Qev+1)) Qa2 (Xe ++ [((a1.getD Qev.toNat Qi.z).Keys)])))
   else none
  else none
 else
  some (.inr (Qa2,Xe))
def Qas.step (a0:List Qc) (a1:List Qi):Qas.S->Option (Qas.S ⊕ ((List Qb) × (List Qb)))
 | .l1 Qa5 Qm=>Qas.l1 a0 Qa5 Qm
 | .l2 Qev Qa2 Xe=>Qas.l2 a1 Qev Qa2 Xe
def Qas (a0:List Qc) (a1:List Qi):Option ((List Qb) × (List Qb)):=
 Yy (Qas.step a0 a1) (.l1 0 ([]:List Qb))
inductive Jz.S where
 | l1 (Qm5:Int) (Yg:Int)
def Jz.j1 (a0:List Qb) (Yg:Int) (Qr6:Bool):Option (Jz.S ⊕ Bool):=
 if Qr6=true then
  some (.inr false)
 else
  some (.inl (.l1 ((a0.getD Yg.toNat Qb.z).Hi) (IntKind.wrap .i64 (Yg+1))))
def Jz.l1 (a0:List Qb) (a2:Int) (Qm5:Int) (Yg:Int):Option (Jz.S ⊕ Bool):=
 if Yg < (a0.length:Int) then
  if 0<=Yg/\Yg < (a0.length:Int) then
   if ((a0.getD Yg.toNat Qb.z).Lo)=Qm5 then
    Jz.j1 a0 Yg (decide (((a0.getD Yg.toNat Qb.z).Hi)<=((a0.getD Yg.toNat Qb.z).Lo)))
   else
    Jz.j1 a0 Yg true
  else none
 else
  some (.inr (Qm5 == a2))
def Jz.step (a0:List Qb) (a2:Int):Jz.S->Option (Jz.S ⊕ Bool)
 | .l1 Qm5 Yg=>Jz.l1 a0 a2 Qm5 Yg
def Jz (a0:List Qb) (a1:Int) (a2:Int):Option Bool:=
 Yy (Jz.step a0 a2) (.l1 a1 0)
inductive Yj.S where
 | l1 (Wi:Int)
def Yj.l1 (a0:List Qi) (p1:Qi->Option Bool) (Wi:Int):Option (Yj.S ⊕ Int):=
 if Wi < (a0.length:Int) then
  if 0<=Wi/\Wi < (a0.length:Int) then
   (p1 (a0.getD Wi.toNat Qi.z)).bind fun v1=>
   if v1=true then
    some (.inr Wi)
   else
    some (.inl (.l1 (IntKind.wrap .i64 (Wi+1))))
  else none
 else
  some (.inr (-1))
def Yj.step (a0:List Qi) (p1:Qi->Option Bool):Yj.S->Option (Yj.S ⊕ Int)
 | .l1 Wi=>Yj.l1 a0 p1 Wi
def Yj (a0:List Qi) (p1:Qi->Option Bool):Option Int:=
 Yy (Yj.step a0 p1) (.l1 0)
def Qap (a0:List Qi) (p1:Qi->Option Bool):Option Bool:=
 (Yj a0 p1).bind fun v1=>
 some (decide (v1>=0))
def Qgb (a0:Qi):Bool:=
 (!(Qbs a0.ID 1 65536))
inductive Xo.S where
 | l1 (Yl:Int) (Xz:Int) (Xi:List Qa)
def Xo.j1 (Xz:Int) (Qvv:Int) (Qpq:List Qa):Option (Xo.S ⊕ (List Qa)):=
 some (.inl (.l1 Qvv (IntKind.wrap .i64 (Xz+1)) Qpq))
def Xo.l1 (p1:Qa->Option Bool) (Yl:Int) (Xz:Int) (Xi:List Qa):Option (Xo.S ⊕ (List Qa)):=
 if Xz < (Xi.length:Int) then
  if 0<=Xz/\Xz < (Xi.length:Int) then
   (p1 (Xi.getD Xz.toNat Qa.z)).bind fun v2=>
   if v2=true then
    Xo.j1 Xz Yl Xi
   else
    if 0<=Yl/\Yl < (Xi.length:Int) then
     Xo.j1 Xz (IntKind.wrap .i64 (Yl+1)) (Xi.set Yl.toNat (Xi.getD Xz.toNat Qa.z))
    else none
  else none
 else
  if 0<=Yl/\Yl<=(Xi.length:Int) then
   some (.inr (Xi.take Yl.toNat))
  else none
def Xo.step (p1:Qa->Option Bool):Xo.S->Option (Xo.S ⊕ (List Qa))
 | .l1 Yl Xz Xi=>Xo.l1 p1 Yl Xz Xi
def Xo (a0:List Qa) (p1:Qa->Option Bool):Option (List Qa):=
 (Yn a0 p1).bind fun v1=>
 if v1=(-1) then
  some a0
 else
  Yy (Xo.step p1) (.l1 v1 (IntKind.wrap .i64 (v1+1)) a0)
def Qdp.j1 (Qhj:Bool):Option Bool:=
 some Qhj
def Qdp (a0:Qa) (k0:Qb) (k1:List Qb):Option Bool:=
 if a0.Key>=k0.Lo then
  if a0.Key < k0.Hi then
   (Qe6 k1 a0.Key).bind fun v1=>
   Qdp.j1 v1
  else
   Qdp.j1 false
 else
  Qdp.j1 false
def Qj8 (a0:List Qa) (a1:Qb) (a2:List Qb):Option (List Qa):=
 (Xo a0 (fun z0=>Qdp z0 a1 a2)).bind fun v1=>
 some v1
def Qey.j1 (Qcu:Bool):Option Bool:=
 some Qcu
def Qey (a0:Qp):Option Bool:=
 (Qbi a0).bind fun v1=>
 if v1=true then
  if a0.Kind=3 then
   Qey.j1 true
  else
   Qey.j1 (a0.Kind == 4)
 else
  Qey.j1 false
inductive Xn.S where
 | l1 (Zo:Int) (Wq:Int)
def Xn.j1 (Zo:Int) (Qk6:Bool):Option (Xn.S ⊕ (Int × Bool)):=
 some (.inr (Zo,Qk6))
def Xn.l1 (a0:List Qa) (a1:Int) (p2:Qa->Int->Option Int) (Zo:Int) (Wq:Int):Option (Xn.S ⊕ (Int × Bool)):=
 if Zo < Wq then
  bnd (IntKind.wrap .i64 (Int.fdiv (IntKind.wrap .u64 (IntKind.wrap .i64 (Zo+Wq))) 2)) fun (v2:Int)=>
  if 0<=v2/\v2 < (a0.length:Int) then
   (p2 (a0.getD v2.toNat Qa.z) a1).bind fun v3=>
   if v3 < 0 then
    some (.inl (.l1 (IntKind.wrap .i64 (v2+1)) Wq))
   else
    some (.inl (.l1 Zo v2))
  else none
 else
  if Zo < (a0.length:Int) then
   if 0<=Zo/\Zo < (a0.length:Int) then
    (p2 (a0.getD Zo.toNat Qa.z) a1).bind fun v1=>
    Xn.j1 Zo (v1 == 0)
   else none
  else
   Xn.j1 Zo false
def Xn.step (a0:List Qa) (a1:Int) (p2:Qa->Int->Option Int):Xn.S->Option (Xn.S ⊕ (Int × Bool))
 | .l1 Zo Wq=>Xn.l1 a0 a1 p2 Zo Wq
def Xn (a0:List Qa) (a1:Int) (p2:Qa->Int->Option Int):Option (Int × Bool):=
 Yy (Xn.step a0 a1 p2) (.l1 0 (a0.length:Int))
def Qfd (a0:Qa) (a1:Int):Int:=
 Yr a0.Key a1
def Qgw (a0:List Qa) (a1:Int):Option (Int × Bool):=
 (Xn a0 a1 (fun z0 z1=>some (Qfd z0 z1))).bind fun v1=>
 some (v1.1,v1.2)
def Qhq (a0:List Qa) (a1:Int):Option (Int × Bool):=
 (Qgw a0 a1).bind fun v1=>
 if v1.2=true then
  if 0<=v1.1/\v1.1 < (a0.length:Int) then
   some ((a0.getD v1.1.toNat Qa.z).Val,true)
  else none
 else
  some (0,false)
def Qea (a0:List Qa) (a1:Int) (a2:Int):Option (List Qa):=
 (Qgw a0 a1).bind fun v1=>
 if v1.2=true then
  if 0<=v1.1/\v1.1 < (a0.length:Int) then
   some (a0.set v1.1.toNat (⟨(a0.getD v1.1.toNat Qa.z).Key,a2⟩:Qa))
  else none
 else
  if (0<=v1.1/\v1.1<=(a0.length:Int))/\(a0.length+1) * 16<=140737488355328 then
   some (a0.take v1.1.toNat ++ (⟨a1,a2⟩:Qa) :: a0.drop v1.1.toNat)
  else none
def Qb3.j1 (a0:List Qa) (a1:Qp) (v1:Int × Bool) (Qi5:Bool):Option ((List Qa) × Bool):=
 if Qi5=true then
  some (a0,false)
 else
  (Qea a0 ((a1.Pairs.getD 0 Qa.z).Key) (IntKind.wrap .i64 (v1.1+((a1.Pairs.getD 0 Qa.z).Val)))).bind fun v2=>
  some (v2,true)
def Qb3.j2 (a0:List Qa) (a1:Qp) (Qti:Int):Option ((List Qa) × Bool):=
 if Qti=a1.Old then
  (Qea a0 ((a1.Pairs.getD 0 Qa.z).Key) ((a1.Pairs.getD 0 Qa.z).Val)).bind fun v3=>
  some (v3,true)
 else
  some (a0,false)
def Qb3 (a0:List Qa) (a1:Qp):Option ((List Qa) × Bool):=
 if (0:Int)<=0/\0 < (a1.Pairs.length:Int) then
  (Qhq a0 ((a1.Pairs.getD 0 Qa.z).Key)).bind fun v1=>
  if a1.Kind=3 then
   if (IntKind.wrap .i64 (v1.1+((a1.Pairs.getD 0 Qa.z).Val))) < 0 then
    Qb3.j1 a0 a1 v1 true
   else
    Qb3.j1 a0 a1 v1 (decide ((IntKind.wrap .i64 (v1.1+((a1.Pairs.getD 0 Qa.z).Val))) > 1099511627776))
  else
   if v1.2=true then
    Qb3.j2 a0 a1 v1.1
   else
    Qb3.j2 a0 a1 1099511627777
 else none
def Qfw (a0:List Qa) (a1:Int) (a2:Int):Option (List Qa):=
 (Qhq a0 a1).bind fun v1=>
 (Qea a0 a1 (Qhd (Qb6 (IntKind.wrap .i64 (v1.1+a2)) (-1099511627776)) 1099511627776)).bind fun v2=>
 some v2
inductive Wm.S where
 | l1 (Qad:Int) (Xi:List Qa)
def Wm.j2 (Qad:Int) (Qpt:List Qa):Option (Wm.S ⊕ ((List Qa) × Bool)):=
 some (.inl (.l1 (IntKind.wrap .i64 (Qad+1)) Qpt))
def Wm.l1 (a1:Qp) (a2:List Qb) (Qad:Int) (Xi:List Qa):Option (Wm.S ⊕ ((List Qa) × Bool)):=
 if Qad < (a1.Pairs.length:Int) then
  if 0<=Qad/\Qad < (a1.Pairs.length:Int) then
   (Qe6 a2 ((a1.Pairs.getD Qad.toNat Qa.z).Key)).bind fun v8=>
   if v8=true then
    if a1.Kind=1 then
     (Qea Xi ((a1.Pairs.getD Qad.toNat Qa.z).Key) ((a1.Pairs.getD Qad.toNat Qa.z).Val)).bind fun v9=>
     Wm.j2 Qad v9
    else
     if Qad=0 then
      (Qfw Xi ((a1.Pairs.getD Qad.toNat Qa.z).Key) (IntKind.wrap .i64 (0 - ((a1.Pairs.getD Qad.toNat Qa.z).Val)))).bind fun v10=>
      Wm.j2 Qad v10
     else
      (Qfw Xi ((a1.Pairs.getD Qad.toNat Qa.z).Key) ((a1.Pairs.getD Qad.toNat Qa.z).Val)).bind fun v11=>
      Wm.j2 Qad v11
   else
    Wm.j2 Qad Xi
  else none
 else
  some (.inr (Xi,true))
def Wm.step (a1:Qp) (a2:List Qb):Wm.S->Option (Wm.S ⊕ ((List Qa) × Bool))
 | .l1 Qad Xi=>Wm.l1 a1 a2 Qad Xi
def Wm.j1 (a0:List Qa) (a1:Qp) (a2:List Qb) (Qr3:Bool):Option ((List Qa) × Bool):=
 if Qr3=true then
  some (([]:List Qa),false)
 else
  if a0.length * 16<=140737488355328 then
   if a1.Kind=2 then
    (Qj8 a0 a1.Over a2).bind fun v4=>
    some (v4,true)
   else
    (Qey a1).bind fun v5=>
    if v5=true then
     if (0:Int)<=0/\0 < (a1.Pairs.length:Int) then
      (Qe6 a2 ((a1.Pairs.getD 0 Qa.z).Key)).bind fun v6=>
      if v6=true then
       (Qb3 a0 a1).bind fun v7=>
       some (v7.1,v7.2)
      else
       some (a0,true)
     else none
    else
     Yy (Wm.step a1 a2) (.l1 0 a0)
  else none
def Wm (a0:List Qa) (a1:Qp) (a2:List Qb):Option ((List Qa) × Bool):=
 (Wz a0).bind fun v1=>
 if v1=true then
  (Qbi a1).bind fun v2=>
  if v2=true then
   (Jf a2).bind fun v3=>
   Wm.j1 a0 a1 a2 (!v3)
  else
   Wm.j1 a0 a1 a2 true
 else
  Wm.j1 a0 a1 a2 true
inductive Qar.S where
 | l1 (Yz:List Qa) (Yg:Int)
def Qar.j1 (Yg:Int) (Qhi:List Qa):Option (Qar.S ⊕ (List Qa)):=
 some (.inl (.l1 Qhi (IntKind.wrap .i64 (Yg+1))))
def Qar.l1 (a0:Qc) (Yz:List Qa) (Yg:Int):Option (Qar.S ⊕ (List Qa)):=
 if Yg < (a0.Log.length:Int) then
  if 0<=Yg/\Yg < (a0.Log.length:Int) then
   if ((a0.Log.getD Yg.toNat Qe.z).Qa3)=true then
    (Wm Yz ((a0.Log.getD Yg.toNat Qe.z).M) (Zx a0)).bind fun v1=>
    Qar.j1 Yg v1.1
   else
    Qar.j1 Yg Yz
  else none
 else
  some (.inr Yz)
def Qar.step (a0:Qc):Qar.S->Option (Qar.S ⊕ (List Qa))
 | .l1 Yz Yg=>Qar.l1 a0 Yz Yg
def Qar (a0:Qc):Option (List Qa):=
 Yy (Qar.step a0) (.l1 a0.Base 0)
def Qhs (a0:Qc) (a1:Int) (a2:Int):Option (Int × Bool):=
 (Qu a0.Known (⟨a1,a2,0,false⟩:Qg) (fun z0 z1=>Qcp z0 z1)).bind fun v1=>
 some (v1.1,v1.2)
inductive Xj.S where
 | l1 (Qa5:Int) (Qck:Int) (Zt:List Qa) (Qcm:List Qg)
 | l2 (Qfh:Int) (Qc2:List Qg) (Qfz:Int) (Qcn:Int) (Qc5:Int) (Jl:List Qa) (Qco:List Qg)
def Xj.j1 (Qfh:Int) (Qc2:List Qg) (Qfz:Int) (Qcn:Int) (Qc5:Int) (Jl:List Qa) (Qpr:List Qg):Option (Xj.S ⊕ Qc):=
 some (.inl (.l2 Qfh Qc2 Qfz (IntKind.wrap .i64 (Qcn+1)) Qc5 Jl Qpr))
def Xj.l1 (a0:List Qc) (Qa5:Int) (Qck:Int) (Zt:List Qa) (Qcm:List Qg):Option (Xj.S ⊕ Qc):=
 if Qa5 < (a0.length:Int) then
  if 0<=Qa5/\Qa5 < (a0.length:Int) then
   (Qar (a0.getD Qa5.toNat Qc.z)).bind fun v1=>
   if (Zt.length+v1.length) * 16<=140737488355328 then
    some (.inl (.l2 Qa5 ((a0.getD Qa5.toNat Qc.z).Known) (((a0.getD Qa5.toNat Qc.z).Known).length:Int) 0 (Qb6 Qck ((a0.getD Qa5.toNat Qc.z).Clock)) (Zt ++ v1) Qcm))
   else none
  else none
 else
  some (.inr (⟨0,(⟨0,0⟩:Qb),Qck,false,false,([]:List Qh),Zt,([]:List Qe),Qcm⟩:Qc))
def Xj.l2 (Qfh:Int) (Qc2:List Qg) (Qfz:Int) (Qcn:Int) (Qc5:Int) (Jl:List Qa) (Qco:List Qg):Option (Xj.S ⊕ Qc):=
 if Qcn < Qfz then
  if 0<=Qcn/\Qcn < (Qc2.length:Int) then
   (Qhs (⟨0,(⟨0,0⟩:Qb),Qc5,false,false,[],Jl,[],Qco⟩:Qc) ((Qc2.getD Qcn.toNat Qg.z).Client) ((Qc2.getD Qcn.toNat Qg.z).Seq)).bind fun v2=>
   if v2.2=true then
    Xj.j1 Qfh Qc2 Qfz Qcn Qc5 Jl Qco
   else
    if (0<=v2.1/\v2.1<=(Qco.length:Int))/\(Qco.length+1) * 32<=140737488355328 then
     Xj.j1 Qfh Qc2 Qfz Qcn Qc5 Jl (Qco.take v2.1.toNat ++ (Qc2.getD Qcn.toNat Qg.z) :: Qco.drop v2.1.toNat)
    else none
  else none
 else
  some (.inl (.l1 (IntKind.wrap .i64 (Qfh+1)) Qc5 Jl Qco))
def Xj.step (a0:List Qc):Xj.S->Option (Xj.S ⊕ Qc)
 | .l1 Qa5 Qck Zt Qcm=>Xj.l1 a0 Qa5 Qck Zt Qcm
 | .l2 Qfh Qc2 Qfz Qcn Qc5 Jl Qco=>Xj.l2 Qfh Qc2 Qfz Qcn Qc5 Jl Qco
def Xj (a0:List Qc):Option Qc:=
 Yy (Xj.step a0) (.l1 0 0 ([]:List Qa) ([]:List Qg))
def Qci (a0:Qp):Option Qp:=
 if a0.Pairs.length * 16<=140737488355328 then
  some a0
 else none
inductive Zi.S where
 | l1
 | l2 (Qcf:Int) (Jl:List Qe)
def Zi.l1 (a0:Qc):Option (Zi.S ⊕ Qc):=
 if 0 < (a0.Held.length:Int) then
  none
 else
  some (.inl (.l2 0 a0.Log))
def Zi.l2 (a0:Qc) (Qcf:Int) (Jl:List Qe):Option (Zi.S ⊕ Qc):=
 if Qcf < (a0.Log.length:Int) then
  if 0<=Qcf/\Qcf < (Jl.length:Int) then
   (Qci ((Jl.getD Qcf.toNat Qe.z).M)).bind fun v1=>
   some (.inl (.l2 (IntKind.wrap .i64 (Qcf+1)) (Jl.set Qcf.toNat (⟨v1,(Jl.getD Qcf.toNat Qe.z).Time,(Jl.getD Qcf.toNat Qe.z).Qa3⟩:Qe))))
  else none
 else
  some (.inr (⟨a0.ID,a0.Keys,a0.Clock,a0.Ws,a0.Wn,a0.Held,a0.Base,Jl,a0.Known⟩:Qc))
def Zi.step (a0:Qc):Zi.S->Option (Zi.S ⊕ Qc)
 | .l1=>Zi.l1 a0
 | .l2 Qcf Jl=>Zi.l2 a0 Qcf Jl
def Zi (a0:Qc):Option Qc:=
 if a0.Held.length * 112<=140737488355328 then
  if a0.Base.length * 16<=140737488355328 then
   if a0.Log.length * 88<=140737488355328 then
    if a0.Known.length * 32<=140737488355328 then
     Yy (Zi.step a0) (.l1)
    else none
   else none
  else none
 else none
def Ze (a0:Qc):List Qb:=
 ([a0.Keys]:List Qb)
inductive Wl.S where
 | l1 (Ye:Int) (Xi:List Qc)
def Wl.l1 (a1:List Qi) (v7:Qc) (Ye:Int) (Xi:List Qc):Option (Wl.S ⊕ ((List Qc) × Int)):=
 if Ye < (a1.length:Int) then
  if 0<=Ye/\Ye < (a1.length:Int) then
   (Zi v7).bind fun v8=>
   (Ji v7.Base (Ze (⟨(a1.getD Ye.toNat Qi.z).ID,((a1.getD Ye.toNat Qi.z).Keys),v8.Clock,v8.Ws,v8.Wn,v8.Held,v8.Base,v8.Log,v8.Known⟩:Qc))).bind fun v9=>
   if (Xi.length+1) * 136<=140737488355328 then
    some (.inl (.l1 (IntKind.wrap .i64 (Ye+1)) (Xi ++ [(⟨(a1.getD Ye.toNat Qi.z).ID,((a1.getD Ye.toNat Qi.z).Keys),v8.Clock,v8.Ws,v8.Wn,v8.Held,v9,v8.Log,v8.Known⟩:Qc)])))
   else none
  else none
 else
  some (.inr (Xi,0))
def Wl.step (a1:List Qi) (v7:Qc):Wl.S->Option (Wl.S ⊕ ((List Qc) × Int))
 | .l1 Ye Xi=>Wl.l1 a1 v7 Ye Xi
def Wl.j2 (a0:List Qc) (a1:List Qi) (Qfi:Bool):Option ((List Qc) × Int):=
 if Qfi=true then
  none
 else
  (Xj a0).bind fun v7=>
  if (v7.Known.length:Int) > 1000 then
   none
  else
   Yy (Wl.step a1 v7) (.l1 0 ([]:List Qc))
def Wl.j1 (a0:List Qc) (a1:List Qi) (Qi3:Bool):Option ((List Qc) × Int):=
 if Qi3=true then
  none
 else
  (Qas a0 a1).bind fun v2=>
  if (0:Int)<=0/\0 < (v2.1.length:Int) then
   if 0<=(IntKind.wrap .i64 ((v2.1.length:Int) - 1))/\(IntKind.wrap .i64 ((v2.1.length:Int) - 1)) < (v2.1.length:Int) then
    bnd ((v2.1.getD ((IntKind.wrap .i64 ((v2.1.length:Int) - 1)).toNat) Qb.z).Hi) fun (v3:Int)=>
    (Jz v2.1 ((v2.1.getD 0 Qb.z).Lo) v3).bind fun v4=>
    if v4=true then
     (Jz v2.2 ((v2.1.getD 0 Qb.z).Lo) v3).bind fun v5=>
     if v5=true then
      (Qap a1 (fun z0=>some (Qgb z0))).bind fun v6=>
      Wl.j2 a0 a1 v6
     else
      Wl.j2 a0 a1 true
    else
     Wl.j2 a0 a1 true
   else none
  else none
def Wl (a0:List Qc) (a1:List Qi):Option ((List Qc) × Int):=
 if (a0.length:Int)=0 then
  Wl.j1 a0 a1 true
 else
  if (a1.length:Int)=0 then
   Wl.j1 a0 a1 true
  else
   (Qcs a0 (fun z0=>Qdu z0)).bind fun v1=>
   Wl.j1 a0 a1 v1
def Qdq (a0:Qc):Option (List Qa):=
 (Jg a0).bind fun v1=>
 if v1=true then
  (Qar a0).bind fun v2=>
  if v2.length * 16<=140737488355328 then
   some v2
  else none
 else
  some ([]:List Qa)
inductive Xw.S where
 | l1 (Yz:Int) (Yg:Int)
 | l2 (Qe3:Int) (Qa2:List Qa)
def Xw.l1 (a0:List (List Qa)) (Yz:Int) (Yg:Int):Option (Xw.S ⊕ (List Qa)):=
 if Yg < (a0.length:Int) then
  if 0<=Yg/\Yg < (a0.length:Int) then
   bnd (IntKind.wrap .i64 (Yz+((a0.getD Yg.toNat []).length:Int))) fun (v1:Int)=>
   if v1 < 0 then
    none
   else
    some (.inl (.l1 v1 (IntKind.wrap .i64 (Yg+1))))
  else none
 else
  if 0<=Yz/\Yz * 16<=140737488355328 then
   some (.inl (.l2 0 ([]:List Qa)))
  else none
def Xw.l2 (a0:List (List Qa)) (Qe3:Int) (Qa2:List Qa):Option (Xw.S ⊕ (List Qa)):=
 if Qe3 < (a0.length:Int) then
  if 0<=Qe3/\Qe3 < (a0.length:Int) then
   if (Qa2.length+(a0.getD Qe3.toNat []).length) * 16<=140737488355328 then
    some (.inl (.l2 (IntKind.wrap .i64 (Qe3+1)) (Qa2 ++ (a0.getD Qe3.toNat []))))
   else none
  else none
 else
  some (.inr Qa2)
def Xw.step (a0:List (List Qa)):Xw.S->Option (Xw.S ⊕ (List Qa))
 | .l1 Yz Yg=>Xw.l1 a0 Yz Yg
 | .l2 Qe3 Qa2=>Xw.l2 a0 Qe3 Qa2
def Xw (a0:List (List Qa)):Option (List Qa):=
 Yy (Xw.step a0) (.l1 0 0)
def Qcy (a0:Qa) (a1:Qa):Int:=
 Yr a0.Key a1.Key
def Qc1.j1 (a0:List Qa) (a1:List Qa) (Qry:Bool):Option ((List Qa) × Int):=
 if Qry=true then
  none
 else
  (Xw ([a0,a1]:List (List Qa))).bind fun v3=>
  if v3.length * 16<=140737488355328 then
   (Wz (Ja Qa.z Qcy v3)).bind fun v4=>
   if v4=true then
    some (Ja Qa.z Qcy v3,0)
   else
    none
  else none
def Qc1 (a0:List Qa) (a1:List Qa):Option ((List Qa) × Int):=
 (Wz a0).bind fun v1=>
 if v1=true then
  (Wz a1).bind fun v2=>
  Qc1.j1 a0 a1 (!v2)
 else
  Qc1.j1 a0 a1 true
inductive Jh.S where
 | l1 (Yl:Int) (Qm:List Qa)
def Jh.l1 (a0:List Qc) (Yl:Int) (Qm:List Qa):Option (Jh.S ⊕ ((List Qa) × Bool)):=
 if Yl < (a0.length:Int) then
  if 0<=Yl/\Yl < (a0.length:Int) then
   (Qdq (a0.getD Yl.toNat Qc.z)).bind fun v1=>
   (Qc1 Qm v1).bind fun v2=>
   if v2.2=0 then
    some (.inl (.l1 (IntKind.wrap .i64 (Yl+1)) v2.1))
   else
    none
  else none
 else
  some (.inr (Qm,true))
def Jh.step (a0:List Qc):Jh.S->Option (Jh.S ⊕ ((List Qa) × Bool))
 | .l1 Yl Qm=>Jh.l1 a0 Yl Qm
def Jh (a0:List Qc):Option ((List Qa) × Bool):=
 Yy (Jh.step a0) (.l1 0 ([]:List Qa))
inductive Yf.S where
 | l1 (Qai:Int) (Zt:List Qi)
def Yf.l1 (a0:Int) (a1:Int) (Qai:Int) (Zt:List Qi):Option (Yf.S ⊕ (Yi × Int)):=
 if Qai < a1 then
  if ¬ a1=0 then
   if ¬ a0=0 then
    if (Zt.length+1) * 32<=140737488355328 then
     some (.inl (.l1 (IntKind.wrap .i64 (Qai+1)) (Zt ++ [(⟨IntKind.wrap .i64 (Qai+1),(⟨IntKind.wrap .i64 (Int.tdiv (IntKind.wrap .i64 (4096 * Qai)) a1),IntKind.wrap .i64 (Int.tdiv (IntKind.wrap .i64 (4096 * (IntKind.wrap .i64 (Qai+1)))) a1)⟩:Qb),Int.tmod Qai a0⟩:Qi)])))
    else none
   else none
  else none
 else
  some (.inr ((⟨1,IntKind.wrap .i64 (a1+1),Zt⟩:Yi),0))
def Yf.step (a0:Int) (a1:Int):Yf.S->Option (Yf.S ⊕ (Yi × Int))
 | .l1 Qai Zt=>Yf.l1 a0 a1 Qai Zt
def Yf.j1 (a0:Int) (a1:Int) (Qr2:Bool):Option (Yi × Int):=
 if Qr2=true then
  some ((⟨0,0,([]:List Qi)⟩:Yi),1)
 else
  Yy (Yf.step a0 a1) (.l1 0 ([]:List Qi))
def Yf (a0:Int) (a1:Int):Option (Yi × Int):=
 if a0 < 1 then
  Yf.j1 a0 a1 true
 else
  if a0 > 5 then
   Yf.j1 a0 a1 true
  else
   if a1 < 1 then
    Yf.j1 a0 a1 true
   else
    Yf.j1 a0 a1 (decide (a1 > 24))
def Qf6:Option Yi:=
 (Yf 1 1).bind fun v1=>
 some v1.1
def Qee.j1 (Qcu:Bool):Bool:=
 Qcu
def Qee (a0:Int):Bool:=
 if a0>=0 then
  Qee.j1 (decide (a0 < 5))
 else
  Qee.j1 false
def Qga (a0:Qi) (k0:Qi):Bool:=
 (a0.ID == k0.ID)
inductive Qbp.S where
 | l1 (Xp:Int)
def Qbp.l1 (a0:List Qi) (Xp:Int):Option (Qbp.S ⊕ Bool):=
 if Xp < (a0.length:Int) then
  if 0<=Xp/\Xp < (a0.length:Int) then
   if 0<=(0:Int)/\(0:Int)<=Xp/\Xp<=(a0.length:Int) then
    (Qap ((a0.drop 0).take (Xp.toNat - 0)) (fun z0=>some (Qga z0 (a0.getD Xp.toNat Qi.z)))).bind fun v1=>
    if v1=true then
     some (.inr false)
    else
     some (.inl (.l1 (IntKind.wrap .i64 (Xp+1))))
   else none
  else none
 else
  some (.inr true)
def Qbp.step (a0:List Qi):Qbp.S->Option (Qbp.S ⊕ Bool)
 | .l1 Xp=>Qbp.l1 a0 Xp
def Qbp (a0:List Qi):Option Bool:=
 Yy (Qbp.step a0) (.l1 0)
inductive Yo.S where
 | l1 (Yz:Int) (Qbq:Int)
def Yo.j3 (a0:Yi) (Qbq:Int) (Qsi:Bool):Option (Yo.S ⊕ Bool):=
 if Qsi=true then
  none
 else
  some (.inl (.l1 (((a0.L.getD Qbq.toNat Qi.z).Keys).Hi) (IntKind.wrap .i64 (Qbq+1))))
def Yo.j2 (Qk7:Bool):Option (Yo.S ⊕ Bool):=
 some (.inr Qk7)
def Yo.l1 (a0:Yi) (Yz:Int) (Qbq:Int):Option (Yo.S ⊕ Bool):=
 if Qbq < (a0.L.length:Int) then
  if 0<=Qbq/\Qbq < (a0.L.length:Int) then
   if ((a0.L.getD Qbq.toNat Qi.z).ID) < 1 then
    Yo.j3 a0 Qbq true
   else
    if ((a0.L.getD Qbq.toNat Qi.z).ID)>=a0.Next then
     Yo.j3 a0 Qbq true
    else
     if (Qee ((a0.L.getD Qbq.toNat Qi.z).Node))=true then
      if (Qbk ((a0.L.getD Qbq.toNat Qi.z).Keys))=true then
       Yo.j3 a0 Qbq ((((a0.L.getD Qbq.toNat Qi.z).Keys).Lo) != Yz)
      else
       Yo.j3 a0 Qbq true
     else
      Yo.j3 a0 Qbq true
  else none
 else
  if Yz=4096 then
   (Qbp a0.L).bind fun v1=>
   Yo.j2 v1
  else
   Yo.j2 false
def Yo.step (a0:Yi):Yo.S->Option (Yo.S ⊕ Bool)
 | .l1 Yz Qbq=>Yo.l1 a0 Yz Qbq
def Yo.j1 (a0:Yi) (Qsa:Bool):Option Bool:=
 if Qsa=true then
  none
 else
  Yy (Yo.step a0) (.l1 0 0)
def Yo (a0:Yi):Option Bool:=
 if a0.Qbl < 1 then
  Yo.j1 a0 true
 else
  if a0.Qbl > 1073741824 then
   Yo.j1 a0 true
  else
   if a0.Next < 1 then
    Yo.j1 a0 true
   else
    if a0.Next > 65537 then
     Yo.j1 a0 true
    else
     if (a0.L.length:Int) < 1 then
      Yo.j1 a0 true
     else
      Yo.j1 a0 (decide ((a0.L.length:Int) > 24))
inductive Zv.S where
 | l1 (Qca:Int) (Qm:List Int)
def Zv.j1 (Qca:Int) (Qh1:List Int):Option (Zv.S ⊕ (List Int)):=
 some (.inl (.l1 (IntKind.wrap .i64 (Qca+1)) Qh1))
def Zv.l1 (a0:Yi) (a1:List Qb) (Qca:Int) (Qm:List Int):Option (Zv.S ⊕ (List Int)):=
 if Qca < (a0.L.length:Int) then
  if 0<=Qca/\Qca < (a0.L.length:Int) then
   (Qc0 ([((a0.L.getD Qca.toNat Qi.z).Keys)]:List Qb) a1).bind fun v2=>
   if v2=true then
    if (Qm.length+1) * 8<=140737488355328 then
     Zv.j1 Qca (Qm ++ [(a0.L.getD Qca.toNat Qi.z).ID])
    else none
   else
    Zv.j1 Qca Qm
  else none
 else
  some (.inr Qm)
def Zv.step (a0:Yi) (a1:List Qb):Zv.S->Option (Zv.S ⊕ (List Int))
 | .l1 Qca Qm=>Zv.l1 a0 a1 Qca Qm
def Zv (a0:Yi) (a1:List Qb):Option (List Int):=
 (Yo a0).bind fun v1=>
 if v1=true then
  Yy (Zv.step a0 a1) (.l1 0 ([]:List Int))
 else
  some ([]:List Int)
def Qdl (a0:Qc) (a1:Int) (a2:Int):Option (Int × Bool):=
 (Qu a0.Known (⟨a1,a2,0,false⟩:Qg) (fun z0 z1=>Qcp z0 z1)).bind fun v1=>
 some (v1.1,v1.2)
inductive Zg.S where
 | l1 (Wi:Int)
def Zg.l1 (a0:List Qh) (p1:Qh->Option Bool) (Wi:Int):Option (Zg.S ⊕ Int):=
 if Wi < (a0.length:Int) then
  if 0<=Wi/\Wi < (a0.length:Int) then
   (p1 (a0.getD Wi.toNat Qh.z)).bind fun v1=>
   if v1=true then
    some (.inr Wi)
   else
    some (.inl (.l1 (IntKind.wrap .i64 (Wi+1))))
  else none
 else
  some (.inr (-1))
def Zg.step (a0:List Qh) (p1:Qh->Option Bool):Zg.S->Option (Zg.S ⊕ Int)
 | .l1 Wi=>Zg.l1 a0 p1 Wi
def Zg (a0:List Qh) (p1:Qh->Option Bool):Option Int:=
 Yy (Zg.step a0 p1) (.l1 0)
def Qd0.j1 (Qhj:Bool):Bool:=
 Qhj
def Qd0 (a0:Qh) (k0:Int) (k1:Int):Bool:=
 if a0.M.Client=k0 then
  Qd0.j1 (a0.M.Seq == k1)
 else
  Qd0.j1 false
def Qaz (a0:Qc) (a1:Int) (a2:Int):Option Int:=
 (Zg a0.Held (fun z0=>some (Qd0 z0 a1 a2))).bind fun v1=>
 some v1
inductive Qbf.S where
 | l1 (Wi:Int)
def Qbf.l1 (a0:List Int) (a1:Int) (Wi:Int):Option (Qbf.S ⊕ Int):=
 if Wi < (a0.length:Int) then
  if 0<=Wi/\Wi < (a0.length:Int) then
   if a1=(a0.getD Wi.toNat 0) then
    some (.inr Wi)
   else
    some (.inl (.l1 (IntKind.wrap .i64 (Wi+1))))
  else none
 else
  some (.inr (-1))
def Qbf.step (a0:List Int) (a1:Int):Qbf.S->Option (Qbf.S ⊕ Int)
 | .l1 Wi=>Qbf.l1 a0 a1 Wi
def Qbf (a0:List Int) (a1:Int):Option Int:=
 Yy (Qbf.step a0 a1) (.l1 0)
def Qec (a0:List Int) (a1:Int):Option Bool:=
 (Qbf a0 a1).bind fun v1=>
 some (decide (v1>=0))
def Qcv (a0:Qn) (a1:Qp):Option ((List Int) × Bool):=
 (Qaj a1).bind fun v1=>
 (Zv a0.x v1).bind fun v2=>
 (Qec v2 a0.c.ID).bind fun v3=>
 some (v2,v3)
def Qb1 (a0:Qc) (a1:Qp):Option Bool:=
 (Qaj a1).bind fun v1=>
 bnd (Ze a0) fun (v2:List Qb)=>
 (Qc0 v1 v2).bind fun v3=>
 some v3
def Zp.j2 (a0:Qn) (a1:Wu) (Qsf:Bool):Option (Int × Qn):=
 if Qsf=true then
  none
 else
  if (IntKind.wrap .i64 ((a0.c.Held.length:Int)+(a0.c.Known.length:Int)))>=1000 then
   none
  else
   (Qci a1.M).bind fun v5=>
   if (a0.c.Held.length+1) * 112<=140737488355328 then
    some (0,(⟨(⟨a0.c.ID,a0.c.Keys,a1.Time,a0.c.Ws,a0.c.Wn,a0.c.Held ++ [(⟨v5,a1.Time,false,([]:List Qaq)⟩:Qh)],a0.c.Base,a0.c.Log,a0.c.Known⟩:Qc),a0.x,a0.recs,a0.notes⟩:Qn))
   else none
def Zp.j1 (a0:Qn) (a1:Wu) (v1:Int × Bool) (Qi2:Bool):Option (Int × Qn):=
 if Qi2=true then
  none
 else
  if v1.2=true then
   Zp.j2 a0 a1 true
  else
   (Qaz (⟨a0.c.ID,a0.c.Keys,a0.c.Clock,a0.c.Ws,a0.c.Wn,a0.c.Held,a0.c.Base,a0.c.Log,a0.c.Known⟩:Qc) a1.M.Client a1.M.Seq).bind fun v4=>
   Zp.j2 a0 a1 (decide (v4>=0))
def Zp (a0:Qn) (a1:Wu):Option (Int × Qn):=
 (Qdl (⟨a0.c.ID,a0.c.Keys,a0.c.Clock,a0.c.Ws,a0.c.Wn,a0.c.Held,a0.c.Base,a0.c.Log,a0.c.Known⟩:Qc) a1.M.Client a1.M.Seq).bind fun v1=>
 (Qbi a1.M).bind fun v2=>
 if v2=true then
  (Qb1 (⟨a0.c.ID,a0.c.Keys,a0.c.Clock,a0.c.Ws,a0.c.Wn,a0.c.Held,a0.c.Base,a0.c.Log,a0.c.Known⟩:Qc) a1.M).bind fun v3=>
  if v3=true then
   if a1.Time<=a0.c.Clock then
    Zp.j1 a0 a1 v1 true
   else
    Zp.j1 a0 a1 v1 (decide (a1.Time > 1099511627775))
  else
   Zp.j1 a0 a1 v1 true
 else
  Zp.j1 a0 a1 v1 true
def Qbv (a0:Qh):Qbu:=
 bnd (Qdf a0.Time a0.M) fun (v1:Qbu)=>
 v1
inductive Xf.S where
 | l1 (Yz:Int) (Zo:Int)
def Xf.j2 (Zo:Int) (Qvw:Int):Option (Xf.S ⊕ Int):=
 some (.inl (.l1 Qvw (IntKind.wrap .i64 (Zo+1))))
def Xf.j1 (Yz:Int) (Zo:Int) (Qr7:Bool):Option (Xf.S ⊕ Int):=
 if Qr7=true then
  Xf.j2 Zo Zo
 else
  Xf.j2 Zo Yz
def Xf.l1 (a0:Qc) (Yz:Int) (Zo:Int):Option (Xf.S ⊕ Int):=
 if Zo < (a0.Held.length:Int) then
  if 0<=Zo/\Zo < (a0.Held.length:Int) then
   if Yz < 0 then
    Xf.j1 Yz Zo true
   else
    if 0<=Yz/\Yz < (a0.Held.length:Int) then
     (Qc6 (Qbv (a0.Held.getD Zo.toNat Qh.z)) (Qbv (a0.Held.getD Yz.toNat Qh.z))).bind fun v1=>
     Xf.j1 Yz Zo (decide (v1 < 0))
    else none
  else none
 else
  some (.inr Yz)
def Xf.step (a0:Qc):Xf.S->Option (Xf.S ⊕ Int)
 | .l1 Yz Zo=>Xf.l1 a0 Yz Zo
def Xf (a0:Qc):Option Int:=
 Yy (Xf.step a0) (.l1 (-1) 0)
inductive Xv.S where
 | l1 (Yz:List Qa) (Yg:Int)
def Xv.j1 (Yg:Int) (Qhi:List Qa):Option (Xv.S ⊕ (List Qa)):=
 some (.inl (.l1 Qhi (IntKind.wrap .i64 (Yg+1))))
def Xv.l1 (a0:Qc) (Yz:List Qa) (Yg:Int):Option (Xv.S ⊕ (List Qa)):=
 if Yg < (a0.Log.length:Int) then
  if 0<=Yg/\Yg < (a0.Log.length:Int) then
   if ((a0.Log.getD Yg.toNat Qe.z).Qa3)=true then
    (Wm Yz ((a0.Log.getD Yg.toNat Qe.z).M) (Ze a0)).bind fun v1=>
    Xv.j1 Yg v1.1
   else
    Xv.j1 Yg Yz
  else none
 else
  some (.inr Yz)
def Xv.step (a0:Qc):Xv.S->Option (Xv.S ⊕ (List Qa))
 | .l1 Yz Yg=>Xv.l1 a0 Yz Yg
def Xv (a0:Qc):Option (List Qa):=
 Yy (Xv.step a0) (.l1 a0.Base 0)
inductive Qj.S where
 | l1 (Qs:List Qh) (Yh:List Qe) (Yc:List Qg)
def Qj.j1 (a0:Qn) (Qs:List Qh) (Yh:List Qe) (Yc:List Qg) (v1:Int) (Qr5:Bool):Option (Qj.S ⊕ Qn):=
 if Qr5=true then
  some (.inr (⟨(⟨a0.c.ID,a0.c.Keys,a0.c.Clock,a0.c.Ws,a0.c.Wn,Qs,a0.c.Base,Yh,Yc⟩:Qc),a0.x,a0.recs,a0.notes⟩:Qn))
 else
  if 0<=v1/\v1 < (Qs.length:Int) then
   (Xv (⟨a0.c.ID,a0.c.Keys,a0.c.Clock,a0.c.Ws,a0.c.Wn,Qs,a0.c.Base,Yh,Yc⟩:Qc)).bind fun v2=>
   (Wm v2 ((Qs.getD v1.toNat Qh.z).M) (Ze (⟨a0.c.ID,a0.c.Keys,a0.c.Clock,a0.c.Ws,a0.c.Wn,Qs,a0.c.Base,Yh,Yc⟩:Qc))).bind fun v3=>
   if (0<=v1/\v1 < (IntKind.wrap .i64 (v1+1)))/\(IntKind.wrap .i64 (v1+1))=(Qs.length:Int) then
    if (Yh.length+1) * 88<=140737488355328 then
     (Qdl (⟨a0.c.ID,a0.c.Keys,a0.c.Clock,a0.c.Ws,a0.c.Wn,Qs.take v1.toNat,a0.c.Base,Yh ++ [(⟨((Qs.getD v1.toNat Qh.z).M),(Qs.getD v1.toNat Qh.z).Time,v3.2⟩:Qe)],Yc⟩:Qc) (((Qs.getD v1.toNat Qh.z).M).Client) (((Qs.getD v1.toNat Qh.z).M).Seq)).bind fun v4=>
     if (0<=v4.1/\v4.1<=(Yc.length:Int))/\(Yc.length+1) * 32<=140737488355328 then
      some (.inl (.l1 (Qs.take v1.toNat) (Yh ++ [(⟨((Qs.getD v1.toNat Qh.z).M),(Qs.getD v1.toNat Qh.z).Time,v3.2⟩:Qe)]) (Yc.take v4.1.toNat ++ (⟨((Qs.getD v1.toNat Qh.z).M).Client,((Qs.getD v1.toNat Qh.z).M).Seq,(Qs.getD v1.toNat Qh.z).Time,v3.2⟩:Qg) :: Yc.drop v4.1.toNat)))
     else none
    else none
   else none
  else none
def Qj.l1 (a0:Qn) (Qs:List Qh) (Yh:List Qe) (Yc:List Qg):Option (Qj.S ⊕ Qn):=
 (Xf (⟨a0.c.ID,a0.c.Keys,a0.c.Clock,a0.c.Ws,a0.c.Wn,Qs,a0.c.Base,Yh,Yc⟩:Qc)).bind fun v1=>
 if v1 < 0 then
  Qj.j1 a0 Qs Yh Yc v1 true
 else
  if 0<=v1/\v1 < (Qs.length:Int) then
   Qj.j1 a0 Qs Yh Yc v1 (!((Qs.getD v1.toNat Qh.z).Qg5))
  else none
def Qj.step (a0:Qn):Qj.S->Option (Qj.S ⊕ Qn)
 | .l1 Qs Yh Yc=>Qj.l1 a0 Qs Yh Yc
def Qj (a0:Qn):Option Qn:=
 Yy (Qj.step a0) (.l1 a0.c.Held a0.c.Log a0.c.Known)
def Yv.j1 (a0:Qn) (a1:Wu) (v1:Int) (Qi3:Bool):Option (Int × Qn):=
 if Qi3=true then
  none
 else
  bnd (a0.c.Held.set v1.toNat (⟨((a0.c.Held.getD v1.toNat Qh.z).M),a1.Time,(a0.c.Held.getD v1.toNat Qh.z).Qg5,(a0.c.Held.getD v1.toNat Qh.z).Qg6⟩:Qh)) fun (v2:List Qh)=>
  if 0<=v1/\v1 < (v2.length:Int) then
   (Qj (⟨(⟨a0.c.ID,a0.c.Keys,Qb6 a0.c.Clock a1.Time,a0.c.Ws,a0.c.Wn,v2.set v1.toNat (⟨((v2.getD v1.toNat Qh.z).M),(v2.getD v1.toNat Qh.z).Time,true,(v2.getD v1.toNat Qh.z).Qg6⟩:Qh),a0.c.Base,a0.c.Log,a0.c.Known⟩:Qc),a0.x,a0.recs,a0.notes⟩:Qn)).bind fun v3=>
   some (0,(⟨(⟨v3.c.ID,v3.c.Keys,v3.c.Clock,v3.c.Ws,v3.c.Wn,v3.c.Held,v3.c.Base,v3.c.Log,v3.c.Known⟩:Qc),v3.x,a0.recs,a0.notes⟩:Qn))
  else none
def Yv (a0:Qn) (a1:Wu):Option (Int × Qn):=
 (Qaz (⟨a0.c.ID,a0.c.Keys,a0.c.Clock,a0.c.Ws,a0.c.Wn,a0.c.Held,a0.c.Base,a0.c.Log,a0.c.Known⟩:Qc) a1.Client a1.Seq).bind fun v1=>
 if v1 < 0 then
  none
 else
  if 0<=v1/\v1 < (a0.c.Held.length:Int) then
   if ((a0.c.Held.getD v1.toNat Qh.z).Qg5)=true then
    none
   else
    if a1.Time < ((a0.c.Held.getD v1.toNat Qh.z).Time) then
     Yv.j1 a0 a1 v1 true
    else
     Yv.j1 a0 a1 v1 (decide (a1.Time > 1099511627775))
  else none
def Qej (a0:Qn) (a1:Wu):Option (Int × Qn):=
 if a0.c.Wn=true then
  none
 else
  if a1.Kind=1 then
   (Zp (⟨(⟨a0.c.ID,a0.c.Keys,a0.c.Clock,a0.c.Ws,false,a0.c.Held,a0.c.Base,a0.c.Log,a0.c.Known⟩:Qc),a0.x,a0.recs,a0.notes⟩:Qn) a1).bind fun v1=>
   some (v1.1,(⟨(⟨v1.2.c.ID,v1.2.c.Keys,v1.2.c.Clock,v1.2.c.Ws,v1.2.c.Wn,v1.2.c.Held,v1.2.c.Base,a0.c.Log,a0.c.Known⟩:Qc),v1.2.x,a0.recs,a0.notes⟩:Qn))
  else
   if a1.Kind=2 then
    (Yv (⟨(⟨a0.c.ID,a0.c.Keys,a0.c.Clock,a0.c.Ws,false,a0.c.Held,a0.c.Base,a0.c.Log,a0.c.Known⟩:Qc),a0.x,a0.recs,a0.notes⟩:Qn) a1).bind fun v2=>
    some (v2.1,(⟨(⟨v2.2.c.ID,v2.2.c.Keys,v2.2.c.Clock,v2.2.c.Ws,v2.2.c.Wn,v2.2.c.Held,v2.2.c.Base,v2.2.c.Log,v2.2.c.Known⟩:Qc),v2.2.x,a0.recs,a0.notes⟩:Qn))
   else
    none
def Qag (a0:Qn) (a1:Xg):Option Qn:=
 if (a0.notes.length+1) * 272<=140737488355328 then
  some (⟨(⟨a0.c.ID,a0.c.Keys,a0.c.Clock,a0.c.Ws,a0.c.Wn,a0.c.Held,a0.c.Base,a0.c.Log,a0.c.Known⟩:Qc),a0.x,a0.recs,a0.notes ++ [(⟨a1.Kind,a0.c.ID,a1.To,a1.Client,a1.Seq,a1.Time,a1.N,a1.Ask,a1.Qa3,a1.M,a1.Pairs,a1.Entries,a1.Known,a1.Qk9,a1.Zu⟩:Xg)]⟩:Qn)
 else none
def Qc9 (a0:Qn) (a1:Qg):Option Qn:=
 (Qag (⟨(⟨a0.c.ID,a0.c.Keys,a0.c.Clock,a0.c.Ws,a0.c.Wn,a0.c.Held,a0.c.Base,a0.c.Log,a0.c.Known⟩:Qc),a0.x,a0.recs,a0.notes⟩:Qn) (⟨4,0,0,a1.Client,a1.Seq,a1.Time,0,false,a1.Qa3,(⟨0,0,0,[],(⟨0,0⟩:Qb),0⟩:Qp),[],[],[],[],(⟨0,0,[]⟩:Yi)⟩:Xg)).bind fun v1=>
 some (⟨(⟨v1.c.ID,v1.c.Keys,v1.c.Clock,v1.c.Ws,v1.c.Wn,a0.c.Held,v1.c.Base,a0.c.Log,a0.c.Known⟩:Qc),v1.x,a0.recs,v1.notes⟩:Qn)
inductive Qo.S where
 | l1 (Jk:Int) (Jr:Int) (Js:Int) (Jt:Int) (Ju:Int) (Jv:Bool) (Jw:Bool) (Jy:List Qa) (Jb:Int) (Jc:Int) (Jd:List Qi) (Qae:List Xg)
def Qo.l1 (a0:Qn) (a1:Wu) (v1:Int × Qn) (v2:Qp) (Jk:Int) (Jr:Int) (Js:Int) (Jt:Int) (Ju:Int) (Jv:Bool) (Jw:Bool) (Jy:List Qa) (Jb:Int) (Jc:Int) (Jd:List Qi) (Qae:List Xg):Option (Qo.S ⊕ (Int × Qn)):=
 if Jk < ((v1.2.c.Log.length - (a0.c.Log.length:Int).toNat:Nat):Int) then
  if 0<=Jk/\Jk < ((v1.2.c.Log.length - (a0.c.Log.length:Int).toNat:Nat):Int) then
   (Qc9 (⟨(⟨Jr,(⟨Js,Jt⟩:Qb),Ju,Jv,Jw,v1.2.c.Held,Jy,v1.2.c.Log,v1.2.c.Known⟩:Qc),(⟨Jb,Jc,Jd⟩:Yi),a0.recs ++ [(⟨a1.Kind,a0.c.ID,a1.Client,a1.Seq,a1.Time,v2,a1.Core,a1.Zu⟩:Wu)],Qae⟩:Qn) (⟨((v1.2.c.Log.getD (Jk.toNat+(a0.c.Log.length:Int).toNat) Qe.z).M).Client,((v1.2.c.Log.getD (Jk.toNat+(a0.c.Log.length:Int).toNat) Qe.z).M).Seq,(v1.2.c.Log.getD (Jk.toNat+(a0.c.Log.length:Int).toNat) Qe.z).Time,(v1.2.c.Log.getD (Jk.toNat+(a0.c.Log.length:Int).toNat) Qe.z).Qa3⟩:Qg)).bind fun v3=>
   some (.inl (.l1 (IntKind.wrap .i64 (Jk+1)) v3.c.ID v3.c.Keys.Lo v3.c.Keys.Hi v3.c.Clock v3.c.Ws v3.c.Wn v3.c.Base v3.x.Qbl v3.x.Next v3.x.L v3.notes))
  else none
 else
  some (.inr (0,(⟨(⟨Jr,(⟨Js,Jt⟩:Qb),Ju,Jv,Jw,v1.2.c.Held,Jy,v1.2.c.Log,v1.2.c.Known⟩:Qc),(⟨Jb,Jc,Jd⟩:Yi),a0.recs ++ [(⟨a1.Kind,a0.c.ID,a1.Client,a1.Seq,a1.Time,v2,a1.Core,a1.Zu⟩:Wu)],Qae⟩:Qn)))
def Qo.step (a0:Qn) (a1:Wu) (v1:Int × Qn) (v2:Qp):Qo.S->Option (Qo.S ⊕ (Int × Qn))
 | .l1 Jk Jr Js Jt Ju Jv Jw Jy Jb Jc Jd Qae=>Qo.l1 a0 a1 v1 v2 Jk Jr Js Jt Ju Jv Jw Jy Jb Jc Jd Qae
inductive Qo.g2.S where
 | l1 (Jk:Int) (Jr:Int) (Js:Int) (Jt:Int) (Ju:Int) (Jv:Bool) (Jw:Bool) (Jy:List Qa) (Jb:Int) (Jc:Int) (Jd:List Qi) (Qae:List Xg)
def Qo.g2.l1 (a0:Qn) (a1:Wu) (v1:Int × Qn) (v2:Qp) (Jk:Int) (Jr:Int) (Js:Int) (Jt:Int) (Ju:Int) (Jv:Bool) (Jw:Bool) (Jy:List Qa) (Jb:Int) (Jc:Int) (Jd:List Qi) (Qae:List Xg):Option (Qo.g2.S ⊕ (Int × Qn)):=
 if Jk < (([]:List Qe).length:Int) then
  if 0<=Jk/\Jk < (([]:List Qe).length:Int) then
   (Qc9 (⟨(⟨Jr,(⟨Js,Jt⟩:Qb),Ju,Jv,Jw,v1.2.c.Held,Jy,v1.2.c.Log,v1.2.c.Known⟩:Qc),(⟨Jb,Jc,Jd⟩:Yi),a0.recs ++ [(⟨a1.Kind,a0.c.ID,a1.Client,a1.Seq,a1.Time,v2,a1.Core,a1.Zu⟩:Wu)],Qae⟩:Qn) (⟨((([]:List Qe).getD Jk.toNat Qe.z).M).Client,((([]:List Qe).getD Jk.toNat Qe.z).M).Seq,(([]:List Qe).getD Jk.toNat Qe.z).Time,(([]:List Qe).getD Jk.toNat Qe.z).Qa3⟩:Qg)).bind fun v4=>
   some (.inl (.l1 (IntKind.wrap .i64 (Jk+1)) v4.c.ID v4.c.Keys.Lo v4.c.Keys.Hi v4.c.Clock v4.c.Ws v4.c.Wn v4.c.Base v4.x.Qbl v4.x.Next v4.x.L v4.notes))
  else none
 else
  some (.inr (0,(⟨(⟨Jr,(⟨Js,Jt⟩:Qb),Ju,Jv,Jw,v1.2.c.Held,Jy,v1.2.c.Log,v1.2.c.Known⟩:Qc),(⟨Jb,Jc,Jd⟩:Yi),a0.recs ++ [(⟨a1.Kind,a0.c.ID,a1.Client,a1.Seq,a1.Time,v2,a1.Core,a1.Zu⟩:Wu)],Qae⟩:Qn)))
def Qo.g2.step (a0:Qn) (a1:Wu) (v1:Int × Qn) (v2:Qp):Qo.g2.S->Option (Qo.g2.S ⊕ (Int × Qn))
 | .l1 Jk Jr Js Jt Ju Jv Jw Jy Jb Jc Jd Qae=>Qo.g2.l1 a0 a1 v1 v2 Jk Jr Js Jt Ju Jv Jw Jy Jb Jc Jd Qae
def Qo (a0:Qn) (a1:Wu):Option (Int × Qn):=
 (Qej (⟨(⟨a0.c.ID,a0.c.Keys,a0.c.Clock,a0.c.Ws,a0.c.Wn,a0.c.Held,a0.c.Base,a0.c.Log,a0.c.Known⟩:Qc),a0.x,a0.recs,a0.notes⟩:Qn) (⟨a1.Kind,a0.c.ID,a1.Client,a1.Seq,a1.Time,a1.M,a1.Core,a1.Zu⟩:Wu)).bind fun v1=>
 if v1.1=0 then
  (Qci a1.M).bind fun v2=>
  if (a0.recs.length+1) * 288<=140737488355328 then
   if (a0.c.Log.length:Int) < (v1.2.c.Log.length:Int) then
    if 0<=(a0.c.Log.length:Int) then
     Yy (Qo.step a0 a1 v1 v2) (.l1 0 v1.2.c.ID v1.2.c.Keys.Lo v1.2.c.Keys.Hi v1.2.c.Clock v1.2.c.Ws v1.2.c.Wn v1.2.c.Base v1.2.x.Qbl v1.2.x.Next v1.2.x.L a0.notes)
    else none
   else
    if (a0.c.Log.length:Int)=(v1.2.c.Log.length:Int) then
     Yy (Qo.g2.step a0 a1 v1 v2) (.l1 0 v1.2.c.ID v1.2.c.Keys.Lo v1.2.c.Keys.Hi v1.2.c.Clock v1.2.c.Ws v1.2.c.Wn v1.2.c.Base v1.2.x.Qbl v1.2.x.Next v1.2.x.L a0.notes)
    else none
  else none
 else
  none
inductive Wp.S where
 | l1 (Qeb:Int)
def Wp.l1 (v1:(List Int) × Bool) (v2:Int × Qn) (Qeb:Int):Option (Wp.S ⊕ (Int × Qn)):=
 if Qeb < (v1.1.length:Int) then
  if 0<=Qeb/\Qeb < (v1.1.length:Int) then
   if (v1.1.getD Qeb.toNat 0)=v2.2.c.ID then
    some (.inl (.l1 (IntKind.wrap .i64 (Qeb+1))))
   else
    none
  else none
 else
  some (.inr (0,(⟨(⟨v2.2.c.ID,v2.2.c.Keys,v2.2.c.Clock,v2.2.c.Ws,v2.2.c.Wn,v2.2.c.Held,v2.2.c.Base,v2.2.c.Log,v2.2.c.Known⟩:Qc),v2.2.x,v2.2.recs,v2.2.notes⟩:Qn)))
def Wp.step (v1:(List Int) × Bool) (v2:Int × Qn):Wp.S->Option (Wp.S ⊕ (Int × Qn))
 | .l1 Qeb=>Wp.l1 v1 v2 Qeb
def Wp.j2 (a0:Qn) (a1:Qp) (a2:Int) (v1:(List Int) × Bool) (Qex:Bool) (Qse:Bool) (Qia:Bool):Option (Int × Qn):=
 if Qse=true then
  none
 else
  if a2>=1099511627775 then
   none
  else
   (Qo (⟨(⟨a0.c.ID,a0.c.Keys,a0.c.Clock,Qia,Qex,a0.c.Held,a0.c.Base,a0.c.Log,a0.c.Known⟩:Qc),a0.x,a0.recs,a0.notes⟩:Qn) (⟨1,0,0,0,IntKind.wrap .i64 (a2+1),a1,(⟨0,(⟨0,0⟩:Qb),0,false,false,[],[],[],[]⟩:Qc),(⟨0,0,[]⟩:Yi)⟩:Wu)).bind fun v2=>
   if v2.1=0 then
    Yy (Wp.step v1 v2) (.l1 0)
   else
    none
def Wp.j1 (a0:Qn) (a1:Qp) (a2:Int) (a3:Bool) (v1:(List Int) × Bool) (Qi2:Bool) (Qex:Bool):Option (Int × Qn):=
 if Qi2=true then
  none
 else
  if a0.c.Ws=true then
   Wp.j2 a0 a1 a2 v1 Qex a3 true
  else
   Wp.j2 a0 a1 a2 v1 Qex false false
def Wp (a0:Qn) (a1:Qp) (a2:Int) (a3:Bool):Option (Int × Qn):=
 (Qcv (⟨(⟨a0.c.ID,a0.c.Keys,a0.c.Clock,a0.c.Ws,a0.c.Wn,a0.c.Held,a0.c.Base,a0.c.Log,a0.c.Known⟩:Qc),a0.x,a0.recs,a0.notes⟩:Qn) a1).bind fun v1=>
 if a0.c.Wn=true then
  Wp.j1 a0 a1 a2 a3 v1 true true
 else
  Wp.j1 a0 a1 a2 a3 v1 (!v1.2) false
inductive Zz.S where
 | l1 (Wi:Int)
def Zz.l1 (a0:List Qaq) (p1:Qaq->Option Bool) (Wi:Int):Option (Zz.S ⊕ Int):=
 if Wi < (a0.length:Int) then
  if 0<=Wi/\Wi < (a0.length:Int) then
   (p1 (a0.getD Wi.toNat Qaq.z)).bind fun v1=>
   if v1=true then
    some (.inr Wi)
   else
    some (.inl (.l1 (IntKind.wrap .i64 (Wi+1))))
  else none
 else
  some (.inr (-1))
def Zz.step (a0:List Qaq) (p1:Qaq->Option Bool):Zz.S->Option (Zz.S ⊕ Int)
 | .l1 Wi=>Zz.l1 a0 p1 Wi
def Zz (a0:List Qaq) (p1:Qaq->Option Bool):Option Int:=
 Yy (Zz.step a0 p1) (.l1 0)
def Qh6 (a0:Qaq) (k0:Int):Bool:=
 (a0.Qtl == k0)
def Qjz (a0:Qh) (a1:Int):Option (Int × Bool):=
 (Zz a0.Qg6 (fun z0=>some (Qh6 z0 a1))).bind fun v1=>
 if v1 < 0 then
  some (0,false)
 else
  if 0<=v1/\v1 < (a0.Qg6.length:Int) then
   some ((a0.Qg6.getD v1.toNat Qaq.z).Time,true)
  else none
inductive Xl.S where
 | l1 (Wi:Int) (Qdj:Int)
def Xl.j1 (Wi:Int) (Qdj:Int) (v2:Int × Bool) (Qi6:Bool):Option (Xl.S ⊕ (Int × Bool)):=
 if Qi6=true then
  none
 else
  some (.inl (.l1 (Qb6 Wi v2.1) (IntKind.wrap .i64 (Qdj+1))))
def Xl.l1 (a0:Qn) (a1:Qh) (v1:(List Int) × Bool) (Wi:Int) (Qdj:Int):Option (Xl.S ⊕ (Int × Bool)):=
 if Qdj < (v1.1.length:Int) then
  if 0<=Qdj/\Qdj < (v1.1.length:Int) then
   (Qjz a1 (v1.1.getD Qdj.toNat 0)).bind fun v2=>
   if (v1.1.getD Qdj.toNat 0)=a0.c.ID then
    Xl.j1 Wi Qdj v2 false
   else
    Xl.j1 Wi Qdj v2 (!v2.2)
  else none
 else
  some (.inr (Wi,v1.2))
def Xl.step (a0:Qn) (a1:Qh) (v1:(List Int) × Bool):Xl.S->Option (Xl.S ⊕ (Int × Bool))
 | .l1 Wi Qdj=>Xl.l1 a0 a1 v1 Wi Qdj
def Xl (a0:Qn) (a1:Qh):Option (Int × Bool):=
 (Qcv (⟨(⟨a0.c.ID,a0.c.Keys,a0.c.Clock,a0.c.Ws,a0.c.Wn,a0.c.Held,a0.c.Base,a0.c.Log,a0.c.Known⟩:Qc),a0.x,a0.recs,a0.notes⟩:Qn) a1.M).bind fun v1=>
 Yy (Xl.step a0 a1 v1) (.l1 a1.Time 0)
inductive Xd.S where
 | l1 (Qa6:Int) (Yl:Int) (Xy:Int)
def Xd.j2 (Xy:Int) (Qvx:Int) (Qvy:Int):Option (Xd.S ⊕ (Int × Int)):=
 some (.inl (.l1 Qvx Qvy (IntKind.wrap .i64 (Xy+1))))
def Xd.j1 (a0:Qn) (Qa6:Int) (Yl:Int) (Xy:Int) (Qsb:Bool):Option (Xd.S ⊕ (Int × Int)):=
 if Qsb=true then
  some (.inl (.l1 Qa6 Yl (IntKind.wrap .i64 (Xy+1))))
 else
  (Xl (⟨(⟨a0.c.ID,a0.c.Keys,a0.c.Clock,a0.c.Ws,a0.c.Wn,a0.c.Held,a0.c.Base,a0.c.Log,a0.c.Known⟩:Qc),a0.x,a0.recs,a0.notes⟩:Qn) (a0.c.Held.getD Xy.toNat Qh.z)).bind fun v2=>
  if v2.2=true then
   Xd.j2 Xy Xy v2.1
  else
   Xd.j2 Xy Qa6 Yl
def Xd.l1 (a0:Qn) (Qa6:Int) (Yl:Int) (Xy:Int):Option (Xd.S ⊕ (Int × Int)):=
 if Xy < (a0.c.Held.length:Int) then
  if 0<=Xy/\Xy < (a0.c.Held.length:Int) then
   if ((a0.c.Held.getD Xy.toNat Qh.z).Qg5)=true then
    Xd.j1 a0 Qa6 Yl Xy true
   else
    if Qa6>=0 then
     if 0<=Qa6/\Qa6 < (a0.c.Held.length:Int) then
      (Qc6 (Qbv (a0.c.Held.getD Qa6.toNat Qh.z)) (Qbv (a0.c.Held.getD Xy.toNat Qh.z))).bind fun v1=>
      Xd.j1 a0 Qa6 Yl Xy (decide (v1 < 0))
     else none
    else
     Xd.j1 a0 Qa6 Yl Xy false
  else none
 else
  some (.inr (Qa6,Yl))
def Xd.step (a0:Qn):Xd.S->Option (Xd.S ⊕ (Int × Int))
 | .l1 Qa6 Yl Xy=>Xd.l1 a0 Qa6 Yl Xy
def Xd (a0:Qn):Option (Int × Int):=
 Yy (Xd.step a0) (.l1 (-1) 0 0)
inductive Yd.S where
 | l1 (Jr:Int) (Js:Int) (Jt:Int) (Ju:Int) (Jv:Bool) (Jw:Bool) (Jy:List Qa) (Jb:Int) (Jc:Int) (Jd:List Qi) (Qs:List Qh) (Yh:List Qe) (Yc:List Qg) (Qfb:List Wu) (Qae:List Xg)
def Yd.l1 (Jr:Int) (Js:Int) (Jt:Int) (Ju:Int) (Jv:Bool) (Jw:Bool) (Jy:List Qa) (Jb:Int) (Jc:Int) (Jd:List Qi) (Qs:List Qh) (Yh:List Qe) (Yc:List Qg) (Qfb:List Wu) (Qae:List Xg):Option (Yd.S ⊕ Qn):=
 (Xd (⟨(⟨Jr,(⟨Js,Jt⟩:Qb),Ju,Jv,Jw,Qs,Jy,Yh,Yc⟩:Qc),(⟨Jb,Jc,Jd⟩:Yi),Qfb,Qae⟩:Qn)).bind fun v1=>
 if v1.1 < 0 then
  some (.inr (⟨(⟨Jr,(⟨Js,Jt⟩:Qb),Ju,Jv,Jw,Qs,Jy,Yh,Yc⟩:Qc),(⟨Jb,Jc,Jd⟩:Yi),Qfb,Qae⟩:Qn))
 else
  if 0<=v1.1/\v1.1 < (Qs.length:Int) then
   (Qo (⟨(⟨Jr,(⟨Js,Jt⟩:Qb),Ju,Jv,Jw,Qs,Jy,Yh,Yc⟩:Qc),(⟨Jb,Jc,Jd⟩:Yi),Qfb,Qae⟩:Qn) (⟨2,0,((Qs.getD v1.1.toNat Qh.z).M).Client,((Qs.getD v1.1.toNat Qh.z).M).Seq,v1.2,(⟨0,0,0,[],(⟨0,0⟩:Qb),0⟩:Qp),(⟨0,(⟨0,0⟩:Qb),0,false,false,[],[],[],[]⟩:Qc),(⟨0,0,[]⟩:Yi)⟩:Wu)).bind fun v2=>
   if v2.1=0 then
    some (.inl (.l1 v2.2.c.ID v2.2.c.Keys.Lo v2.2.c.Keys.Hi v2.2.c.Clock v2.2.c.Ws v2.2.c.Wn v2.2.c.Base v2.2.x.Qbl v2.2.x.Next v2.2.x.L v2.2.c.Held v2.2.c.Log v2.2.c.Known v2.2.recs v2.2.notes))
   else
    some (.inr (⟨(⟨v2.2.c.ID,v2.2.c.Keys,v2.2.c.Clock,v2.2.c.Ws,v2.2.c.Wn,v2.2.c.Held,v2.2.c.Base,v2.2.c.Log,v2.2.c.Known⟩:Qc),v2.2.x,v2.2.recs,v2.2.notes⟩:Qn))
  else none
def Yd.step:Yd.S->Option (Yd.S ⊕ Qn)
 | .l1 Jr Js Jt Ju Jv Jw Jy Jb Jc Jd Qs Yh Yc Qfb Qae=>Yd.l1 Jr Js Jt Ju Jv Jw Jy Jb Jc Jd Qs Yh Yc Qfb Qae
def Yd (a0:Qn):Option Qn:=
 Yy (Yd.step) (.l1 a0.c.ID a0.c.Keys.Lo a0.c.Keys.Hi a0.c.Clock a0.c.Ws a0.c.Wn a0.c.Base a0.x.Qbl a0.x.Next a0.x.L a0.c.Held a0.c.Log a0.c.Known a0.recs a0.notes)
def Zc.j1 (a0:Qn) (a1:Qed) (Qr1:Bool):Option (Int × Qn):=
 if Qr1=true then
  none
 else
  (Qdl (⟨a0.c.ID,a0.c.Keys,a0.c.Clock,a0.c.Ws,a0.c.Wn,a0.c.Held,a0.c.Base,a0.c.Log,a0.c.Known⟩:Qc) a1.M.Client a1.M.Seq).bind fun v2=>
  if v2.2=true then
   none
  else
   (Qaz (⟨a0.c.ID,a0.c.Keys,a0.c.Clock,a0.c.Ws,a0.c.Wn,a0.c.Held,a0.c.Base,a0.c.Log,a0.c.Known⟩:Qc) a1.M.Client a1.M.Seq).bind fun v3=>
   if v3>=0 then
    none
   else
    (Wp (⟨(⟨a0.c.ID,a0.c.Keys,a0.c.Clock,a0.c.Ws,a0.c.Wn,a0.c.Held,a0.c.Base,a0.c.Log,a0.c.Known⟩:Qc),a0.x,a0.recs,a0.notes⟩:Qn) a1.M (Qb6 a0.c.Clock a1.Time) true).bind fun v4=>
    if v4.1=0 then
     (Yd (⟨(⟨v4.2.c.ID,v4.2.c.Keys,v4.2.c.Clock,v4.2.c.Ws,v4.2.c.Wn,v4.2.c.Held,v4.2.c.Base,v4.2.c.Log,v4.2.c.Known⟩:Qc),v4.2.x,v4.2.recs,v4.2.notes⟩:Qn)).bind fun v5=>
     some (0,(⟨(⟨v5.c.ID,v5.c.Keys,v5.c.Clock,v5.c.Ws,v5.c.Wn,v5.c.Held,v5.c.Base,v5.c.Log,v5.c.Known⟩:Qc),v5.x,v5.recs,v5.notes⟩:Qn))
    else
     none
def Zc (a0:Qn) (a1:Qed):Option (Int × Qn):=
 (Qbi a1.M).bind fun v1=>
 if v1=true then
  Zc.j1 a0 a1 (!(Qdc a1.Time))
 else
  Zc.j1 a0 a1 true
def Qd2 (a0:Qn) (a1:Qed):Option (Int × Qn):=
 if a1.Kind=1 then
  (Zc (⟨(⟨a0.c.ID,a0.c.Keys,a0.c.Clock,a0.c.Ws,a0.c.Wn,a0.c.Held,a0.c.Base,a0.c.Log,a0.c.Known⟩:Qc),a0.x,a0.recs,a0.notes⟩:Qn) a1).bind fun v1=>
  some (v1.1,(⟨(⟨v1.2.c.ID,v1.2.c.Keys,v1.2.c.Clock,v1.2.c.Ws,v1.2.c.Wn,v1.2.c.Held,v1.2.c.Base,v1.2.c.Log,v1.2.c.Known⟩:Qc),v1.2.x,v1.2.recs,v1.2.notes⟩:Qn))
 else
  none
def Zm.j1 (a0:Qc) (a1:Yi) (a2:Qed) (Qr0:Bool):Option Qei:=
 if Qr0=true then
  none
 else
  (Zi a0).bind fun v3=>
  (Qd2 (⟨v3,a1,([]:List Wu),([]:List Xg)⟩:Qn) a2).bind fun v4=>
  if v4.1=0 then
   some (⟨v4.2.c,v4.2.recs,v4.2.notes,0⟩:Qei)
  else
   none
def Zm (a0:Qc) (a1:Yi) (a2:Qed):Option Qei:=
 (Jg a0).bind fun v1=>
 if v1=true then
  (Yo a1).bind fun v2=>
  Zm.j1 a0 a1 a2 (!v2)
 else
  Zm.j1 a0 a1 a2 true
inductive Wj.S where
 | l1 (Wq:Int)
def Wj.j2 (Wq:Int) (Qsg:Bool):Option (Wj.S ⊕ (Bool × (List Qc))):=
 if Qsg=true then
  some (.inl (.l1 (IntKind.wrap .i64 (Wq+1))))
 else
  none
def Wj.j1 (a0:List Qc) (v2:List Int) (v3:Qei) (Wq:Int) (Qsd:Bool):Option (Wj.S ⊕ (Bool × (List Qc))):=
 if Qsd=true then
  if 0<=Wq/\Wq < (v3.Notes.length:Int) then
   if ((v3.Notes.getD Wq.toNat Xg.z).Kind)=2 then
    Wj.j2 Wq false
   else
    Wj.j2 Wq (((v3.Notes.getD Wq.toNat Xg.z).Kind) != 3)
  else none
 else
  some (.inr ((v3.E == 0),a0.set ((IntKind.wrap .i64 ((v2.getD 0 0) - 1)).toNat) v3.C))
def Wj.l1 (a0:List Qc) (v2:List Int) (v3:Qei) (Wq:Int):Option (Wj.S ⊕ (Bool × (List Qc))):=
 if Wq < (v3.Notes.length:Int) then
  Wj.j1 a0 v2 v3 Wq (decide (Wq < 300))
 else
  Wj.j1 a0 v2 v3 Wq false
def Wj.step (a0:List Qc) (v2:List Int) (v3:Qei):Wj.S->Option (Wj.S ⊕ (Bool × (List Qc)))
 | .l1 Wq=>Wj.l1 a0 v2 v3 Wq
def Wj (a0:List Qc) (a1:Yi) (a2:Qp):Option (Bool × (List Qc)):=
 (Qaj a2).bind fun v1=>
 (Zv a1 v1).bind fun v2=>
 if (v2.length:Int)=0 then
  none
 else
  if (0:Int)<=0/\0 < (v2.length:Int) then
   if 0<=(IntKind.wrap .i64 ((v2.getD 0 0) - 1))/\(IntKind.wrap .i64 ((v2.getD 0 0) - 1)) < (a0.length:Int) then
    (Zm (a0.getD ((IntKind.wrap .i64 ((v2.getD 0 0) - 1)).toNat) Qc.z) a1 (⟨1,0,0,0,0,false,a2⟩:Qed)).bind fun v3=>
    Yy (Wj.step a0 v2 v3) (.l1 0)
   else none
  else none
inductive Zh.S where
 | l1 (Qa6:Int) (Qm:List Qx)
def Zh.l1 (a0:List Qa) (Qa6:Int) (Qm:List Qx):Option (Zh.S ⊕ (List Qx)):=
 if Qa6 < (a0.length:Int) then
  if 0<=Qa6/\Qa6 < (a0.length:Int) then
   if (Qm.length+1) * 16<=140737488355328 then
    some (.inl (.l1 (IntKind.wrap .i64 (Qa6+1)) (Qm ++ [(⟨(a0.getD Qa6.toNat Qa.z).Key,(a0.getD Qa6.toNat Qa.z).Val⟩:Qx)])))
   else none
  else none
 else
  some (.inr Qm)
def Zh.step (a0:List Qa):Zh.S->Option (Zh.S ⊕ (List Qx))
 | .l1 Qa6 Qm=>Zh.l1 a0 Qa6 Qm
def Zh (a0:List Qa):Option (List Qx):=
 Yy (Zh.step a0) (.l1 0 ([]:List Qx))
inductive Jn.S where
 | l1 (Yl:Int)
def Jn.l1 (a0:List Qx) (a1:List Qx) (Yl:Int):Option (Jn.S ⊕ Bool):=
 if Yl < (a0.length:Int) then
  if 0<=Yl/\Yl < (a0.length:Int) then
   if 0<=Yl/\Yl < (a1.length:Int) then
    if ((a0.getD Yl.toNat Qx.z).Key)=((a1.getD Yl.toNat Qx.z).Key) then
     if ((a0.getD Yl.toNat Qx.z).Val)=((a1.getD Yl.toNat Qx.z).Val) then
      some (.inl (.l1 (IntKind.wrap .i64 (Yl+1))))
     else
      some (.inr false)
    else
     if ((a0.getD Yl.toNat Qx.z).Val)=((a1.getD Yl.toNat Qx.z).Val) then
      some (.inr false)
     else
      some (.inr false)
   else none
  else none
 else
  some (.inr true)
def Jn.step (a0:List Qx) (a1:List Qx):Jn.S->Option (Jn.S ⊕ Bool)
 | .l1 Yl=>Jn.l1 a0 a1 Yl
def Jn (a0:List Qx) (a1:List Qx):Option Bool:=
 if (a0.length:Int)=(a1.length:Int) then
  Yy (Jn.step a0 a1) (.l1 0)
 else
  some false
inductive Qf.S where
 | l1 (Xz:Int) (Qm:List Qc)
 | l2 (v4:(List Qa) × Bool) (Xc:Int) (Qbb:Int) (Qbc:Int) (Qbd:Int) (Qau:Int) (Qa7:List Qh) (Qa8:List Qa) (Qa9:List Qe) (Qah:List Qg) (Xe:List Qc)
def Qf.j2 (Qm:List Qc) (v3:(List Qc) × Int) (Qsh:Bool):Option (Qf.S ⊕ Bool):=
 if Qsh=true then
  none
 else
  (Jh v3.1).bind fun v4=>
  some (.inl (.l2 v4 0 ((Qm.getD 0 Qc.z).ID) (((Qm.getD 0 Qc.z).Keys).Lo) (((Qm.getD 0 Qc.z).Keys).Hi) ((Qm.getD 0 Qc.z).Clock) ((Qm.getD 0 Qc.z).Held) ((Qm.getD 0 Qc.z).Base) ((Qm.getD 0 Qc.z).Log) ((Qm.getD 0 Qc.z).Known) v3.1))
def Qf.j1 (a0:List Qp) (a1:Int) (Xz:Int) (Qm:List Qc) (Qi4:Bool):Option (Qf.S ⊕ Bool):=
 if Qi4=true then
  if 0<=Xz/\Xz < (a0.length:Int) then
   if (((a0.getD Xz.toNat Qp.z).Pairs).length:Int)<=8 then
    (Qbi (⟨1,IntKind.wrap .i64 (Xz+1),(a0.getD Xz.toNat Qp.z).Kind,(a0.getD Xz.toNat Qp.z).Pairs,((a0.getD Xz.toNat Qp.z).Over),(a0.getD Xz.toNat Qp.z).Old⟩:Qp)).bind fun v5=>
    if v5=true then
     (Qf6).bind fun v6=>
     (Wj Qm v6 (⟨1,IntKind.wrap .i64 (Xz+1),(a0.getD Xz.toNat Qp.z).Kind,(a0.getD Xz.toNat Qp.z).Pairs,((a0.getD Xz.toNat Qp.z).Over),(a0.getD Xz.toNat Qp.z).Old⟩:Qp)).bind fun v7=>
     if v7.2.length=Qm.length then
      if v7.1=true then
       some (.inl (.l1 (IntKind.wrap .i64 (Xz+1)) v7.2))
      else
       none
     else none
    else
     some (.inl (.l1 (IntKind.wrap .i64 (Xz+1)) Qm))
   else
    some (.inl (.l1 (IntKind.wrap .i64 (Xz+1)) Qm))
  else none
 else
  if (0:Int)<=0/\0 < (Qm.length:Int) then
   (Qhg a1 4095).bind fun v2=>
   (Wl ([(⟨(Qm.getD 0 Qc.z).ID,((Qm.getD 0 Qc.z).Keys),(Qm.getD 0 Qc.z).Clock,true,true,(Qm.getD 0 Qc.z).Held,(Qm.getD 0 Qc.z).Base,(Qm.getD 0 Qc.z).Log,(Qm.getD 0 Qc.z).Known⟩:Qc)]:List Qc) ([(⟨2,(⟨0,IntKind.wrap .i64 (1+v2)⟩:Qb),0⟩:Qi),(⟨3,(⟨IntKind.wrap .i64 (1+v2),4096⟩:Qb),0⟩:Qi)]:List Qi)).bind fun v3=>
   if v3.2=0 then
    Qf.j2 Qm v3 ((v3.1.length:Int) != 2)
   else
    Qf.j2 Qm v3 true
  else none
def Qf.j4 (Qv0:Bool):Option (Qf.S ⊕ Bool):=
 some (.inr Qv0)
def Qf.j3 (Qbb:Int) (Qbc:Int) (Qbd:Int) (Qau:Int) (Qa7:List Qh) (Qa8:List Qa) (Qa9:List Qe) (Qah:List Qg) (v4:(List Qa) × Bool) (v8:(List Qc) × Int) (Qom:Bool):Option (Qf.S ⊕ Bool):=
 if Qom=true then
  none
 else
  (Qdq (⟨Qbb,(⟨Qbc,Qbd⟩:Qb),Qau,true,true,Qa7,Qa8,Qa9,Qah⟩:Qc)).bind fun v9=>
  (Zh v9).bind fun v10=>
  (Zh v4.1).bind fun v11=>
  (Jn v11 v10).bind fun v12=>
  if v12=true then
   if (0:Int)<=0/\0 < (v8.1.length:Int) then
    (Qdq (v8.1.getD 0 Qc.z)).bind fun v13=>
    (Zh v13).bind fun v14=>
    (Jn v14 v10).bind fun v15=>
    Qf.j4 v15
   else none
  else
   Qf.j4 false
def Qf.l1 (a0:List Qp) (a1:Int) (Xz:Int) (Qm:List Qc):Option (Qf.S ⊕ Bool):=
 if Xz < (a0.length:Int) then
  Qf.j1 a0 a1 Xz Qm (decide (Xz < 20))
 else
  Qf.j1 a0 a1 Xz Qm false
def Qf.l2 (v4:(List Qa) × Bool) (Xc:Int) (Qbb:Int) (Qbc:Int) (Qbd:Int) (Qau:Int) (Qa7:List Qh) (Qa8:List Qa) (Qa9:List Qe) (Qah:List Qg) (Xe:List Qc):Option (Qf.S ⊕ Bool):=
 if Xc < 2 then
  if 0<=Xc/\Xc < (Xe.length:Int) then
   if 0<=Xc/\Xc < ((Xe.set Xc.toNat (⟨(Xe.getD Xc.toNat Qc.z).ID,((Xe.getD Xc.toNat Qc.z).Keys),(Xe.getD Xc.toNat Qc.z).Clock,true,(Xe.getD Xc.toNat Qc.z).Wn,(Xe.getD Xc.toNat Qc.z).Held,(Xe.getD Xc.toNat Qc.z).Base,(Xe.getD Xc.toNat Qc.z).Log,(Xe.getD Xc.toNat Qc.z).Known⟩:Qc)).length:Int) then
    some (.inl (.l2 v4 (IntKind.wrap .i64 (Xc+1)) Qbb Qbc Qbd Qau Qa7 Qa8 Qa9 Qah ((Xe.set Xc.toNat (⟨(Xe.getD Xc.toNat Qc.z).ID,((Xe.getD Xc.toNat Qc.z).Keys),(Xe.getD Xc.toNat Qc.z).Clock,true,(Xe.getD Xc.toNat Qc.z).Wn,(Xe.getD Xc.toNat Qc.z).Held,(Xe.getD Xc.toNat Qc.z).Base,(Xe.getD Xc.toNat Qc.z).Log,(Xe.getD Xc.toNat Qc.z).Known⟩:Qc)).set Xc.toNat (⟨((Xe.set Xc.toNat (⟨(Xe.getD Xc.toNat Qc.z).ID,((Xe.getD Xc.toNat Qc.z).Keys),(Xe.getD Xc.toNat Qc.z).Clock,true,(Xe.getD Xc.toNat Qc.z).Wn,(Xe.getD Xc.toNat Qc.z).Held,(Xe.getD Xc.toNat Qc.z).Base,(Xe.getD Xc.toNat Qc.z).Log,(Xe.getD Xc.toNat Qc.z).Known⟩:Qc)).getD Xc.toNat Qc.z).ID,(((Xe.set Xc.toNat (⟨(Xe.getD Xc.toNat Qc.z).ID,((Xe.getD Xc.toNat Qc.z).Keys),(Xe.getD Xc.toNat Qc.z).Clock,true,(Xe.getD Xc.toNat Qc.z).Wn,(Xe.getD Xc.toNat Qc.z).Held,(Xe.getD Xc.toNat Qc.z).Base,(Xe.getD Xc.toNat Qc.z).Log,(Xe.getD Xc.toNat Qc.z).Known⟩:Qc)).getD Xc.toNat Qc.z).Keys),((Xe.set Xc.toNat (⟨(Xe.getD Xc.toNat Qc.z).ID,((Xe.getD Xc.toNat Qc.z).Keys),(Xe.getD Xc.toNat Qc.z).Clock,true,(Xe.getD Xc.toNat Qc.z).Wn,(Xe.getD Xc.toNat Qc.z).Held,(Xe.getD Xc.toNat Qc.z).Base,(Xe.getD Xc.toNat Qc.z).Log,(Xe.getD Xc.toNat Qc.z).Known⟩:Qc)).getD Xc.toNat Qc.z).Clock,((Xe.set Xc.toNat (⟨(Xe.getD Xc.toNat Qc.z).ID,((Xe.getD Xc.toNat Qc.z).Keys),(Xe.getD Xc.toNat Qc.z).Clock,true,(Xe.getD Xc.toNat Qc.z).Wn,(Xe.getD Xc.toNat Qc.z).Held,(Xe.getD Xc.toNat Qc.z).Base,(Xe.getD Xc.toNat Qc.z).Log,(Xe.getD Xc.toNat Qc.z).Known⟩:Qc)).getD Xc.toNat Qc.z).Ws,true,((Xe.set Xc.toNat (⟨(Xe.getD Xc.toNat Qc.z).ID,((Xe.getD Xc.toNat Qc.z).Keys),(Xe.getD Xc.toNat Qc.z).Clock,true,(Xe.getD Xc.toNat Qc.z).Wn,(Xe.getD Xc.toNat Qc.z).Held,(Xe.getD Xc.toNat Qc.z).Base,(Xe.getD Xc.toNat Qc.z).Log,(Xe.getD Xc.toNat Qc.z).Known⟩:Qc)).getD Xc.toNat Qc.z).Held,((Xe.set Xc.toNat (⟨(Xe.getD Xc.toNat Qc.z).ID,((Xe.getD Xc.toNat Qc.z).Keys),(Xe.getD Xc.toNat Qc.z).Clock,true,(Xe.getD Xc.toNat Qc.z).Wn,(Xe.getD Xc.toNat Qc.z).Held,(Xe.getD Xc.toNat Qc.z).Base,(Xe.getD Xc.toNat Qc.z).Log,(Xe.getD Xc.toNat Qc.z).Known⟩:Qc)).getD Xc.toNat Qc.z).Base,((Xe.set Xc.toNat (⟨(Xe.getD Xc.toNat Qc.z).ID,((Xe.getD Xc.toNat Qc.z).Keys),(Xe.getD Xc.toNat Qc.z).Clock,true,(Xe.getD Xc.toNat Qc.z).Wn,(Xe.getD Xc.toNat Qc.z).Held,(Xe.getD Xc.toNat Qc.z).Base,(Xe.getD Xc.toNat Qc.z).Log,(Xe.getD Xc.toNat Qc.z).Known⟩:Qc)).getD Xc.toNat Qc.z).Log,((Xe.set Xc.toNat (⟨(Xe.getD Xc.toNat Qc.z).ID,((Xe.getD Xc.toNat Qc.z).Keys),(Xe.getD Xc.toNat Qc.z).Clock,true,(Xe.getD Xc.toNat Qc.z).Wn,(Xe.getD Xc.toNat Qc.z).Held,(Xe.getD Xc.toNat Qc.z).Base,(Xe.getD Xc.toNat Qc.z).Log,(Xe.getD Xc.toNat Qc.z).Known⟩:Qc)).getD Xc.toNat Qc.z).Known⟩:Qc))))
   else none
  else none
 else
  (Wl Xe ([(⟨4,(⟨0,4096⟩:Qb),0⟩:Qi)]:List Qi)).bind fun v8=>
  if v4.2=true then
   if v8.2=0 then
    if (v8.1.length:Int)=1 then
     if (0:Int)<=0/\0 < (v8.1.length:Int) then
      if (((v8.1.getD 0 Qc.z).Known).length:Int)=(Qah.length:Int) then
       Qf.j3 Qbb Qbc Qbd Qau Qa7 Qa8 Qa9 Qah v4 v8 (((v8.1.getD 0 Qc.z).Clock) != Qau)
      else
       Qf.j3 Qbb Qbc Qbd Qau Qa7 Qa8 Qa9 Qah v4 v8 true
     else none
    else
     Qf.j3 Qbb Qbc Qbd Qau Qa7 Qa8 Qa9 Qah v4 v8 true
   else
    Qf.j3 Qbb Qbc Qbd Qau Qa7 Qa8 Qa9 Qah v4 v8 true
  else
   Qf.j3 Qbb Qbc Qbd Qau Qa7 Qa8 Qa9 Qah v4 v8 true
def Qf.step (a0:List Qp) (a1:Int):Qf.S->Option (Qf.S ⊕ Bool)
 | .l1 Xz Qm=>Qf.l1 a0 a1 Xz Qm
 | .l2 v4 Xc Qbb Qbc Qbd Qau Qa7 Qa8 Qa9 Qah Xe=>Qf.l2 v4 Xc Qbb Qbc Qbd Qau Qa7 Qa8 Qa9 Qah Xe
def Qf (a0:List Qp) (a1:Int):Option Bool:=
 bnd (Qeu) fun (v1:Qc)=>
 if Qnk=true then
  Yy (Qf.step a0 a1) (.l1 0 ([v1]:List Qc))
 else
  none
end
end Go.SyP
