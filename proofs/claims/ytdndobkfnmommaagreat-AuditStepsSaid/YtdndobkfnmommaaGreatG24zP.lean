/- Plain functions, printed by gen.py. -/
import Derived.Test.YtdndobkfnmommaaGreatSyArr
import Derived.Test.YtdndobkfnmommaaGreatSyPast
set_option linter.unusedVariables false
namespace Go.SyP
open Go Go.Sy
noncomputable section
structure Qb where
 Lo:Int
 Hi:Int
def Qb.z:Qb:=⟨0,0⟩
structure Qa where
 Key:Int
 Val:Int
def Qa.z:Qa:=⟨0,0⟩
structure Qn where
 Client:Int
 Seq:Int
 Kind:Int
 Pairs:List Qa
 Over:Qb
 Old:Int
def Qn.z:Qn:=⟨0,0,0,[],Qb.z,0⟩
structure Qlc where
 Qy6:Int
 Time:Int
def Qlc.z:Qlc:=⟨0,0⟩
structure Qg4 where
 M:Qn
 Time:Int
 Qy2:Bool
 Qm9:List Qlc
def Qg4.z:Qg4:=⟨Qn.z,0,false,[]⟩
structure Qe where
 M:Qn
 Time:Int
 Qai:Bool
def Qe.z:Qe:=⟨Qn.z,0,false⟩
structure Qhs where
 Client:Int
 Seq:Int
 Time:Int
 Qai:Bool
def Qhs.z:Qhs:=⟨0,0,0,false⟩
structure Qjm where
 ID:Int
 Keys:Qb
 Clock:Int
 Qvu:Bool
 Qvx:Bool
 Held:List Qg4
 Base:List Qa
 Log:List Qe
 Qkn:List Qhs
structure Qd where
 Key:Int
 Val:Int
def Qd.z:Qd:=⟨0,0⟩
structure Qf where
 Lo:Int
 Hi:Int
def Qf.z:Qf:=⟨0,0⟩
structure Xd where
 Client:Int
 Seq:Int
 Kind:Int
 Pairs:List Qd
 Over:Qf
 Old:Int
def Xd.z:Xd:=⟨0,0,0,[],Qf.z,0⟩
structure Qbs where
 Qy6:Int
 Time:Int
def Qbs.z:Qbs:=⟨0,0⟩
structure Zz where
 M:Xd
 Time:Int
 Qy2:Bool
 Qm9:List Qbs
def Zz.z:Zz:=⟨Xd.z,0,false,[]⟩
structure Qg where
 M:Xd
 Time:Int
 Qai:Bool
def Qg.z:Qg:=⟨Xd.z,0,false⟩
structure Ju where
 Client:Int
 Seq:Int
 Time:Int
 Qai:Bool
def Ju.z:Ju:=⟨0,0,0,false⟩
structure Qam where
 ID:Int
 Keys:Qf
 Clock:Int
 Qvu:Bool
 Qvx:Bool
 Held:List Zz
 Base:List Qd
 Log:List Qg
 Qkn:List Ju
structure Qbf where
 Time:Int
 Client:Int
 Seq:Int
structure Ze where
 Val:Int
 Some:Bool
def Ze.z:Ze:=⟨0,false⟩
structure Wn where
 Kind:Int
 Client:Int
 M:Qn
 Key:Int
 Cell:Ze
 Mark:Int
def Wn.z:Wn:=⟨0,0,Qn.z,0,Ze.z,0⟩
structure Qf5 where
 l:List Qn
 mark:Int
structure Xe where
 E:Qe
 Was:Ze
 Is:Ze
def Xe.z:Xe:=⟨Qe.z,Ze.z,Ze.z⟩
structure Qbk where
 Time:Int
 Client:Int
 Seq:Int
structure Xb where
 Val:Int
 Some:Bool
def Xb.z:Xb:=⟨0,false⟩
structure Xf where
 E:Qg
 Was:Xb
 Is:Xb
def Xf.z:Xf:=⟨Qg.z,Xb.z,Xb.z⟩
structure Yt where
 At:Int
 Why:Int
def Yt.z:Yt:=⟨0,0⟩
structure Qcy where
 i0:Int
 i1:Int
inductive Zx.S where
 | l1 (Xn:Int) (Qi:List Qd)
def Zx.l1 (a0:List Qa) (Xn:Int) (Qi:List Qd):Option (Zx.S ⊕ (List Qd)):=
 if Xn < (a0.length:Int) then
  if 0<=Xn/\Xn < (a0.length:Int) then
   if (Qi.length+1) * 16<=140737488355328 then
    some (.inl (.l1 (IntKind.wrap .i64 (Xn+1)) (Qi ++ [(⟨(a0.getD Xn.toNat Qa.z).Key,(a0.getD Xn.toNat Qa.z).Val⟩:Qd)])))
   else none
  else none
 else
  some (.inr Qi)
def Zx.step (a0:List Qa):Zx.S->Option (Zx.S ⊕ (List Qd))
 | .l1 Xn Qi=>Zx.l1 a0 Xn Qi
def Zx (a0:List Qa):Option (List Qd):=
 Xx (Zx.step a0) (.l1 0 ([]:List Qd))
inductive Xg.S where
 | l1 (Xn:Int) (Yr:List Qd)
def Xg.l1 (a0:Qn) (Xn:Int) (Yr:List Qd):Option (Xg.S ⊕ Xd):=
 if Xn < (a0.Pairs.length:Int) then
  if 0<=Xn/\Xn < (a0.Pairs.length:Int) then
   if (Yr.length+1) * 16<=140737488355328 then
    some (.inl (.l1 (IntKind.wrap .i64 (Xn+1)) (Yr ++ [(⟨(a0.Pairs.getD Xn.toNat Qa.z).Key,(a0.Pairs.getD Xn.toNat Qa.z).Val⟩:Qd)])))
   else none
  else none
 else
  some (.inr (⟨a0.Client,a0.Seq,a0.Kind,Yr,(⟨a0.Over.Lo,a0.Over.Hi⟩:Qf),a0.Old⟩:Xd))
def Xg.step (a0:Qn):Xg.S->Option (Xg.S ⊕ Xd)
 | .l1 Xn Yr=>Xg.l1 a0 Xn Yr
def Xg (a0:Qn):Option Xd:=
 Xx (Xg.step a0) (.l1 0 ([]:List Qd))
inductive Qbl.S where
 | l1 (Xn:Int) (Yr:List Zz)
 | l2 (Yp:Int) (Qar:List Zz) (Qp4:List Qg)
 | l3 (v2:Xd) (Qlr:Int) (Qb5:Int) (Qp5:List Zz) (Qm3:Int) (Qm4:Bool) (Qp6:List Qbs)
 | l4 (Qls:Int) (Qs5:List Zz) (Qs6:List Qg) (Qp7:List Ju)
def Qbl.l1 (a0:Qjm) (Xn:Int) (Yr:List Zz):Option (Qbl.S ⊕ Qam):=
 if Xn < (a0.Held.length:Int) then
  if 0<=Xn/\Xn < (a0.Held.length:Int) then
   (Xg ((a0.Held.getD Xn.toNat Qg4.z).M)).bind fun v2=>
   some (.inl (.l3 v2 Xn 0 Yr ((a0.Held.getD Xn.toNat Qg4.z).Time) ((a0.Held.getD Xn.toNat Qg4.z).Qy2) ([]:List Qbs)))
  else none
 else
  some (.inl (.l2 0 Yr ([]:List Qg)))
def Qbl.l2 (a0:Qjm) (Yp:Int) (Qar:List Zz) (Qp4:List Qg):Option (Qbl.S ⊕ Qam):=
 if Yp < (a0.Log.length:Int) then
  if 0<=Yp/\Yp < (a0.Log.length:Int) then
   (Xg ((a0.Log.getD Yp.toNat Qe.z).M)).bind fun v3=>
   if (Qp4.length+1) * 88<=140737488355328 then
    some (.inl (.l2 (IntKind.wrap .i64 (Yp+1)) Qar (Qp4 ++ [(⟨v3,(a0.Log.getD Yp.toNat Qe.z).Time,(a0.Log.getD Yp.toNat Qe.z).Qai⟩:Qg)])))
   else none
  else none
 else
  some (.inl (.l4 0 Qar Qp4 ([]:List Ju)))
def Qbl.l3 (a0:Qjm) (v2:Xd) (Qlr:Int) (Qb5:Int) (Qp5:List Zz) (Qm3:Int) (Qm4:Bool) (Qp6:List Qbs):Option (Qbl.S ⊕ Qam):=
 if 0<=Qlr/\Qlr < (a0.Held.length:Int) then
  if Qb5 < (((a0.Held.getD Qlr.toNat Qg4.z).Qm9).length:Int) then
   if 0<=Qb5/\Qb5 < (((a0.Held.getD Qlr.toNat Qg4.z).Qm9).length:Int) then
    if (Qp6.length+1) * 16<=140737488355328 then
     some (.inl (.l3 v2 Qlr (IntKind.wrap .i64 (Qb5+1)) Qp5 Qm3 Qm4 (Qp6 ++ [(⟨(((a0.Held.getD Qlr.toNat Qg4.z).Qm9).getD Qb5.toNat Qlc.z).Qy6,(((a0.Held.getD Qlr.toNat Qg4.z).Qm9).getD Qb5.toNat Qlc.z).Time⟩:Qbs)])))
    else none
   else none
  else
   if (Qp5.length+1) * 112<=140737488355328 then
    some (.inl (.l1 (IntKind.wrap .i64 (Qlr+1)) (Qp5 ++ [(⟨v2,Qm3,Qm4,Qp6⟩:Zz)])))
   else none
 else none
def Qbl.l4 (a0:Qjm) (v1:List Qd) (Qls:Int) (Qs5:List Zz) (Qs6:List Qg) (Qp7:List Ju):Option (Qbl.S ⊕ Qam):=
 if Qls < (a0.Qkn.length:Int) then
  if 0<=Qls/\Qls < (a0.Qkn.length:Int) then
   if (Qp7.length+1) * 32<=140737488355328 then
    some (.inl (.l4 (IntKind.wrap .i64 (Qls+1)) Qs5 Qs6 (Qp7 ++ [(⟨(a0.Qkn.getD Qls.toNat Qhs.z).Client,(a0.Qkn.getD Qls.toNat Qhs.z).Seq,(a0.Qkn.getD Qls.toNat Qhs.z).Time,(a0.Qkn.getD Qls.toNat Qhs.z).Qai⟩:Ju)])))
   else none
  else none
 else
  some (.inr (⟨a0.ID,(⟨a0.Keys.Lo,a0.Keys.Hi⟩:Qf),a0.Clock,a0.Qvu,a0.Qvx,Qs5,v1,Qs6,Qp7⟩:Qam))
def Qbl.step (a0:Qjm) (v1:List Qd):Qbl.S->Option (Qbl.S ⊕ Qam)
 | .l1 Xn Yr=>Qbl.l1 a0 Xn Yr
 | .l2 Yp Qar Qp4=>Qbl.l2 a0 Yp Qar Qp4
 | .l3 v2 Qlr Qb5 Qp5 Qm3 Qm4 Qp6=>Qbl.l3 a0 v2 Qlr Qb5 Qp5 Qm3 Qm4 Qp6
 | .l4 Qls Qs5 Qs6 Qp7=>Qbl.l4 a0 v1 Qls Qs5 Qs6 Qp7
def Qbl (a0:Qjm):Option Qam:=
 (Zx a0.Base).bind fun v1=>
 Xx (Qbl.step a0 v1) (.l1 0 ([]:List Zz))
inductive Zh.S where
 | l1 (Qy:Int)
def Zh.l1 (a0:List Qa) (p1:Qa->Option Bool) (Qy:Int):Option (Zh.S ⊕ Int):=
 if Qy < (a0.length:Int) then
  if 0<=Qy/\Qy < (a0.length:Int) then
   (p1 (a0.getD Qy.toNat Qa.z)).bind fun v1=>
   if v1=true then
    some (.inr Qy)
   else
    some (.inl (.l1 (IntKind.wrap .i64 (Qy+1))))
  else none
 else
  some (.inr (-1))
def Zh.step (a0:List Qa) (p1:Qa->Option Bool):Zh.S->Option (Zh.S ⊕ Int)
 | .l1 Qy=>Zh.l1 a0 p1 Qy
def Zh (a0:List Qa) (p1:Qa->Option Bool):Option Int:=
 Xx (Zh.step a0 p1) (.l1 0)
def Qcx (a0:List Qa) (p1:Qa->Option Bool):Option Bool:=
 (Zh a0 p1).bind fun v1=>
 some (decide (v1>=0))
def Qc2.j1 (Qbx:Bool):Bool:=
 Qbx
def Qc2 (a0:Int):Bool:=
 if a0>=(-1099511627776) then
  Qc2.j1 (decide (a0<=1099511627776))
 else
  Qc2.j1 false
def Qei.j1 (Qbx:Bool):Bool:=
 Qbx
def Qei (a0:Qa):Bool:=
 if a0.Key>=0 then
  if a0.Key < 4096 then
   Qei.j1 (Qc2 a0.Val)
  else
   Qei.j1 false
 else
  Qei.j1 false
def Qga (a0:Qa):Bool:=
 (!(Qei a0))
def Qct.j1 (Qtw:Bool):Option Bool:=
 some Qtw
def Qct (a0:Qn) (a1:Int) (a2:Int):Option Bool:=
 if (a0.Pairs.length:Int)>=a1 then
  if (a0.Pairs.length:Int)<=a2 then
   (Qcx a0.Pairs (fun z0=>some (Qga z0))).bind fun v1=>
   Qct.j1 (!v1)
  else
   Qct.j1 false
 else
  Qct.j1 false
inductive Qce.S where
 | l1 (Wi:Int)
def Qce.l1 (a0:List Qa) (Wi:Int):Option (Qce.S ⊕ Bool):=
 if Wi < (a0.length:Int) then
  if 0<=(IntKind.wrap .i64 (Wi - 1))/\(IntKind.wrap .i64 (Wi - 1)) < (a0.length:Int) then
   if 0<=Wi/\Wi < (a0.length:Int) then
    if ((a0.getD ((IntKind.wrap .i64 (Wi - 1)).toNat) Qa.z).Key)>=((a0.getD Wi.toNat Qa.z).Key) then
     some (.inr false)
    else
     some (.inl (.l1 (IntKind.wrap .i64 (Wi+1))))
   else none
  else none
 else
  some (.inr true)
def Qce.step (a0:List Qa):Qce.S->Option (Qce.S ⊕ Bool)
 | .l1 Wi=>Qce.l1 a0 Wi
def Qce (a0:List Qa):Option Bool:=
 Xx (Qce.step a0) (.l1 1)
def Qbr.j1 (Qbx:Bool):Bool:=
 Qbx
def Qbr (a0:Qb):Bool:=
 if a0.Lo>=0 then
  if a0.Lo < a0.Hi then
   Qbr.j1 (decide (a0.Hi<=4096))
  else
   Qbr.j1 false
 else
  Qbr.j1 false
def Zf.j2 (Qhe:Bool):Option Bool:=
 some Qhe
def Zf.j3 (Qty:Bool):Option Bool:=
 some Qty
def Zf.j4 (Qjz:Bool):Option Bool:=
 some Qjz
def Zf.j5 (Qj2:Bool):Option Bool:=
 some Qj2
def Zf.j1 (a0:Qn) (Qqb:Bool):Option Bool:=
 if Qqb=true then
  some false
 else
  if a0.Kind=1 then
   (Qct a0 1 8).bind fun v1=>
   if v1=true then
    (Qce a0.Pairs).bind fun v2=>
    Zf.j2 v2
   else
    Zf.j2 false
  else
   if a0.Kind=2 then
    if (a0.Pairs.length:Int)=0 then
     Zf.j3 (Qbr a0.Over)
    else
     Zf.j3 false
   else
    if a0.Kind=3 then
     (Qct a0 1 1).bind fun v3=>
     some v3
    else
     if a0.Kind=4 then
      (Qct a0 1 1).bind fun v4=>
      if v4=true then
       if (Qc2 a0.Old)=true then
        Zf.j4 true
       else
        Zf.j4 (a0.Old == 1099511627777)
      else
       Zf.j4 false
     else
      if a0.Kind=5 then
       (Qct a0 2 2).bind fun v5=>
       if v5=true then
        if (0:Int)<=0/\0 < (a0.Pairs.length:Int) then
         if (0:Int)<=1/\1 < (a0.Pairs.length:Int) then
          if ((a0.Pairs.getD 0 Qa.z).Key)=((a0.Pairs.getD 1 Qa.z).Key) then
           Zf.j5 false
          else
           if ((a0.Pairs.getD 0 Qa.z).Val)=((a0.Pairs.getD 1 Qa.z).Val) then
            Zf.j5 (decide (((a0.Pairs.getD 0 Qa.z).Val)>=0))
           else
            Zf.j5 false
         else none
        else none
       else
        Zf.j5 false
      else
       some false
def Zf (a0:Qn):Option Bool:=
 if a0.Kind=2 then
  if a0.Kind=4 then
   Zf.j1 a0 false
  else
   Zf.j1 a0 (a0.Old != 0)
 else
  if a0.Over.Lo=0 then
   if a0.Over.Hi=0 then
    if a0.Kind=4 then
     Zf.j1 a0 false
    else
     Zf.j1 a0 (a0.Old != 0)
   else
    Zf.j1 a0 true
  else
   if a0.Over.Hi=0 then
    Zf.j1 a0 true
   else
    Zf.j1 a0 true
def Qbo.j1 (Qbx:Bool):Option Bool:=
 some Qbx
def Qbo (a0:Qn):Option Bool:=
 if a0.Client>=1 then
  if a0.Client<=1048576 then
   if a0.Seq>=1 then
    if a0.Seq<=1073741824 then
     (Zf a0).bind fun v1=>
     Qbo.j1 v1
    else
     Qbo.j1 false
   else
    Qbo.j1 false
  else
   Qbo.j1 false
 else
  Qbo.j1 false
def Qix (a0:Int) (a1:Qn):Qbf:=
 (⟨a0,a1.Client,a1.Seq⟩:Qbf)
def Qdk (a0:Qe):Qbf:=
 bnd (Qix a0.Time a0.M) fun (v1:Qbf)=>
 v1
def cmp_isNaN_int (a0:Int):Bool:=
 (a0 != a0)
def Zj (a0:Int) (a1:Int):Int:=
 if (cmp_isNaN_int a0)=true then
  if (cmp_isNaN_int a1)=true then
   0
  else
   (-1)
 else
  if (cmp_isNaN_int a1)=true then
   1
  else
   if a0 < a1 then
    (-1)
   else
    if a0 > a1 then
     1
    else
     0
inductive Qax.S where
 | l1 (Qy:Int)
def Qax.l1 (a0:List Int) (Qy:Int):Option (Qax.S ⊕ Int):=
 if Qy < (a0.length:Int) then
  if 0<=Qy/\Qy < (a0.length:Int) then
   if (a0.getD Qy.toNat 0)=0 then
    some (.inl (.l1 (IntKind.wrap .i64 (Qy+1))))
   else
    some (.inr (a0.getD Qy.toNat 0))
  else none
 else
  some (.inr 0)
def Qax.step (a0:List Int):Qax.S->Option (Qax.S ⊕ Int)
 | .l1 Qy=>Qax.l1 a0 Qy
def Qax (a0:List Int):Option Int:=
 Xx (Qax.step a0) (.l1 0)
def Qc8 (a0:Qbf) (a1:Qbf):Option Int:=
 (Qax ([Zj a0.Time a1.Time,Zj a0.Client a1.Client,Zj a0.Seq a1.Seq]:List Int)).bind fun v1=>
 some v1
inductive Zn.S where
 | l1 (Qr:Int)
def Zn.j1 (Qr:Int) (Qqf:Bool):Option (Zn.S ⊕ Bool):=
 if Qqf=true then
  some (.inr false)
 else
  some (.inl (.l1 (IntKind.wrap .i64 (Qr+1))))
def Zn.l1 (a0:List Qe) (Qr:Int):Option (Zn.S ⊕ Bool):=
 if Qr < (a0.length:Int) then
  if 0<=Qr/\Qr < (a0.length:Int) then
   (Qbo ((a0.getD Qr.toNat Qe.z).M)).bind fun v1=>
   if v1=true then
    if Qr > 0 then
     if 0<=(IntKind.wrap .i64 (Qr - 1))/\(IntKind.wrap .i64 (Qr - 1)) < (a0.length:Int) then
      (Qc8 (Qdk (a0.getD ((IntKind.wrap .i64 (Qr - 1)).toNat) Qe.z)) (Qdk (a0.getD Qr.toNat Qe.z))).bind fun v2=>
      Zn.j1 Qr (decide (v2>=0))
     else none
    else
     Zn.j1 Qr false
   else
    Zn.j1 Qr true
  else none
 else
  some (.inr true)
def Zn.step (a0:List Qe):Zn.S->Option (Zn.S ⊕ Bool)
 | .l1 Qr=>Zn.l1 a0 Qr
def Zn (a0:List Qe):Option Bool:=
 Xx (Zn.step a0) (.l1 0)
inductive Zc.S where
 | l1 (Jv:Int)
def Zc.l1 (a0:List Qa) (a1:List Qa) (Jv:Int):Option (Zc.S ⊕ Bool):=
 if Jv < (a0.length:Int) then
  if 0<=Jv/\Jv < (a0.length:Int) then
   if 0<=Jv/\Jv < (a1.length:Int) then
    if ((a0.getD Jv.toNat Qa.z).Key)=((a1.getD Jv.toNat Qa.z).Key) then
     if ((a0.getD Jv.toNat Qa.z).Val)=((a1.getD Jv.toNat Qa.z).Val) then
      some (.inl (.l1 (IntKind.wrap .i64 (Jv+1))))
     else
      some (.inr false)
    else
     if ((a0.getD Jv.toNat Qa.z).Val)=((a1.getD Jv.toNat Qa.z).Val) then
      some (.inr false)
     else
      some (.inr false)
   else none
  else none
 else
  some (.inr true)
def Zc.step (a0:List Qa) (a1:List Qa):Zc.S->Option (Zc.S ⊕ Bool)
 | .l1 Jv=>Zc.l1 a0 a1 Jv
def Zc (a0:List Qa) (a1:List Qa):Option Bool:=
 if (a0.length:Int)=(a1.length:Int) then
  Xx (Zc.step a0 a1) (.l1 0)
 else
  some false
def Qcz.j1 (Qdj:Bool):Option Bool:=
 some Qdj
def Qcz (a0:Qn) (a1:Qn):Option Bool:=
 if a0.Client=a1.Client then
  if a0.Seq=a1.Seq then
   if a0.Kind=a1.Kind then
    if a0.Over.Lo=a1.Over.Lo then
     if a0.Over.Hi=a1.Over.Hi then
      if a0.Old=a1.Old then
       (Zc a0.Pairs a1.Pairs).bind fun v1=>
       Qcz.j1 v1
      else
       Qcz.j1 false
     else
      Qcz.j1 false
    else
     if a0.Over.Hi=a1.Over.Hi then
      Qcz.j1 false
     else
      Qcz.j1 false
   else
    Qcz.j1 false
  else
   Qcz.j1 false
 else
  Qcz.j1 false
def Qdq.j1 (Qbx:Bool):Bool:=
 Qbx
def Qdq (a0:Ze):Bool:=
 if a0.Some=true then
  if a0.Val>=(-1099511627776) then
   Qdq.j1 (decide (a0.Val<=1099511627776))
  else
   Qdq.j1 false
 else
  (a0.Val == 0)
def Zl.j1 (Qbx:Bool):Option Bool:=
 some Qbx
def Zl.j2 (Qhe:Bool):Option Bool:=
 some Qhe
def Zl (a0:Wn):Option Bool:=
 if a0.Kind=1 then
  (Qbo a0.M).bind fun v1=>
  if v1=true then
   if a0.M.Client=a0.Client then
    if a0.Key=0 then
     if a0.Cell.Val=0 then
      if a0.Cell.Some=true then
       Zl.j1 false
      else
       Zl.j1 (a0.Mark == 0)
     else
      if a0.Cell.Some=true then
       Zl.j1 false
      else
       Zl.j1 false
    else
     Zl.j1 false
   else
    Zl.j1 false
  else
   Zl.j1 false
 else
  if a0.Kind=2 then
   (Qcz a0.M (⟨0,0,0,[],(⟨0,0⟩:Qb),0⟩:Qn)).bind fun v2=>
   if v2=true then
    if a0.Client>=1 then
     if a0.Client<=1048576 then
      if a0.Key>=0 then
       if a0.Key < 4096 then
        if (Qdq a0.Cell)=true then
         Zl.j2 (decide (a0.Mark>=0))
        else
         Zl.j2 false
       else
        Zl.j2 false
      else
       Zl.j2 false
     else
      Zl.j2 false
    else
     Zl.j2 false
   else
    Zl.j2 false
  else
   some false
inductive Zp.S where
 | l1 (Qy:Int)
def Zp.l1 (a0:List Qe) (p1:Qe->Option Bool) (Qy:Int):Option (Zp.S ⊕ Int):=
 if Qy < (a0.length:Int) then
  if 0<=Qy/\Qy < (a0.length:Int) then
   (p1 (a0.getD Qy.toNat Qe.z)).bind fun v1=>
   if v1=true then
    some (.inr Qy)
   else
    some (.inl (.l1 (IntKind.wrap .i64 (Qy+1))))
  else none
 else
  some (.inr (-1))
def Zp.step (a0:List Qe) (p1:Qe->Option Bool):Zp.S->Option (Zp.S ⊕ Int)
 | .l1 Qy=>Zp.l1 a0 p1 Qy
def Zp (a0:List Qe) (p1:Qe->Option Bool):Option Int:=
 Xx (Zp.step a0 p1) (.l1 0)
def Qa5 (a0:List Qe) (p1:Qe->Option Bool):Option Bool:=
 (Zp a0 p1).bind fun v1=>
 some (decide (v1>=0))
def Qb1.j1 (Qdj:Bool):Bool:=
 Qdj
def Qb1 (a0:Qe) (k0:Qn) (k1:Int):Bool:=
 if a0.M.Client=k0.Client then
  if a0.M.Seq=k0.Seq then
   Qb1.j1 (decide (a0.Time<=k1))
  else
   Qb1.j1 false
 else
  Qb1.j1 false
def Qfv (a0:List Qe) (a1:Qn) (a2:Int):Option Bool:=
 (Qa5 a0 (fun z0=>some (Qb1 z0 a1 a2))).bind fun v1=>
 some v1
def Qex:List Qb:=
 ([(⟨0,4096⟩:Qb)]:List Qb)
inductive Xz.S where
 | l1 (Zo:Int) (Qi:List Qn)
def Xz.j1 (Zo:Int) (Qd3:List Qn):Option (Xz.S ⊕ (List Qn)):=
 some (.inl (.l1 (IntKind.wrap .i64 (Zo+1)) Qd3))
def Xz.l1 (a0:List Qe) (a1:Qf5) (a2:Int) (Zo:Int) (Qi:List Qn):Option (Xz.S ⊕ (List Qn)):=
 if Zo < (a1.l.length:Int) then
  if 0<=Zo/\Zo < (a1.l.length:Int) then
   (Qfv a0 (a1.l.getD Zo.toNat Qn.z) a2).bind fun v1=>
   if v1=true then
    Xz.j1 Zo Qi
   else
    if (Qi.length+1) * 72<=140737488355328 then
     Xz.j1 Zo (Qi ++ [(a1.l.getD Zo.toNat Qn.z)])
    else none
  else none
 else
  some (.inr Qi)
def Xz.step (a0:List Qe) (a1:Qf5) (a2:Int):Xz.S->Option (Xz.S ⊕ (List Qn))
 | .l1 Zo Qi=>Xz.l1 a0 a1 a2 Zo Qi
def Xz (a0:List Qe) (a1:Qf5) (a2:Int):Option (List Qn):=
 Xx (Xz.step a0 a1 a2) (.l1 0 ([]:List Qn))
inductive Zb.S where
 | l1 (Qr:Int)
def Zb.j1 (Qr:Int) (Qqd:Bool):Option (Zb.S ⊕ Bool):=
 if Qqd=true then
  some (.inr false)
 else
  some (.inl (.l1 (IntKind.wrap .i64 (Qr+1))))
def Zb.l1 (a0:List Qb) (Qr:Int):Option (Zb.S ⊕ Bool):=
 if Qr < (a0.length:Int) then
  if 0<=Qr/\Qr < (a0.length:Int) then
   if (Qbr (a0.getD Qr.toNat Qb.z))=true then
    if Qr > 0 then
     if 0<=(IntKind.wrap .i64 (Qr - 1))/\(IntKind.wrap .i64 (Qr - 1)) < (a0.length:Int) then
      Zb.j1 Qr (decide (((a0.getD Qr.toNat Qb.z).Lo)<=((a0.getD ((IntKind.wrap .i64 (Qr - 1)).toNat) Qb.z).Hi)))
     else none
    else
     Zb.j1 Qr false
   else
    Zb.j1 Qr true
  else none
 else
  some (.inr (decide ((a0.length:Int)<=64)))
def Zb.step (a0:List Qb):Zb.S->Option (Zb.S ⊕ Bool)
 | .l1 Qr=>Zb.l1 a0 Qr
def Zb (a0:List Qb):Option Bool:=
 Xx (Zb.step a0) (.l1 0)
def Qgg (a0:Qe):Option Bool:=
 (Qbo a0.M).bind fun v1=>
 some (!v1)
inductive Xl.S where
 | l1 (Qr:Int)
def Xl.j1 (Qr:Int) (Qql:Bool):Option (Xl.S ⊕ Bool):=
 if Qql=true then
  some (.inr false)
 else
  some (.inl (.l1 (IntKind.wrap .i64 (Qr+1))))
def Xl.l1 (a0:List Qa) (Qr:Int):Option (Xl.S ⊕ Bool):=
 if Qr < (a0.length:Int) then
  if 0<=Qr/\Qr < (a0.length:Int) then
   if ((a0.getD Qr.toNat Qa.z).Key) < 0 then
    Xl.j1 Qr true
   else
    if ((a0.getD Qr.toNat Qa.z).Key)>=4096 then
     Xl.j1 Qr true
    else
     if ((a0.getD Qr.toNat Qa.z).Val) < (-1099511627776) then
      Xl.j1 Qr true
     else
      if ((a0.getD Qr.toNat Qa.z).Val) > 1099511627776 then
       Xl.j1 Qr true
      else
       if Qr > 0 then
        if 0<=(IntKind.wrap .i64 (Qr - 1))/\(IntKind.wrap .i64 (Qr - 1)) < (a0.length:Int) then
         Xl.j1 Qr (decide (((a0.getD ((IntKind.wrap .i64 (Qr - 1)).toNat) Qa.z).Key)>=((a0.getD Qr.toNat Qa.z).Key)))
        else none
       else
        Xl.j1 Qr false
  else none
 else
  some (.inr true)
def Xl.step (a0:List Qa):Xl.S->Option (Xl.S ⊕ Bool)
 | .l1 Qr=>Xl.l1 a0 Qr
def Xl (a0:List Qa):Option Bool:=
 Xx (Xl.step a0) (.l1 0)
inductive Yd.S where
 | l1 (Wz:Int) (Jg:Int) (Wm:List Qa)
def Yd.j1 (Jg:Int) (Qr3:Int) (Qkz:List Qa):Option (Yd.S ⊕ (List Qa)):=
 some (.inl (.l1 Qr3 (IntKind.wrap .i64 (Jg+1)) Qkz))
def Yd.l1 (p1:Qa->Option Bool) (Wz:Int) (Jg:Int) (Wm:List Qa):Option (Yd.S ⊕ (List Qa)):=
 if Jg < (Wm.length:Int) then
  if 0<=Jg/\Jg < (Wm.length:Int) then
   (p1 (Wm.getD Jg.toNat Qa.z)).bind fun v2=>
   if v2=true then
    Yd.j1 Jg Wz Wm
   else
    if 0<=Wz/\Wz < (Wm.length:Int) then
     Yd.j1 Jg (IntKind.wrap .i64 (Wz+1)) (Wm.set Wz.toNat (Wm.getD Jg.toNat Qa.z))
    else none
  else none
 else
  if 0<=Wz/\Wz<=(Wm.length:Int) then
   some (.inr (Wm.take Wz.toNat))
  else none
def Yd.step (p1:Qa->Option Bool):Yd.S->Option (Yd.S ⊕ (List Qa))
 | .l1 Wz Jg Wm=>Yd.l1 p1 Wz Jg Wm
def Yd (a0:List Qa) (p1:Qa->Option Bool):Option (List Qa):=
 (Zh a0 p1).bind fun v1=>
 if v1=(-1) then
  some a0
 else
  Xx (Yd.step p1) (.l1 v1 (IntKind.wrap .i64 (v1+1)) a0)
inductive Zr.S where
 | l1 (Qy:Int)
def Zr.l1 (a0:List Qb) (p1:Qb->Option Bool) (Qy:Int):Option (Zr.S ⊕ Int):=
 if Qy < (a0.length:Int) then
  if 0<=Qy/\Qy < (a0.length:Int) then
   (p1 (a0.getD Qy.toNat Qb.z)).bind fun v1=>
   if v1=true then
    some (.inr Qy)
   else
    some (.inl (.l1 (IntKind.wrap .i64 (Qy+1))))
  else none
 else
  some (.inr (-1))
def Zr.step (a0:List Qb) (p1:Qb->Option Bool):Zr.S->Option (Zr.S ⊕ Int)
 | .l1 Qy=>Zr.l1 a0 p1 Qy
def Zr (a0:List Qb) (p1:Qb->Option Bool):Option Int:=
 Xx (Zr.step a0 p1) (.l1 0)
def Qbw (a0:List Qb) (p1:Qb->Option Bool):Option Bool:=
 (Zr a0 p1).bind fun v1=>
 some (decide (v1>=0))
def Qc0.j1 (Qtv:Bool):Bool:=
 Qtv
def Qc0 (a0:Qb) (k0:Int):Bool:=
 if (Qbr a0)=true then
  if k0>=a0.Lo then
   Qc0.j1 (decide (k0 < a0.Hi))
  else
   Qc0.j1 false
 else
  Qc0.j1 false
def Qgk (a0:List Qb) (a1:Int):Option Bool:=
 (Qbw a0 (fun z0=>some (Qc0 z0 a1))).bind fun v1=>
 some v1
def Qd0.j1 (Qdj:Bool):Option Bool:=
 some Qdj
def Qd0 (a0:Qa) (k0:Qb) (k1:List Qb):Option Bool:=
 if a0.Key>=k0.Lo then
  if a0.Key < k0.Hi then
   (Qgk k1 a0.Key).bind fun v1=>
   Qd0.j1 v1
  else
   Qd0.j1 false
 else
  Qd0.j1 false
def Qi0 (a0:List Qa) (a1:Qb) (a2:List Qb):Option (List Qa):=
 (Yd a0 (fun z0=>Qd0 z0 a1 a2)).bind fun v1=>
 some v1
def Qd7.j1 (Qbx:Bool):Option Bool:=
 some Qbx
def Qd7 (a0:Qn):Option Bool:=
 (Qbo a0).bind fun v1=>
 if v1=true then
  if a0.Kind=3 then
   Qd7.j1 true
  else
   Qd7.j1 (a0.Kind == 4)
 else
  Qd7.j1 false
inductive Xa.S where
 | l1 (Qau:Int) (Yk:Int)
def Xa.j1 (Qau:Int) (Qtx:Bool):Option (Xa.S ⊕ (Int × Bool)):=
 some (.inr (Qau,Qtx))
def Xa.l1 (a0:List Qa) (a1:Int) (p2:Qa->Int->Option Int) (Qau:Int) (Yk:Int):Option (Xa.S ⊕ (Int × Bool)):=
 if Qau < Yk then
  bnd (IntKind.wrap .i64 (Int.fdiv (IntKind.wrap .u64 (IntKind.wrap .i64 (Qau+Yk))) 2)) fun (v2:Int)=>
  if 0<=v2/\v2 < (a0.length:Int) then
   (p2 (a0.getD v2.toNat Qa.z) a1).bind fun v3=>
   if v3 < 0 then
    some (.inl (.l1 (IntKind.wrap .i64 (v2+1)) Yk))
   else
    some (.inl (.l1 Qau v2))
  else none
 else
  if Qau < (a0.length:Int) then
   if 0<=Qau/\Qau < (a0.length:Int) then
    (p2 (a0.getD Qau.toNat Qa.z) a1).bind fun v1=>
    Xa.j1 Qau (v1 == 0)
   else none
  else
   Xa.j1 Qau false
def Xa.step (a0:List Qa) (a1:Int) (p2:Qa->Int->Option Int):Xa.S->Option (Xa.S ⊕ (Int × Bool))
 | .l1 Qau Yk=>Xa.l1 a0 a1 p2 Qau Yk
def Xa (a0:List Qa) (a1:Int) (p2:Qa->Int->Option Int):Option (Int × Bool):=
 Xx (Xa.step a0 a1 p2) (.l1 0 (a0.length:Int))
def Qfu (a0:Qa) (a1:Int):Int:=
 Zj a0.Key a1
def Qg2 (a0:List Qa) (a1:Int):Option (Int × Bool):=
 (Xa a0 a1 (fun z0 z1=>some (Qfu z0 z1))).bind fun v1=>
 some (v1.1,v1.2)
def Qgb (a0:List Qa) (a1:Int):Option (Int × Bool):=
 (Qg2 a0 a1).bind fun v1=>
 if v1.2=true then
  if 0<=v1.1/\v1.1 < (a0.length:Int) then
   some ((a0.getD v1.1.toNat Qa.z).Val,true)
  else none
 else
  some (0,false)
def Qek (a0:List Qa) (a1:Int) (a2:Int):Option (List Qa):=
 (Qg2 a0 a1).bind fun v1=>
 if v1.2=true then
  if 0<=v1.1/\v1.1 < (a0.length:Int) then
   some (a0.set v1.1.toNat (⟨(a0.getD v1.1.toNat Qa.z).Key,a2⟩:Qa))
  else none
 else
  if (0<=v1.1/\v1.1<=(a0.length:Int))/\(a0.length+1) * 16<=140737488355328 then
   some (a0.take v1.1.toNat ++ (⟨a1,a2⟩:Qa) :: a0.drop v1.1.toNat)
  else none
def Jm.j1 (a0:List Qa) (a1:Qn) (v1:Int × Bool) (Qfx:Bool):Option ((List Qa) × Bool):=
 if Qfx=true then
  some (a0,false)
 else
  (Qek a0 ((a1.Pairs.getD 0 Qa.z).Key) (IntKind.wrap .i64 (v1.1+((a1.Pairs.getD 0 Qa.z).Val)))).bind fun v2=>
  some (v2,true)
def Jm.j2 (a0:List Qa) (a1:Qn) (Qr4:Int):Option ((List Qa) × Bool):=
 if Qr4=a1.Old then
  (Qek a0 ((a1.Pairs.getD 0 Qa.z).Key) ((a1.Pairs.getD 0 Qa.z).Val)).bind fun v3=>
  some (v3,true)
 else
  some (a0,false)
def Jm (a0:List Qa) (a1:Qn):Option ((List Qa) × Bool):=
 if (0:Int)<=0/\0 < (a1.Pairs.length:Int) then
  (Qgb a0 ((a1.Pairs.getD 0 Qa.z).Key)).bind fun v1=>
  if a1.Kind=3 then
   if (IntKind.wrap .i64 (v1.1+((a1.Pairs.getD 0 Qa.z).Val))) < 0 then
    Jm.j1 a0 a1 v1 true
   else
    Jm.j1 a0 a1 v1 (decide ((IntKind.wrap .i64 (v1.1+((a1.Pairs.getD 0 Qa.z).Val))) > 1099511627776))
  else
   if v1.2=true then
    Jm.j2 a0 a1 v1.1
   else
    Jm.j2 a0 a1 1099511627777
 else none
def Qf7 (a0:List Qa) (a1:Int) (a2:Int):Option (List Qa):=
 (Qgb a0 a1).bind fun v1=>
 (Qek a0 a1 (Qgf (Qet (IntKind.wrap .i64 (v1.1+a2)) (-1099511627776)) 1099511627776)).bind fun v2=>
 some v2
inductive Wp.S where
 | l1 (Ja:Int) (Wm:List Qa)
def Wp.j2 (Ja:Int) (Qk2:List Qa):Option (Wp.S ⊕ ((List Qa) × Bool)):=
 some (.inl (.l1 (IntKind.wrap .i64 (Ja+1)) Qk2))
def Wp.l1 (a1:Qn) (a2:List Qb) (Ja:Int) (Wm:List Qa):Option (Wp.S ⊕ ((List Qa) × Bool)):=
 if Ja < (a1.Pairs.length:Int) then
  if 0<=Ja/\Ja < (a1.Pairs.length:Int) then
   (Qgk a2 ((a1.Pairs.getD Ja.toNat Qa.z).Key)).bind fun v8=>
   if v8=true then
    if a1.Kind=1 then
     (Qek Wm ((a1.Pairs.getD Ja.toNat Qa.z).Key) ((a1.Pairs.getD Ja.toNat Qa.z).Val)).bind fun v9=>
     Wp.j2 Ja v9
    else
     if Ja=0 then
      (Qf7 Wm ((a1.Pairs.getD Ja.toNat Qa.z).Key) (IntKind.wrap .i64 (0 - ((a1.Pairs.getD Ja.toNat Qa.z).Val)))).bind fun v10=>
      Wp.j2 Ja v10
     else
      (Qf7 Wm ((a1.Pairs.getD Ja.toNat Qa.z).Key) ((a1.Pairs.getD Ja.toNat Qa.z).Val)).bind fun v11=>
      Wp.j2 Ja v11
   else
    Wp.j2 Ja Wm
  else none
 else
  some (.inr (Wm,true))
def Wp.step (a1:Qn) (a2:List Qb):Wp.S->Option (Wp.S ⊕ ((List Qa) × Bool))
 | .l1 Ja Wm=>Wp.l1 a1 a2 Ja Wm
def Wp.j1 (a0:List Qa) (a1:Qn) (a2:List Qb) (Qqa:Bool):Option ((List Qa) × Bool):=
 if Qqa=true then
  some (([]:List Qa),false)
 else
  if a0.length * 16<=140737488355328 then
   if a1.Kind=2 then
    (Qi0 a0 a1.Over a2).bind fun v4=>
    some (v4,true)
   else
    (Qd7 a1).bind fun v5=>
    if v5=true then
     if (0:Int)<=0/\0 < (a1.Pairs.length:Int) then
      (Qgk a2 ((a1.Pairs.getD 0 Qa.z).Key)).bind fun v6=>
      if v6=true then
       (Jm a0 a1).bind fun v7=>
       some (v7.1,v7.2)
      else
       some (a0,true)
     else none
    else
     Xx (Wp.step a1 a2) (.l1 0 a0)
  else none
def Wp (a0:List Qa) (a1:Qn) (a2:List Qb):Option ((List Qa) × Bool):=
 (Xl a0).bind fun v1=>
 if v1=true then
  (Qbo a1).bind fun v2=>
  if v2=true then
   (Zb a2).bind fun v3=>
   Wp.j1 a0 a1 a2 (!v3)
  else
   Wp.j1 a0 a1 a2 true
 else
  Wp.j1 a0 a1 a2 true
inductive Yy.S where
 | l1 (Qbi:Int) (Qi:List Qa)
def Yy.j3 (Qbi:Int) (Qk3:List Qa):Option (Yy.S ⊕ (List Qa)):=
 some (.inl (.l1 (IntKind.wrap .i64 (Qbi+1)) Qk3))
def Yy.j2 (a0:List Qe) (a1:List Qb) (Qbi:Int) (Qi:List Qa) (Qqo:Bool):Option (Yy.S ⊕ (List Qa)):=
 if Qqo=true then
  (Wp Qi ((a0.getD Qbi.toNat Qe.z).M) a1).bind fun v3=>
  Yy.j3 Qbi v3.1
 else
  Yy.j3 Qbi Qi
def Yy.l1 (a0:List Qe) (a1:List Qb) (a2:Int) (Qbi:Int) (Qi:List Qa):Option (Yy.S ⊕ (List Qa)):=
 if Qbi < (a0.length:Int) then
  if 0<=Qbi/\Qbi < (a0.length:Int) then
   if ((a0.getD Qbi.toNat Qe.z).Qai)=true then
    Yy.j2 a0 a1 Qbi Qi (decide (((a0.getD Qbi.toNat Qe.z).Time)<=a2))
   else
    Yy.j2 a0 a1 Qbi Qi false
  else none
 else
  some (.inr Qi)
def Yy.step (a0:List Qe) (a1:List Qb) (a2:Int):Yy.S->Option (Yy.S ⊕ (List Qa))
 | .l1 Qbi Qi=>Yy.l1 a0 a1 a2 Qbi Qi
def Yy.j1 (a0:List Qe) (a1:List Qb) (a2:Int) (Qp8:Bool):Option (List Qa):=
 if Qp8=true then
  some ([]:List Qa)
 else
  Xx (Yy.step a0 a1 a2) (.l1 0 ([]:List Qa))
def Yy (a0:List Qe) (a1:List Qb) (a2:Int):Option (List Qa):=
 (Zb a1).bind fun v1=>
 if v1=true then
  (Qa5 a0 (fun z0=>Qgg z0)).bind fun v2=>
  Yy.j1 a0 a1 a2 v2
 else
  Yy.j1 a0 a1 a2 true
inductive Zt.S where
 | l1 (Qy:Int)
def Zt.l1 (a0:List Qn) (p1:Qn->Option Bool) (Qy:Int):Option (Zt.S ⊕ Int):=
 if Qy < (a0.length:Int) then
  if 0<=Qy/\Qy < (a0.length:Int) then
   (p1 (a0.getD Qy.toNat Qn.z)).bind fun v1=>
   if v1=true then
    some (.inr Qy)
   else
    some (.inl (.l1 (IntKind.wrap .i64 (Qy+1))))
  else none
 else
  some (.inr (-1))
def Zt.step (a0:List Qn) (p1:Qn->Option Bool):Zt.S->Option (Zt.S ⊕ Int)
 | .l1 Qy=>Zt.l1 a0 p1 Qy
def Zt (a0:List Qn) (p1:Qn->Option Bool):Option Int:=
 Xx (Zt.step a0 p1) (.l1 0)
def Qck (a0:List Qn) (p1:Qn->Option Bool):Option Bool:=
 (Zt a0 p1).bind fun v1=>
 some (decide (v1>=0))
def Qgh (a0:Qn):Option Bool:=
 (Qbo a0).bind fun v1=>
 some (!v1)
inductive Jj.S where
 | l1 (Qd2:Int) (Qi:List Qa)
def Jj.l1 (a1:List Qn) (a2:List Qb) (Qd2:Int) (Qi:List Qa):Option (Jj.S ⊕ (List Qa)):=
 if Qd2 < (a1.length:Int) then
  if 0<=Qd2/\Qd2 < (a1.length:Int) then
   (Wp Qi (a1.getD Qd2.toNat Qn.z) a2).bind fun v4=>
   some (.inl (.l1 (IntKind.wrap .i64 (Qd2+1)) v4.1))
  else none
 else
  some (.inr Qi)
def Jj.step (a1:List Qn) (a2:List Qb):Jj.S->Option (Jj.S ⊕ (List Qa))
 | .l1 Qd2 Qi=>Jj.l1 a1 a2 Qd2 Qi
def Jj.j1 (a0:List Qa) (a1:List Qn) (a2:List Qb) (Qc9:Bool):Option (List Qa):=
 if Qc9=true then
  some ([]:List Qa)
 else
  if a0.length * 16<=140737488355328 then
   Xx (Jj.step a1 a2) (.l1 0 a0)
  else none
def Jj (a0:List Qa) (a1:List Qn) (a2:List Qb):Option (List Qa):=
 (Xl a0).bind fun v1=>
 if v1=true then
  (Zb a2).bind fun v2=>
  if v2=true then
   (Qck a1 (fun z0=>Qgh z0)).bind fun v3=>
   Jj.j1 a0 a1 a2 v3
  else
   Jj.j1 a0 a1 a2 true
 else
  Jj.j1 a0 a1 a2 true
def Qg1 (a0:List Qa) (a1:Int):Option (Int × Bool):=
 (Xl a0).bind fun v1=>
 if v1=true then
  (Qgb a0 a1).bind fun v2=>
  some (v2.1,v2.2)
 else
  some (0,false)
def Qde (a0:List Qe) (a1:Qf5) (a2:Int) (a3:Int):Option Ze:=
 bnd (Qex) fun (v1:List Qb)=>
 (Yy a0 v1 a3).bind fun v2=>
 (Xz a0 a1 a3).bind fun v3=>
 bnd (Qex) fun (v4:List Qb)=>
 (Jj v2 v3 v4).bind fun v5=>
 (Qg1 v5 a2).bind fun v6=>
 some (⟨v6.1,v6.2⟩:Ze)
inductive Qt.S where
 | l1
 | l2 (Yp:Int) (Qar:List Qg)
 | l3 (Qar:List Qg)
def Qt.l1:Option (Qt.S ⊕ Qam):=
 some (.inl (.l2 0 ([]:List Qg)))
def Qt.l2 (a0:List Qe) (Yp:Int) (Qar:List Qg):Option (Qt.S ⊕ Qam):=
 if Yp < (a0.length:Int) then
  if 0<=Yp/\Yp < (a0.length:Int) then
   (Xg ((a0.getD Yp.toNat Qe.z).M)).bind fun v2=>
   if (Qar.length+1) * 88<=140737488355328 then
    some (.inl (.l2 (IntKind.wrap .i64 (Yp+1)) (Qar ++ [(⟨v2,(a0.getD Yp.toNat Qe.z).Time,(a0.getD Yp.toNat Qe.z).Qai⟩:Qg)])))
   else none
  else none
 else
  some (.inl (.l3 Qar))
def Qt.l3 (v1:List Qd) (Qar:List Qg):Option (Qt.S ⊕ Qam):=
 some (.inr (⟨0,(⟨0,0⟩:Qf),0,false,false,([]:List Zz),v1,Qar,([]:List Ju)⟩:Qam))
def Qt.step (a0:List Qe) (v1:List Qd):Qt.S->Option (Qt.S ⊕ Qam)
 | .l1=>Qt.l1
 | .l2 Yp Qar=>Qt.l2 a0 Yp Qar
 | .l3 Qar=>Qt.l3 v1 Qar
def Qt (a0:List Qe):Option Qam:=
 (Zx ([]:List Qa)).bind fun v1=>
 Xx (Qt.step a0 v1) (.l1)
def Qan (a0:List Qe):Option (List Qg):=
 (Qt a0).bind fun v1=>
 some v1.Log
inductive Xm.S where
 | l1 (Wz:Int)
def Xm.l1 (a0:Xd) (a1:Xd) (Wz:Int):Option (Xm.S ⊕ Bool):=
 if Wz < (a0.Pairs.length:Int) then
  if 0<=Wz/\Wz < (a0.Pairs.length:Int) then
   if 0<=Wz/\Wz < (a1.Pairs.length:Int) then
    if ((a0.Pairs.getD Wz.toNat Qd.z).Key)=((a1.Pairs.getD Wz.toNat Qd.z).Key) then
     if ((a0.Pairs.getD Wz.toNat Qd.z).Val)=((a1.Pairs.getD Wz.toNat Qd.z).Val) then
      some (.inl (.l1 (IntKind.wrap .i64 (Wz+1))))
     else
      some (.inr false)
    else
     if ((a0.Pairs.getD Wz.toNat Qd.z).Val)=((a1.Pairs.getD Wz.toNat Qd.z).Val) then
      some (.inr false)
     else
      some (.inr false)
   else none
  else none
 else
  some (.inr true)
def Xm.step (a0:Xd) (a1:Xd):Xm.S->Option (Xm.S ⊕ Bool)
 | .l1 Wz=>Xm.l1 a0 a1 Wz
def Xm.j1 (a0:Xd) (a1:Xd) (Qqm:Bool):Option Bool:=
 if Qqm=true then
  some false
 else
  Xx (Xm.step a0 a1) (.l1 0)
def Xm (a0:Xd) (a1:Xd):Option Bool:=
 if a0.Client=a1.Client then
  if a0.Seq=a1.Seq then
   if a0.Kind=a1.Kind then
    if a0.Over.Lo=a1.Over.Lo then
     if a0.Over.Hi=a1.Over.Hi then
      if a0.Old=a1.Old then
       Xm.j1 a0 a1 ((a0.Pairs.length:Int) != (a1.Pairs.length:Int))
      else
       Xm.j1 a0 a1 true
     else
      Xm.j1 a0 a1 true
    else
     if a0.Over.Hi=a1.Over.Hi then
      Xm.j1 a0 a1 true
     else
      Xm.j1 a0 a1 true
   else
    Xm.j1 a0 a1 true
  else
   Xm.j1 a0 a1 true
 else
  Xm.j1 a0 a1 true
inductive Xp.S where
 | l1 (Wz:Int)
 | l2 (Qa4:Int)
def Xp.j1 (Wz:Int) (Qh9:Bool):Option (Xp.S ⊕ Bool):=
 if Qh9=true then
  some (.inr false)
 else
  some (.inl (.l1 (IntKind.wrap .i64 (Wz+1))))
def Xp.j2 (Qa4:Int) (Qqr:Bool):Option (Xp.S ⊕ Bool):=
 if Qqr=true then
  some (.inr false)
 else
  some (.inl (.l2 (IntKind.wrap .i64 (Qa4+1))))
def Xp.l1 (a0:List Qe) (Wz:Int):Option (Xp.S ⊕ Bool):=
 if Wz < (a0.length:Int) then
  if Wz>=30 then
   Xp.j1 Wz true
  else
   if 0<=Wz/\Wz < (a0.length:Int) then
    Xp.j1 Wz (decide (((((a0.getD Wz.toNat Qe.z).M).Pairs).length:Int) > 10))
   else none
 else
  some (.inl (.l2 0))
def Xp.l2 (a1:List Wn) (Qa4:Int):Option (Xp.S ⊕ Bool):=
 if Qa4 < (a1.length:Int) then
  if Qa4>=30 then
   Xp.j2 Qa4 true
  else
   if 0<=Qa4/\Qa4 < (a1.length:Int) then
    Xp.j2 Qa4 (decide (((((a1.getD Qa4.toNat Wn.z).M).Pairs).length:Int) > 10))
   else none
 else
  some (.inr true)
def Xp.step (a0:List Qe) (a1:List Wn):Xp.S->Option (Xp.S ⊕ Bool)
 | .l1 Wz=>Xp.l1 a0 Wz
 | .l2 Qa4=>Xp.l2 a1 Qa4
def Xp (a0:List Qe) (a1:List Wn):Option Bool:=
 Xx (Xp.step a0 a1) (.l1 0)
def Qg7 (a0:Qb):Bool:=
 (!(Qbr a0))
def Yz (a0:Qb) (a1:Qb):Int:=
 Zj a0.Lo a1.Lo
def Qe5 (a0:List Qb):(List Qb) × Int:=
 if (a0.length:Int) > 64 then
  (([]:List Qb),2)
 else
  (a0,0)
inductive Qz.S where
 | l1 (Jb:Int) (Qi:List Qb)
def Qz.j1 (a0:List Qb) (Jb:Int) (Qi:List Qb) (Qfx:Bool):Option (Qz.S ⊕ ((List Qb) × Int)):=
 if Qfx=true then
  if 0<=(IntKind.wrap .i64 ((Qi.length:Int) - 1))/\(IntKind.wrap .i64 ((Qi.length:Int) - 1)) < (Qi.length:Int) then
   some (.inl (.l1 (IntKind.wrap .i64 (Jb+1)) (Qi.set ((IntKind.wrap .i64 ((Qi.length:Int) - 1)).toNat) (⟨(Qi.getD ((IntKind.wrap .i64 ((Qi.length:Int) - 1)).toNat) Qb.z).Lo,Qet ((Qi.getD ((IntKind.wrap .i64 ((Qi.length:Int) - 1)).toNat) Qb.z).Hi) (((Js Qb.z Yz a0).getD Jb.toNat Qb.z).Hi)⟩:Qb))))
  else none
 else
  if (Qi.length+1) * 16<=140737488355328 then
   some (.inl (.l1 (IntKind.wrap .i64 (Jb+1)) (Qi ++ [((Js Qb.z Yz a0).getD Jb.toNat Qb.z)])))
  else none
def Qz.l1 (a0:List Qb) (Jb:Int) (Qi:List Qb):Option (Qz.S ⊕ ((List Qb) × Int)):=
 if Jb < ((Js Qb.z Yz a0).length:Int) then
  if 0<=Jb/\Jb < ((Js Qb.z Yz a0).length:Int) then
   if (IntKind.wrap .i64 ((Qi.length:Int) - 1))>=0 then
    if 0<=(IntKind.wrap .i64 ((Qi.length:Int) - 1))/\(IntKind.wrap .i64 ((Qi.length:Int) - 1)) < (Qi.length:Int) then
     Qz.j1 a0 Jb Qi (decide ((((Js Qb.z Yz a0).getD Jb.toNat Qb.z).Lo)<=((Qi.getD ((IntKind.wrap .i64 ((Qi.length:Int) - 1)).toNat) Qb.z).Hi)))
    else none
   else
    Qz.j1 a0 Jb Qi false
  else none
 else
  bnd (Qe5 Qi) fun (v2:(List Qb) × Int)=>
  some (.inr (v2.1,v2.2))
def Qz.step (a0:List Qb):Qz.S->Option (Qz.S ⊕ ((List Qb) × Int))
 | .l1 Jb Qi=>Qz.l1 a0 Jb Qi
def Qz (a0:List Qb):Option ((List Qb) × Int):=
 (Qbw a0 (fun z0=>some (Qg7 z0))).bind fun v1=>
 if v1=true then
  some (([]:List Qb),1)
 else
  if a0.length * 16<=140737488355328 then
   Xx (Qz.step a0) (.l1 0 ([]:List Qb))
  else none
inductive Qa9.S where
 | l1 (Jd:Int) (Qi:List Qb)
def Qa9.l1 (a0:Qn) (Jd:Int) (Qi:List Qb):Option (Qa9.S ⊕ (List Qb)):=
 if Jd < (a0.Pairs.length:Int) then
  if 0<=Jd/\Jd < (a0.Pairs.length:Int) then
   if (Qi.length+1) * 16<=140737488355328 then
    some (.inl (.l1 (IntKind.wrap .i64 (Jd+1)) (Qi ++ [(⟨(a0.Pairs.getD Jd.toNat Qa.z).Key,IntKind.wrap .i64 (((a0.Pairs.getD Jd.toNat Qa.z).Key)+1)⟩:Qb)])))
   else none
  else none
 else
  (Qz Qi).bind fun v2=>
  some (.inr v2.1)
def Qa9.step (a0:Qn):Qa9.S->Option (Qa9.S ⊕ (List Qb))
 | .l1 Jd Qi=>Qa9.l1 a0 Jd Qi
def Qa9 (a0:Qn):Option (List Qb):=
 (Qbo a0).bind fun v1=>
 if v1=true then
  if a0.Kind=2 then
   some ([a0.Over]:List Qb)
  else
   Xx (Qa9.step a0) (.l1 0 ([]:List Qb))
 else
  some ([]:List Qb)
inductive Qaj.S where
 | l1 (Jv:Int) (Qi:List Qb)
 | l2 (Qed:Int) (Qaw:Int) (Xv:List Qb) (Qbd:Int) (Qbe:Int)
def Qaj.j1 (Qed:Int) (Qaw:Int) (Qbd:Int) (Qbe:Int) (Qd3:List Qb):Option (Qaj.S ⊕ (List Qb)):=
 some (.inl (.l2 Qed (IntKind.wrap .i64 (Qaw+1)) Qd3 Qbd Qbe))
def Qaj.l1 (a0:List Qb) (Jv:Int) (Qi:List Qb):Option (Qaj.S ⊕ (List Qb)):=
 if Jv < (a0.length:Int) then
  if 0<=Jv/\Jv < (a0.length:Int) then
   some (.inl (.l2 Jv 0 Qi ((a0.getD Jv.toNat Qb.z).Lo) ((a0.getD Jv.toNat Qb.z).Hi)))
  else none
 else
  some (.inr Qi)
def Qaj.l2 (a1:List Qb) (Qed:Int) (Qaw:Int) (Xv:List Qb) (Qbd:Int) (Qbe:Int):Option (Qaj.S ⊕ (List Qb)):=
 if Qaw < (a1.length:Int) then
  if 0<=Qaw/\Qaw < (a1.length:Int) then
   if (Qet Qbd ((a1.getD Qaw.toNat Qb.z).Lo)) < (Qgf Qbe ((a1.getD Qaw.toNat Qb.z).Hi)) then
    if (Xv.length+1) * 16<=140737488355328 then
     Qaj.j1 Qed Qaw Qbd Qbe (Xv ++ [(⟨Qet Qbd ((a1.getD Qaw.toNat Qb.z).Lo),Qgf Qbe ((a1.getD Qaw.toNat Qb.z).Hi)⟩:Qb)])
    else none
   else
    Qaj.j1 Qed Qaw Qbd Qbe Xv
  else none
 else
  some (.inl (.l1 (IntKind.wrap .i64 (Qed+1)) Xv))
def Qaj.step (a0:List Qb) (a1:List Qb):Qaj.S->Option (Qaj.S ⊕ (List Qb))
 | .l1 Jv Qi=>Qaj.l1 a0 Jv Qi
 | .l2 Qed Qaw Xv Qbd Qbe=>Qaj.l2 a1 Qed Qaw Xv Qbd Qbe
def Qaj (a0:List Qb) (a1:List Qb):Option (List Qb):=
 Xx (Qaj.step a0 a1) (.l1 0 ([]:List Qb))
def Qe4.j1 (Qdj:Bool):Option Bool:=
 some Qdj
def Qe4 (a0:List Qb) (a1:List Qb):Option Bool:=
 (Zb a0).bind fun v1=>
 if v1=true then
  (Zb a1).bind fun v2=>
  if v2=true then
   (Qaj a0 a1).bind fun v3=>
   Qe4.j1 (decide ((v3.length:Int) > 0))
  else
   Qe4.j1 false
 else
  Qe4.j1 false
def Qdv (a0:Qe) (a1:List Qb):Option Bool:=
 (Qa9 a0.M).bind fun v1=>
 (Qe4 v1 a1).bind fun v2=>
 some v2
def Qdo (a0:Qe):Option Qe:=
 if a0.M.Pairs.length * 16<=140737488355328 then
  some a0
 else none
inductive Ws.S where
 | l1 (Qaf:Int) (Wm:List Qa) (Yf:List Xe) (Qab:Int) (Qac:Bool)
def Ws.j2 (a0:List Qe) (a1:Int) (Qaf:Int) (Wm:List Qa) (Yf:List Xe) (Qab:Int) (Qac:Bool) (Qqs:Bool):Option (Ws.S ⊕ ((List Xe) × Int)):=
 if Qqs=true then
  some (.inl (.l1 (IntKind.wrap .i64 (Qaf+1)) Wm Yf Qab Qac))
 else
  (Qdo (a0.getD Qaf.toNat Qe.z)).bind fun v3=>
  (Wp Wm ((a0.getD Qaf.toNat Qe.z).M) ([(⟨a1,IntKind.wrap .i64 (a1+1)⟩:Qb)]:List Qb)).bind fun v4=>
  (Qg1 v4.1 a1).bind fun v5=>
  if (Yf.length+1) * 120<=140737488355328 then
   some (.inl (.l1 (IntKind.wrap .i64 (Qaf+1)) v4.1 (Yf ++ [(⟨v3,(⟨Qab,Qac⟩:Ze),(⟨v5.1,v5.2⟩:Ze)⟩:Xe)]) v5.1 v5.2))
  else none
def Ws.l1 (a0:List Qe) (a1:Int) (Qaf:Int) (Wm:List Qa) (Yf:List Xe) (Qab:Int) (Qac:Bool):Option (Ws.S ⊕ ((List Xe) × Int)):=
 if Qaf < (a0.length:Int) then
  if 0<=Qaf/\Qaf < (a0.length:Int) then
   if ((a0.getD Qaf.toNat Qe.z).Qai)=true then
    (Qdv (a0.getD Qaf.toNat Qe.z) ([(⟨a1,IntKind.wrap .i64 (a1+1)⟩:Qb)]:List Qb)).bind fun v2=>
    Ws.j2 a0 a1 Qaf Wm Yf Qab Qac (!v2)
   else
    Ws.j2 a0 a1 Qaf Wm Yf Qab Qac true
  else none
 else
  some (.inr (Yf,0))
def Ws.step (a0:List Qe) (a1:Int):Ws.S->Option (Ws.S ⊕ ((List Xe) × Int))
 | .l1 Qaf Wm Yf Qab Qac=>Ws.l1 a0 a1 Qaf Wm Yf Qab Qac
def Ws.j1 (a0:List Qe) (a1:Int) (Qqc:Bool):Option ((List Xe) × Int):=
 if Qqc=true then
  some (([]:List Xe),1)
 else
  Xx (Ws.step a0 a1) (.l1 0 ([]:List Qa) ([]:List Xe) 0 false)
def Ws (a0:List Qe) (a1:Int):Option ((List Xe) × Int):=
 (Zn a0).bind fun v1=>
 if v1=true then
  if a1 < 0 then
   Ws.j1 a0 a1 true
  else
   Ws.j1 a0 a1 (decide (a1>=4096))
 else
  Ws.j1 a0 a1 true
inductive Zg.S where
 | l1 (Qr:Int) (Jd:Int)
def Zg.j3 (Jd:Int) (Qgl:Int):Option (Zg.S ⊕ Int):=
 some (.inl (.l1 Qgl (IntKind.wrap .i64 (Jd+1))))
def Zg.j2 (Qr:Int) (Jd:Int) (Qqp:Bool):Option (Zg.S ⊕ Int):=
 if Qqp=true then
  Zg.j3 Jd (IntKind.wrap .i64 (Qr+1))
 else
  Zg.j3 Jd Qr
def Zg.l1 (a0:List Qe) (a1:List Qb) (a2:Int) (Qr:Int) (Jd:Int):Option (Zg.S ⊕ Int):=
 if Jd < (a0.length:Int) then
  if 0<=Jd/\Jd < (a0.length:Int) then
   if ((a0.getD Jd.toNat Qe.z).Time) > a2 then
    (Qdv (a0.getD Jd.toNat Qe.z) a1).bind fun v3=>
    Zg.j2 Qr Jd v3
   else
    Zg.j2 Qr Jd false
  else none
 else
  some (.inr Qr)
def Zg.step (a0:List Qe) (a1:List Qb) (a2:Int):Zg.S->Option (Zg.S ⊕ Int)
 | .l1 Qr Jd=>Zg.l1 a0 a1 a2 Qr Jd
def Zg.j1 (a0:List Qe) (a1:List Qb) (a2:Int) (Qh8:Bool):Option Int:=
 if Qh8=true then
  some 0
 else
  Xx (Zg.step a0 a1 a2) (.l1 0 0)
def Zg (a0:List Qe) (a1:List Qb) (a2:Int):Option Int:=
 (Zn a0).bind fun v1=>
 if v1=true then
  (Zb a1).bind fun v2=>
  Zg.j1 a0 a1 a2 (!v2)
 else
  Zg.j1 a0 a1 a2 true
def Zk.j1 (Qbx:Bool):Bool:=
 Qbx
def Zk (a0:Qf):Bool:=
 if a0.Lo>=0 then
  if a0.Lo < a0.Hi then
   Zk.j1 (decide (a0.Hi<=4096))
  else
   Zk.j1 false
 else
  Zk.j1 false
def Qao.j1 (Qbx:Bool):Bool:=
 Qbx
def Qao (a0:Int):Bool:=
 if a0>=(-1099511627776) then
  Qao.j1 (decide (a0<=1099511627776))
 else
  Qao.j1 false
inductive Wy.S where
 | l1 (Qr:Int)
def Wy.j2 (Qr:Int) (Qqt:Bool):Option (Wy.S ⊕ Bool):=
 if Qqt=true then
  some (.inr false)
 else
  some (.inl (.l1 (IntKind.wrap .i64 (Qr+1))))
def Wy.l1 (a0:List Qd) (Qr:Int):Option (Wy.S ⊕ Bool):=
 if Qr < (a0.length:Int) then
  if 0<=Qr/\Qr < (a0.length:Int) then
   if ((a0.getD Qr.toNat Qd.z).Key) < 0 then
    Wy.j2 Qr true
   else
    if ((a0.getD Qr.toNat Qd.z).Key) > 4095 then
     Wy.j2 Qr true
    else
     Wy.j2 Qr (!(Qao ((a0.getD Qr.toNat Qd.z).Val)))
  else none
 else
  some (.inr true)
def Wy.step (a0:List Qd):Wy.S->Option (Wy.S ⊕ Bool)
 | .l1 Qr=>Wy.l1 a0 Qr
def Wy.j1 (a0:List Qd) (Qh8:Bool):Option Bool:=
 if Qh8=true then
  some false
 else
  Xx (Wy.step a0) (.l1 0)
def Wy (a0:List Qd) (a1:Int) (a2:Int):Option Bool:=
 if (a0.length:Int) < a1 then
  Wy.j1 a0 true
 else
  Wy.j1 a0 (decide ((a0.length:Int) > a2))
def Qq.j2 (Qhe:Bool):Option Bool:=
 some Qhe
def Qq.j4 (Qjz:Bool):Option Bool:=
 some Qjz
inductive Qq.S where
 | l1 (Wi:Int)
def Qq.l1 (a0:Xd) (Wi:Int):Option (Qq.S ⊕ Bool):=
 if Wi < (a0.Pairs.length:Int) then
  if 0<=(IntKind.wrap .i64 (Wi - 1))/\(IntKind.wrap .i64 (Wi - 1)) < (a0.Pairs.length:Int) then
   if 0<=Wi/\Wi < (a0.Pairs.length:Int) then
    if ((a0.Pairs.getD ((IntKind.wrap .i64 (Wi - 1)).toNat) Qd.z).Key)>=((a0.Pairs.getD Wi.toNat Qd.z).Key) then
     some (.inr false)
    else
     some (.inl (.l1 (IntKind.wrap .i64 (Wi+1))))
   else none
  else none
 else
  (Wy a0.Pairs 1 8).bind fun v2=>
  some (.inr v2)
def Qq.step (a0:Xd):Qq.S->Option (Qq.S ⊕ Bool)
 | .l1 Wi=>Qq.l1 a0 Wi
def Qq.j5 (Qj2:Bool):Option Bool:=
 some Qj2
def Qq.j3 (a0:Xd) (Qqy:Bool):Option Bool:=
 if Qqy=true then
  some false
 else
  if a0.Kind=4 then
   (Wy a0.Pairs 1 1).bind fun v1=>
   if v1=true then
    if (Qao a0.Old)=true then
     Qq.j4 true
    else
     Qq.j4 (a0.Old == 1099511627777)
   else
    Qq.j4 false
  else
   if a0.Old=0 then
    if a0.Kind=1 then
     Xx (Qq.step a0) (.l1 1)
    else
     if a0.Kind=3 then
      (Wy a0.Pairs 1 1).bind fun v3=>
      some v3
     else
      if a0.Kind=5 then
       (Wy a0.Pairs 2 2).bind fun v4=>
       if v4=true then
        if (0:Int)<=0/\0 < (a0.Pairs.length:Int) then
         if (0:Int)<=1/\1 < (a0.Pairs.length:Int) then
          if ((a0.Pairs.getD 0 Qd.z).Key)=((a0.Pairs.getD 1 Qd.z).Key) then
           Qq.j5 false
          else
           if ((a0.Pairs.getD 0 Qd.z).Val)=((a0.Pairs.getD 1 Qd.z).Val) then
            Qq.j5 (decide (((a0.Pairs.getD 0 Qd.z).Val)>=0))
           else
            Qq.j5 false
         else none
        else none
       else
        Qq.j5 false
      else
       Qq.j5 false
   else
    some false
def Qq.j1 (a0:Xd) (Qc9:Bool):Option Bool:=
 if Qc9=true then
  some false
 else
  if a0.Kind=2 then
   if (a0.Pairs.length:Int)=0 then
    if a0.Old=0 then
     Qq.j2 (Zk a0.Over)
    else
     Qq.j2 false
   else
    Qq.j2 false
  else
   if a0.Over.Lo=0 then
    Qq.j3 a0 (a0.Over.Hi != 0)
   else
    Qq.j3 a0 true
def Qq (a0:Xd):Option Bool:=
 if a0.Client < 1 then
  Qq.j1 a0 true
 else
  if a0.Client > 1048576 then
   Qq.j1 a0 true
  else
   if a0.Seq < 1 then
    Qq.j1 a0 true
   else
    Qq.j1 a0 (decide (a0.Seq > 1073741824))
def Qa7 (a0:Qg):Qbk:=
 (⟨a0.Time,a0.M.Client,a0.M.Seq⟩:Qbk)
def Qc3 (a0:Qbk) (a1:Qbk):Bool:=
 if a0.Time=a1.Time then
  if a0.Client=a1.Client then
   decide (a0.Seq < a1.Seq)
  else
   decide (a0.Client < a1.Client)
 else
  decide (a0.Time < a1.Time)
inductive Yn.S where
 | l1 (Wi:Int)
def Yn.j1 (Wi:Int) (Qqi:Bool):Option (Yn.S ⊕ Bool):=
 if Qqi=true then
  some (.inr false)
 else
  some (.inl (.l1 (IntKind.wrap .i64 (Wi+1))))
def Yn.l1 (a0:List Qg) (Wi:Int):Option (Yn.S ⊕ Bool):=
 if Wi < (a0.length:Int) then
  if 0<=Wi/\Wi < (a0.length:Int) then
   (Qq ((a0.getD Wi.toNat Qg.z).M)).bind fun v1=>
   if v1=true then
    if Wi > 0 then
     if 0<=(IntKind.wrap .i64 (Wi - 1))/\(IntKind.wrap .i64 (Wi - 1)) < (a0.length:Int) then
      Yn.j1 Wi (!(Qc3 (Qa7 (a0.getD ((IntKind.wrap .i64 (Wi - 1)).toNat) Qg.z)) (Qa7 (a0.getD Wi.toNat Qg.z))))
     else none
    else
     Yn.j1 Wi false
   else
    Yn.j1 Wi true
  else none
 else
  some (.inr true)
def Yn.step (a0:List Qg):Yn.S->Option (Yn.S ⊕ Bool)
 | .l1 Wi=>Yn.l1 a0 Wi
def Yn (a0:List Qg):Option Bool:=
 Xx (Yn.step a0) (.l1 0)
def Xu.j1 (Qdj:Bool):Option Bool:=
 some Qdj
inductive Xu.S where
 | l1 (Wz:Int)
def Xu.l1 (a0:Xd) (a1:Int) (Wz:Int):Option (Xu.S ⊕ Bool):=
 if Wz < (a0.Pairs.length:Int) then
  if 0<=Wz/\Wz < (a0.Pairs.length:Int) then
   if ((a0.Pairs.getD Wz.toNat Qd.z).Key)=a1 then
    some (.inr true)
   else
    some (.inl (.l1 (IntKind.wrap .i64 (Wz+1))))
  else none
 else
  some (.inr false)
def Xu.step (a0:Xd) (a1:Int):Xu.S->Option (Xu.S ⊕ Bool)
 | .l1 Wz=>Xu.l1 a0 a1 Wz
def Xu (a0:Xd) (a1:Int):Option Bool:=
 if a0.Kind=2 then
  if a1>=a0.Over.Lo then
   Xu.j1 (decide (a1 < a0.Over.Hi))
  else
   Xu.j1 false
 else
  Xx (Xu.step a0 a1) (.l1 0)
def Qc7 (a0:Int):Int:=
 if a0 > 1099511627776 then
  1099511627776
 else
  if a0 < (-1099511627776) then
   (-1099511627776)
  else
   a0
def Qv.j1 (a0:Xb) (v1:Int) (Qqe:Bool):Option (Xb × Bool):=
 if Qqe=true then
  some (a0,false)
 else
  some ((⟨v1,true⟩:Xb),true)
def Qv.j2 (a0:Xb) (a1:Xd) (Qfy:Bool):Option (Xb × Bool):=
 if Qfy=true then
  some (a0,false)
 else
  if (0:Int)<=0/\0 < (a1.Pairs.length:Int) then
   some ((⟨(a1.Pairs.getD 0 Qd.z).Val,true⟩:Xb),true)
  else none
inductive Qv.S where
 | l1 (Qau:Int)
def Qv.l1 (a0:Xb) (a1:Xd) (a2:Int) (Qau:Int):Option (Qv.S ⊕ (Xb × Bool)):=
 if Qau < (a1.Pairs.length:Int) then
  if 0<=Qau/\Qau < (a1.Pairs.length:Int) then
   if ((a1.Pairs.getD Qau.toNat Qd.z).Key)=a2 then
    some (.inr ((⟨(a1.Pairs.getD Qau.toNat Qd.z).Val,true⟩:Xb),true))
   else
    some (.inl (.l1 (IntKind.wrap .i64 (Qau+1))))
  else none
 else
  some (.inr (a0,true))
def Qv.step (a0:Xb) (a1:Xd) (a2:Int):Qv.S->Option (Qv.S ⊕ (Xb × Bool))
 | .l1 Qau=>Qv.l1 a0 a1 a2 Qau
def Qv (a0:Xb) (a1:Xd) (a2:Int):Option (Xb × Bool):=
 if a1.Kind=2 then
  some ((⟨0,false⟩:Xb),true)
 else
  if a1.Kind=3 then
   if (0:Int)<=0/\0 < (a1.Pairs.length:Int) then
    bnd (IntKind.wrap .i64 (a0.Val+((a1.Pairs.getD 0 Qd.z).Val))) fun (v1:Int)=>
    if v1 < 0 then
     Qv.j1 a0 v1 true
    else
     Qv.j1 a0 v1 (decide (v1 > 1099511627776))
   else none
  else
   if a1.Kind=4 then
    if a0.Some=true then
     if a0.Val=a1.Old then
      Qv.j2 a0 a1 false
     else
      Qv.j2 a0 a1 true
    else
     Qv.j2 a0 a1 (a1.Old != 1099511627777)
   else
    if a1.Kind=5 then
     if (0:Int)<=0/\0 < (a1.Pairs.length:Int) then
      if a2=((a1.Pairs.getD 0 Qd.z).Key) then
       bnd (Qc7 (IntKind.wrap .i64 (a0.Val - ((a1.Pairs.getD 0 Qd.z).Val)))) fun (v2:Int)=>
       some ((⟨v2,true⟩:Xb),true)
      else
       bnd (Qc7 (IntKind.wrap .i64 (a0.Val+((a1.Pairs.getD 0 Qd.z).Val)))) fun (v3:Int)=>
       some ((⟨v3,true⟩:Xb),true)
     else none
    else
     Xx (Qv.step a0 a1 a2) (.l1 0)
inductive Qk.S where
 | l1 (Qy:Int) (Qi:List Xf) (Je:Int) (Jf:Bool)
def Qk.j4 (Qy:Int) (Qd4:List Xf) (Qj0:Int) (Qj1:Bool):Option (Qk.S ⊕ ((List Xf) × Int)):=
 some (.inl (.l1 (IntKind.wrap .i64 (Qy+1)) Qd4 Qj0 Qj1))
def Qk.j3 (a0:List Qg) (Qy:Int) (Qi:List Xf) (Je:Int) (Jf:Bool) (Qda:Int) (Qdb:Bool):Option (Qk.S ⊕ ((List Xf) × Int)):=
 if (Qi.length+1) * 120<=140737488355328 then
  Qk.j4 Qy (Qi ++ [(⟨(a0.getD Qy.toNat Qg.z),(⟨Je,Jf⟩:Xb),(⟨Qda,Qdb⟩:Xb)⟩:Xf)]) Qda Qdb
 else none
def Qk.j2 (a0:List Qg) (a1:Int) (Qy:Int) (Qi:List Xf) (Je:Int) (Jf:Bool) (Qqq:Bool):Option (Qk.S ⊕ ((List Xf) × Int)):=
 if Qqq=true then
  (Qv (⟨Je,Jf⟩:Xb) ((a0.getD Qy.toNat Qg.z).M) a1).bind fun v3=>
  if v3.2=true then
   Qk.j3 a0 Qy Qi Je Jf v3.1.Val v3.1.Some
  else
   Qk.j3 a0 Qy Qi Je Jf Je Jf
 else
  Qk.j4 Qy Qi Je Jf
def Qk.l1 (a0:List Qg) (a1:Int) (Qy:Int) (Qi:List Xf) (Je:Int) (Jf:Bool):Option (Qk.S ⊕ ((List Xf) × Int)):=
 if Qy < (a0.length:Int) then
  if 0<=Qy/\Qy < (a0.length:Int) then
   if ((a0.getD Qy.toNat Qg.z).Qai)=true then
    (Xu ((a0.getD Qy.toNat Qg.z).M) a1).bind fun v2=>
    Qk.j2 a0 a1 Qy Qi Je Jf v2
   else
    Qk.j2 a0 a1 Qy Qi Je Jf false
  else none
 else
  some (.inr (Qi,0))
def Qk.step (a0:List Qg) (a1:Int):Qk.S->Option (Qk.S ⊕ ((List Xf) × Int))
 | .l1 Qy Qi Je Jf=>Qk.l1 a0 a1 Qy Qi Je Jf
def Qk.j1 (a0:List Qg) (a1:Int) (Qc9:Bool):Option ((List Xf) × Int):=
 if Qc9=true then
  some (([]:List Xf),1)
 else
  Xx (Qk.step a0 a1) (.l1 0 ([]:List Xf) 0 false)
def Qk (a0:List Qg) (a1:Int):Option ((List Xf) × Int):=
 (Yn a0).bind fun v1=>
 if v1=true then
  if a1 < 0 then
   Qk.j1 a0 a1 true
  else
   Qk.j1 a0 a1 (decide (a1>=4096))
 else
  Qk.j1 a0 a1 true
inductive Yu.S where
 | l1 (Wi:Int)
def Yu.j1 (Wi:Int) (Qqh:Bool):Option (Yu.S ⊕ Bool):=
 if Qqh=true then
  some (.inr false)
 else
  some (.inl (.l1 (IntKind.wrap .i64 (Wi+1))))
def Yu.l1 (a0:List Qf) (Wi:Int):Option (Yu.S ⊕ Bool):=
 if Wi < (a0.length:Int) then
  if 0<=Wi/\Wi < (a0.length:Int) then
   if (Zk (a0.getD Wi.toNat Qf.z))=true then
    if Wi > 0 then
     if 0<=(IntKind.wrap .i64 (Wi - 1))/\(IntKind.wrap .i64 (Wi - 1)) < (a0.length:Int) then
      Yu.j1 Wi (decide (((a0.getD Wi.toNat Qf.z).Lo)<=((a0.getD ((IntKind.wrap .i64 (Wi - 1)).toNat) Qf.z).Hi)))
     else none
    else
     Yu.j1 Wi false
   else
    Yu.j1 Wi true
  else none
 else
  some (.inr (decide ((a0.length:Int)<=64)))
def Yu.step (a0:List Qf):Yu.S->Option (Yu.S ⊕ Bool)
 | .l1 Wi=>Yu.l1 a0 Wi
def Yu (a0:List Qf):Option Bool:=
 Xx (Yu.step a0) (.l1 0)
inductive Wj.S where
 | l1 (Xn:Int) (Qi:List Bool)
 | l2 (Qaz:Int) (Xv:List Bool)
 | l3 (Qcp:Int) (Qb5:Int) (Qa2:List Bool)
def Wj.j1 (Qcp:Int) (Qb5:Int) (Qa2:List Bool) (Qqj:Bool):Option (Wj.S ⊕ (List Bool)):=
 if Qqj=true then
  if 0<=Qb5/\Qb5 < (Qa2.length:Int) then
   some (.inl (.l3 Qcp (IntKind.wrap .i64 (Qb5+1)) (Qa2.set Qb5.toNat true)))
  else none
 else
  some (.inl (.l2 (IntKind.wrap .i64 (Qcp+1)) Qa2))
def Wj.l1 (Xn:Int) (Qi:List Bool):Option (Wj.S ⊕ (List Bool)):=
 if Xn < 4096 then
  if (Qi.length+1) * 1<=140737488355328 then
   some (.inl (.l1 (IntKind.wrap .i64 (Xn+1)) (Qi ++ [false])))
  else none
 else
  some (.inl (.l2 0 Qi))
def Wj.l2 (a0:List Qf) (Qaz:Int) (Xv:List Bool):Option (Wj.S ⊕ (List Bool)):=
 if Qaz < (a0.length:Int) then
  if 0<=Qaz/\Qaz < (a0.length:Int) then
   some (.inl (.l3 Qaz ((a0.getD Qaz.toNat Qf.z).Lo) Xv))
  else none
 else
  some (.inr Xv)
def Wj.l3 (a0:List Qf) (Qcp:Int) (Qb5:Int) (Qa2:List Bool):Option (Wj.S ⊕ (List Bool)):=
 if 0<=Qcp/\Qcp < (a0.length:Int) then
  if (Zk (a0.getD Qcp.toNat Qf.z))=true then
   Wj.j1 Qcp Qb5 Qa2 (decide (Qb5 < ((a0.getD Qcp.toNat Qf.z).Hi)))
  else
   Wj.j1 Qcp Qb5 Qa2 false
 else none
def Wj.step (a0:List Qf):Wj.S->Option (Wj.S ⊕ (List Bool))
 | .l1 Xn Qi=>Wj.l1 Xn Qi
 | .l2 Qaz Xv=>Wj.l2 a0 Qaz Xv
 | .l3 Qcp Qb5 Qa2=>Wj.l3 a0 Qcp Qb5 Qa2
def Wj (a0:List Qf):Option (List Bool):=
 Xx (Wj.step a0) (.l1 0 ([]:List Bool))
inductive Za.S where
 | l1 (Wz:Int) (Qi:List Qf)
 | l2 (Qaz:Int) (Qa4:Int) (Xv:List Qf)
def Za.j1 (Qaz:Int) (Qa4:Int) (Xv:List Qf) (Qc9:Bool):Option (Za.S ⊕ ((List Qf) × Int)):=
 if Qc9=true then
  some (.inl (.l2 (IntKind.wrap .i64 (Qaz+1)) Qa4 Xv))
 else
  if Qaz > Qa4 then
   if (Xv.length+1) * 16<=140737488355328 then
    some (.inl (.l1 Qaz (Xv ++ [(⟨Qa4,Qaz⟩:Qf)])))
   else none
  else
   some (.inl (.l1 (IntKind.wrap .i64 (Qaz+1)) Xv))
def Za.l1 (a0:List Bool) (Wz:Int) (Qi:List Qf):Option (Za.S ⊕ ((List Qf) × Int)):=
 if Wz < (a0.length:Int) then
  some (.inl (.l2 Wz Wz Qi))
 else
  if (Qi.length:Int) > 64 then
   some (.inr (([]:List Qf),2))
  else
   some (.inr (Qi,0))
def Za.l2 (a0:List Bool) (Qaz:Int) (Qa4:Int) (Xv:List Qf):Option (Za.S ⊕ ((List Qf) × Int)):=
 if Qaz < (a0.length:Int) then
  if 0<=Qaz/\Qaz < (a0.length:Int) then
   Za.j1 Qaz Qa4 Xv (a0.getD Qaz.toNat false)
  else none
 else
  Za.j1 Qaz Qa4 Xv false
def Za.step (a0:List Bool):Za.S->Option (Za.S ⊕ ((List Qf) × Int))
 | .l1 Wz Qi=>Za.l1 a0 Wz Qi
 | .l2 Qaz Qa4 Xv=>Za.l2 a0 Qaz Qa4 Xv
def Za (a0:List Bool):Option ((List Qf) × Int):=
 Xx (Za.step a0) (.l1 0 ([]:List Qf))
inductive Qal.S where
 | l1 (Xn:Int)
def Qal.l1 (a0:List Qf) (Xn:Int):Option (Qal.S ⊕ ((List Qf) × Int)):=
 if Xn < (a0.length:Int) then
  if 0<=Xn/\Xn < (a0.length:Int) then
   if (Zk (a0.getD Xn.toNat Qf.z))=true then
    some (.inl (.l1 (IntKind.wrap .i64 (Xn+1))))
   else
    some (.inr (([]:List Qf),1))
  else none
 else
  (Wj a0).bind fun v1=>
  (Za v1).bind fun v2=>
  some (.inr (v2.1,v2.2))
def Qal.step (a0:List Qf):Qal.S->Option (Qal.S ⊕ ((List Qf) × Int))
 | .l1 Xn=>Qal.l1 a0 Xn
def Qal (a0:List Qf):Option ((List Qf) × Int):=
 Xx (Qal.step a0) (.l1 0)
inductive Yc.S where
 | l1 (Xn:Int) (Wm:List Qf)
def Yc.l1 (a0:Xd) (Xn:Int) (Wm:List Qf):Option (Yc.S ⊕ (List Qf)):=
 if Xn < (a0.Pairs.length:Int) then
  if 0<=Xn/\Xn < (a0.Pairs.length:Int) then
   if (Wm.length+1) * 16<=140737488355328 then
    some (.inl (.l1 (IntKind.wrap .i64 (Xn+1)) (Wm ++ [(⟨(a0.Pairs.getD Xn.toNat Qd.z).Key,IntKind.wrap .i64 (((a0.Pairs.getD Xn.toNat Qd.z).Key)+1)⟩:Qf)])))
   else none
  else none
 else
  (Qal Wm).bind fun v2=>
  some (.inr v2.1)
def Yc.step (a0:Xd):Yc.S->Option (Yc.S ⊕ (List Qf))
 | .l1 Xn Wm=>Yc.l1 a0 Xn Wm
def Yc (a0:Xd):Option (List Qf):=
 (Qq a0).bind fun v1=>
 if v1=true then
  if a0.Kind=2 then
   some ([a0.Over]:List Qf)
  else
   Xx (Yc.step a0) (.l1 0 ([]:List Qf))
 else
  some ([]:List Qf)
inductive Qs.S where
 | l1 (Qr:Int) (Qy:Int)
 | l2 (v3:List Qf) (Yp:Int) (Qdm:Int) (Qap:Bool) (Qba:Int)
 | l3 (v3:List Qf) (Qf3:Int) (Qf4:Int) (Qgn:Bool) (Qbn:Int) (Qbz:Int)
def Qs.j1 (a0:List Qg) (Qr:Int) (Qy:Int) (Qh9:Bool):Option (Qs.S ⊕ Int):=
 if Qh9=true then
  if 0<=Qy/\Qy < (a0.length:Int) then
   (Yc ((a0.getD Qy.toNat Qg.z).M)).bind fun v3=>
   some (.inl (.l2 v3 Qr Qy false 0))
  else none
 else
  some (.inr Qr)
def Qs.j3 (Qdm:Int) (Qgl:Int):Option (Qs.S ⊕ Int):=
 some (.inl (.l1 Qgl (IntKind.wrap .i64 (Qdm+1))))
def Qs.j2 (Yp:Int) (Qdm:Int) (Qqw:Bool):Option (Qs.S ⊕ Int):=
 if Qqw=true then
  Qs.j3 Qdm (IntKind.wrap .i64 (Yp+1))
 else
  Qs.j3 Qdm Yp
def Qs.j4 (Qf3:Int) (Qf4:Int) (Qbn:Int) (Qbz:Int) (v3:List Qf) (Qn8:Bool):Option (Qs.S ⊕ Int):=
 some (.inl (.l3 v3 Qf3 Qf4 Qn8 Qbn (IntKind.wrap .i64 (Qbz+1))))
def Qs.l1 (a0:List Qg) (a1:List Qf) (Qr:Int) (Qy:Int):Option (Qs.S ⊕ Int):=
 if Qy < (a0.length:Int) then
  (Yn a0).bind fun v1=>
  if v1=true then
   (Yu a1).bind fun v2=>
   Qs.j1 a0 Qr Qy v2
  else
   Qs.j1 a0 Qr Qy false
 else
  Qs.j1 a0 Qr Qy false
def Qs.l2 (a0:List Qg) (a2:Int) (v3:List Qf) (Yp:Int) (Qdm:Int) (Qap:Bool) (Qba:Int):Option (Qs.S ⊕ Int):=
 if Qba < (v3.length:Int) then
  some (.inl (.l3 v3 Yp Qdm Qap Qba 0))
 else
  if Qap=true then
   if 0<=Qdm/\Qdm < (a0.length:Int) then
    Qs.j2 Yp Qdm (decide (((a0.getD Qdm.toNat Qg.z).Time) > a2))
   else none
  else
   Qs.j2 Yp Qdm false
def Qs.l3 (a1:List Qf) (v3:List Qf) (Qf3:Int) (Qf4:Int) (Qgn:Bool) (Qbn:Int) (Qbz:Int):Option (Qs.S ⊕ Int):=
 if Qbz < (a1.length:Int) then
  if Qgn=true then
   Qs.j4 Qf3 Qf4 Qbn Qbz v3 true
  else
   if 0<=Qbn/\Qbn < (v3.length:Int) then
    if 0<=Qbz/\Qbz < (a1.length:Int) then
     if ((v3.getD Qbn.toNat Qf.z).Lo) < ((a1.getD Qbz.toNat Qf.z).Hi) then
      Qs.j4 Qf3 Qf4 Qbn Qbz v3 (decide (((a1.getD Qbz.toNat Qf.z).Lo) < ((v3.getD Qbn.toNat Qf.z).Hi)))
     else
      Qs.j4 Qf3 Qf4 Qbn Qbz v3 false
    else none
   else none
 else
  some (.inl (.l2 v3 Qf3 Qf4 Qgn (IntKind.wrap .i64 (Qbn+1))))
def Qs.step (a0:List Qg) (a1:List Qf) (a2:Int):Qs.S->Option (Qs.S ⊕ Int)
 | .l1 Qr Qy=>Qs.l1 a0 a1 Qr Qy
 | .l2 v3 Yp Qdm Qap Qba=>Qs.l2 a0 a2 v3 Yp Qdm Qap Qba
 | .l3 v3 Qf3 Qf4 Qgn Qbn Qbz=>Qs.l3 a1 v3 Qf3 Qf4 Qgn Qbn Qbz
def Qs (a0:List Qg) (a1:List Qf) (a2:Int):Option Int:=
 Xx (Qs.step a0 a1 a2) (.l1 0 0)
def Qak.j1 (Qdj:Bool):Option Bool:=
 some Qdj
def Qak (a0:Qg) (a1:Qg):Option Bool:=
 (Xm a0.M a1.M).bind fun v1=>
 if v1=true then
  if a0.Time=a1.Time then
   Qak.j1 (a0.Qai == a1.Qai)
  else
   Qak.j1 false
 else
  Qak.j1 false
inductive Zq.S where
 | l1 (Xn:Int) (Qi:List Qf)
def Zq.l1 (a0:List Qb) (Xn:Int) (Qi:List Qf):Option (Zq.S ⊕ (List Qf)):=
 if Xn < (a0.length:Int) then
  if 0<=Xn/\Xn < (a0.length:Int) then
   if (Qi.length+1) * 16<=140737488355328 then
    some (.inl (.l1 (IntKind.wrap .i64 (Xn+1)) (Qi ++ [(⟨(a0.getD Xn.toNat Qb.z).Lo,(a0.getD Xn.toNat Qb.z).Hi⟩:Qf)])))
   else none
  else none
 else
  some (.inr Qi)
def Zq.step (a0:List Qb):Zq.S->Option (Zq.S ⊕ (List Qf))
 | .l1 Xn Qi=>Zq.l1 a0 Xn Qi
def Zq (a0:List Qb):Option (List Qf):=
 Xx (Zq.step a0) (.l1 0 ([]:List Qf))
end
end Go.SyP
namespace Go.SyP
open Go Go.Sy
noncomputable section
abbrev PT:=Int->List Qn × Int
def Qcs.j1 (a2:Wn) (P:PT):Option (Int × PT):=
 some (0,Qhl P a2.Client ((P a2.Client).1,a2.Mark))
def Qcs (a1:List Qe) (a2:Wn) (P:PT):Option (Int × PT):=
 (Zl a2).bind fun v1=>
 if v1=true then
  if a2.Kind=1 then
   if a2.M.Seq=(IntKind.wrap .i64 (((P a2.Client).1.length:Int)+1)) then
    if a2.M.Pairs.length * 16<=140737488355328 then
     if (((P a2.Client).1).length+1) * 72<=140737488355328 then
      some (0,Qhl P a2.Client (((P a2.Client).1) ++ [a2.M],(P a2.Client).2))
     else none
    else none
   else
    some (2,P)
  else
   if a2.Mark < ((P a2.Client).2) then
    some (3,P)
   else
    (Qde a1 (⟨(P a2.Client).1,a2.Mark⟩:Qf5) a2.Key a2.Mark).bind fun v2=>
    if v2.Val=a2.Cell.Val then
     if v2.Some=true then
      if a2.Cell.Some=true then
       Qcs.j1 a2 P
      else
       some (4,Qhl P a2.Client ((P a2.Client).1,a2.Mark))
     else
      if a2.Cell.Some=true then
       some (4,Qhl P a2.Client ((P a2.Client).1,a2.Mark))
      else
       Qcs.j1 a2 P
    else
     if v2.Some=true then
      if a2.Cell.Some=true then
       some (4,Qhl P a2.Client ((P a2.Client).1,a2.Mark))
      else
       some (4,Qhl P a2.Client ((P a2.Client).1,a2.Mark))
     else
      if a2.Cell.Some=true then
       some (4,Qhl P a2.Client ((P a2.Client).1,a2.Mark))
      else
       some (4,Qhl P a2.Client ((P a2.Client).1,a2.Mark))
 else
  some (1,P)
inductive Jz.S where
 | l1 (Zo:Int) (Qi:PT) (Yr:List Yt)
def Jz.j1 (Zo:Int) (v2:Int × PT) (Qk0:List Yt):Option (Jz.S ⊕ ((List Yt) × Int)):=
 some (.inl (.l1 (IntKind.wrap .i64 (Zo+1)) v2.2 Qk0))
def Jz.l1 (a0:List Qe) (a1:List Wn) (Zo:Int) (Qi:PT) (Yr:List Yt):Option (Jz.S ⊕ ((List Yt) × Int)):=
 if Zo < (a1.length:Int) then
  if 0<=Zo/\Zo < (a1.length:Int) then
   (Qcs a0 (a1.getD Zo.toNat Wn.z) Qi).bind fun v2=>
   if v2.1=0 then
    Jz.j1 Zo v2 Yr
   else
    if (Yr.length+1) * 16<=140737488355328 then
     Jz.j1 Zo v2 (Yr ++ [(⟨Zo,v2.1⟩:Yt)])
    else none
  else none
 else
  some (.inr (Yr,0))
def Jz.step (a0:List Qe) (a1:List Wn):Jz.S->Option (Jz.S ⊕ ((List Yt) × Int))
 | .l1 Zo Qi Yr=>Jz.l1 a0 a1 Zo Qi Yr
def Jz (a0:List Qe) (a1:List Wn):Option ((List Yt) × Int):=
 (Zn a0).bind fun v1=>
 if v1=true then
  Xx (Jz.step a0 a1) (.l1 0 (fun _=>([],0):PT) ([]:List Yt))
 else
  some (([]:List Yt),1)
end
end Go.SyP
