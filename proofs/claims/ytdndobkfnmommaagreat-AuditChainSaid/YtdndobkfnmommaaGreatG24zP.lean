/- Plain functions, printed by gen.py. -/
import Derived.Test.YtdndobkfnmommaaGreatSyArr
import Derived.Test.YtdndobkfnmommaaGreatSyPast
set_option linter.unusedVariables false
namespace Go.SyP
open Go Go.Sy
noncomputable section
structure Qb where
 Lo:Int
 Hi:Int
def Qb.z:Qb:=⟨0,0⟩
structure Qa where
 Key:Int
 Val:Int
def Qa.z:Qa:=⟨0,0⟩
structure Ql where
 Client:Int
 Seq:Int
 Kind:Int
 Pairs:List Qa
 Over:Qb
 Old:Int
def Ql.z:Ql:=⟨0,0,0,[],Qb.z,0⟩
structure Qlk where
 Qzc:Int
 Time:Int
def Qlk.z:Qlk:=⟨0,0⟩
structure Qgy where
 M:Ql
 Time:Int
 Qza:Bool
 Qnf:List Qlk
def Qgy.z:Qgy:=⟨Ql.z,0,false,[]⟩
structure Qd where
 M:Ql
 Time:Int
 Jt:Bool
def Qd.z:Qd:=⟨Ql.z,0,false⟩
structure Qhr where
 Client:Int
 Seq:Int
 Time:Int
 Jt:Bool
def Qhr.z:Qhr:=⟨0,0,0,false⟩
structure Qjp where
 ID:Int
 Keys:Qb
 Clock:Int
 Qvw:Bool
 Qvy:Bool
 Held:List Qgy
 Base:List Qa
 Log:List Qd
 Qkx:List Qhr
structure Qc where
 Key:Int
 Val:Int
def Qc.z:Qc:=⟨0,0⟩
structure Qi where
 Lo:Int
 Hi:Int
def Qi.z:Qi:=⟨0,0⟩
structure Qk where
 Client:Int
 Seq:Int
 Kind:Int
 Pairs:List Qc
 Over:Qi
 Old:Int
def Qk.z:Qk:=⟨0,0,0,[],Qi.z,0⟩
structure Qbk where
 Qzc:Int
 Time:Int
def Qbk.z:Qbk:=⟨0,0⟩
structure Zr where
 M:Qk
 Time:Int
 Qza:Bool
 Qnf:List Qbk
def Zr.z:Zr:=⟨Qk.z,0,false,[]⟩
structure Qe where
 M:Qk
 Time:Int
 Jt:Bool
def Qe.z:Qe:=⟨Qk.z,0,false⟩
structure Jo where
 Client:Int
 Seq:Int
 Time:Int
 Jt:Bool
def Jo.z:Jo:=⟨0,0,0,false⟩
structure Qai where
 ID:Int
 Keys:Qi
 Clock:Int
 Qvw:Bool
 Qvy:Bool
 Held:List Zr
 Base:List Qc
 Log:List Qe
 Qkx:List Jo
structure Qa9 where
 Time:Int
 Client:Int
 Seq:Int
structure Yv where
 Val:Int
 Some:Bool
def Yv.z:Yv:=⟨0,false⟩
structure Qy where
 Kind:Int
 Client:Int
 M:Ql
 Key:Int
 Cell:Yv
 Mark:Int
def Qy.z:Qy:=⟨0,0,Ql.z,0,Yv.z,0⟩
structure Qft where
 l:List Ql
 mark:Int
structure Wq where
 E:Qd
 Was:Yv
 Is:Yv
def Wq.z:Wq:=⟨Qd.z,Yv.z,Yv.z⟩
structure Qbc where
 Time:Int
 Client:Int
 Seq:Int
structure Xf where
 Val:Int
 Some:Bool
def Xf.z:Xf:=⟨0,false⟩
structure Zo where
 E:Qe
 Was:Xf
 Is:Xf
def Zo.z:Zo:=⟨Qe.z,Xf.z,Xf.z⟩
structure Ym where
 At:Int
 Why:Int
def Ym.z:Ym:=⟨0,0⟩
structure Qjq where
 i0:Int
 i1:Int
structure Xc where
 Kind:Int
 Client:Int
 M:Qk
 Key:Int
 Cell:Xf
 Mark:Int
def Xc.z:Xc:=⟨0,0,Qk.z,0,Xf.z,0⟩
inductive Zq.S where
 | l1 (Zm:Int) (Qj:List Qc)
def Zq.l1 (a0:List Qa) (Zm:Int) (Qj:List Qc):Option (Zq.S ⊕ (List Qc)):=
 if Zm < (a0.length:Int) then
  if 0<=Zm/\Zm < (a0.length:Int) then
   if (Qj.length+1) * 16<=140737488355328 then
    some (.inl (.l1 (IntKind.wrap .i64 (Zm+1)) (Qj ++ [(⟨(a0.getD Zm.toNat Qa.z).Key,(a0.getD Zm.toNat Qa.z).Val⟩:Qc)])))
   else none
  else none
 else
  some (.inr Qj)
def Zq.step (a0:List Qa):Zq.S->Option (Zq.S ⊕ (List Qc))
 | .l1 Zm Qj=>Zq.l1 a0 Zm Qj
def Zq (a0:List Qa):Option (List Qc):=
 Yb (Zq.step a0) (.l1 0 ([]:List Qc))
inductive Xa.S where
 | l1 (Zm:Int) (Yl:List Qc)
def Xa.l1 (a0:Ql) (Zm:Int) (Yl:List Qc):Option (Xa.S ⊕ Qk):=
 if Zm < (a0.Pairs.length:Int) then
  if 0<=Zm/\Zm < (a0.Pairs.length:Int) then
   if (Yl.length+1) * 16<=140737488355328 then
    some (.inl (.l1 (IntKind.wrap .i64 (Zm+1)) (Yl ++ [(⟨(a0.Pairs.getD Zm.toNat Qa.z).Key,(a0.Pairs.getD Zm.toNat Qa.z).Val⟩:Qc)])))
   else none
  else none
 else
  some (.inr (⟨a0.Client,a0.Seq,a0.Kind,Yl,(⟨a0.Over.Lo,a0.Over.Hi⟩:Qi),a0.Old⟩:Qk))
def Xa.step (a0:Ql):Xa.S->Option (Xa.S ⊕ Qk)
 | .l1 Zm Yl=>Xa.l1 a0 Zm Yl
def Xa (a0:Ql):Option Qk:=
 Yb (Xa.step a0) (.l1 0 ([]:List Qc))
inductive Qbe.S where
 | l1 (Zm:Int) (Yl:List Zr)
 | l2 (Yq:Int) (Qan:List Zr) (Qqd:List Qe)
 | l3 (v2:Qk) (Ql1:Int) (Qg1:Int) (Qqe:List Zr) (Qna:Int) (Qnb:Bool) (Qqf:List Qbk)
 | l4 (Ql2:Int) (Qs7:List Zr) (Qs8:List Qe) (Qqg:List Jo)
def Qbe.l1 (a0:Qjp) (Zm:Int) (Yl:List Zr):Option (Qbe.S ⊕ Qai):=
 if Zm < (a0.Held.length:Int) then
  if 0<=Zm/\Zm < (a0.Held.length:Int) then
   (Xa ((a0.Held.getD Zm.toNat Qgy.z).M)).bind fun v2=>
   some (.inl (.l3 v2 Zm 0 Yl ((a0.Held.getD Zm.toNat Qgy.z).Time) ((a0.Held.getD Zm.toNat Qgy.z).Qza) ([]:List Qbk)))
  else none
 else
  some (.inl (.l2 0 Yl ([]:List Qe)))
def Qbe.l2 (a0:Qjp) (Yq:Int) (Qan:List Zr) (Qqd:List Qe):Option (Qbe.S ⊕ Qai):=
 if Yq < (a0.Log.length:Int) then
  if 0<=Yq/\Yq < (a0.Log.length:Int) then
   (Xa ((a0.Log.getD Yq.toNat Qd.z).M)).bind fun v3=>
   if (Qqd.length+1) * 88<=140737488355328 then
    some (.inl (.l2 (IntKind.wrap .i64 (Yq+1)) Qan (Qqd ++ [(⟨v3,(a0.Log.getD Yq.toNat Qd.z).Time,(a0.Log.getD Yq.toNat Qd.z).Jt⟩:Qe)])))
   else none
  else none
 else
  some (.inl (.l4 0 Qan Qqd ([]:List Jo)))
def Qbe.l3 (a0:Qjp) (v2:Qk) (Ql1:Int) (Qg1:Int) (Qqe:List Zr) (Qna:Int) (Qnb:Bool) (Qqf:List Qbk):Option (Qbe.S ⊕ Qai):=
 if 0<=Ql1/\Ql1 < (a0.Held.length:Int) then
  if Qg1 < (((a0.Held.getD Ql1.toNat Qgy.z).Qnf).length:Int) then
   if 0<=Qg1/\Qg1 < (((a0.Held.getD Ql1.toNat Qgy.z).Qnf).length:Int) then
    if (Qqf.length+1) * 16<=140737488355328 then
     some (.inl (.l3 v2 Ql1 (IntKind.wrap .i64 (Qg1+1)) Qqe Qna Qnb (Qqf ++ [(⟨(((a0.Held.getD Ql1.toNat Qgy.z).Qnf).getD Qg1.toNat Qlk.z).Qzc,(((a0.Held.getD Ql1.toNat Qgy.z).Qnf).getD Qg1.toNat Qlk.z).Time⟩:Qbk)])))
    else none
   else none
  else
   if (Qqe.length+1) * 112<=140737488355328 then
    some (.inl (.l1 (IntKind.wrap .i64 (Ql1+1)) (Qqe ++ [(⟨v2,Qna,Qnb,Qqf⟩:Zr)])))
   else none
 else none
def Qbe.l4 (a0:Qjp) (v1:List Qc) (Ql2:Int) (Qs7:List Zr) (Qs8:List Qe) (Qqg:List Jo):Option (Qbe.S ⊕ Qai):=
 if Ql2 < (a0.Qkx.length:Int) then
  if 0<=Ql2/\Ql2 < (a0.Qkx.length:Int) then
   if (Qqg.length+1) * 32<=140737488355328 then
    some (.inl (.l4 (IntKind.wrap .i64 (Ql2+1)) Qs7 Qs8 (Qqg ++ [(⟨(a0.Qkx.getD Ql2.toNat Qhr.z).Client,(a0.Qkx.getD Ql2.toNat Qhr.z).Seq,(a0.Qkx.getD Ql2.toNat Qhr.z).Time,(a0.Qkx.getD Ql2.toNat Qhr.z).Jt⟩:Jo)])))
   else none
  else none
 else
  some (.inr (⟨a0.ID,(⟨a0.Keys.Lo,a0.Keys.Hi⟩:Qi),a0.Clock,a0.Qvw,a0.Qvy,Qs7,v1,Qs8,Qqg⟩:Qai))
def Qbe.step (a0:Qjp) (v1:List Qc):Qbe.S->Option (Qbe.S ⊕ Qai)
 | .l1 Zm Yl=>Qbe.l1 a0 Zm Yl
 | .l2 Yq Qan Qqd=>Qbe.l2 a0 Yq Qan Qqd
 | .l3 v2 Ql1 Qg1 Qqe Qna Qnb Qqf=>Qbe.l3 a0 v2 Ql1 Qg1 Qqe Qna Qnb Qqf
 | .l4 Ql2 Qs7 Qs8 Qqg=>Qbe.l4 a0 v1 Ql2 Qs7 Qs8 Qqg
def Qbe (a0:Qjp):Option Qai:=
 (Zq a0.Base).bind fun v1=>
 Yb (Qbe.step a0 v1) (.l1 0 ([]:List Zr))
inductive Za.S where
 | l1 (Wi:Int)
def Za.l1 (a0:List Qa) (p1:Qa->Option Bool) (Wi:Int):Option (Za.S ⊕ Int):=
 if Wi < (a0.length:Int) then
  if 0<=Wi/\Wi < (a0.length:Int) then
   (p1 (a0.getD Wi.toNat Qa.z)).bind fun v1=>
   if v1=true then
    some (.inr Wi)
   else
    some (.inl (.l1 (IntKind.wrap .i64 (Wi+1))))
  else none
 else
  some (.inr (-1))
def Za.step (a0:List Qa) (p1:Qa->Option Bool):Za.S->Option (Za.S ⊕ Int)
 | .l1 Wi=>Za.l1 a0 p1 Wi
def Za (a0:List Qa) (p1:Qa->Option Bool):Option Int:=
 Yb (Za.step a0 p1) (.l1 0)
def Qcm (a0:List Qa) (p1:Qa->Option Bool):Option Bool:=
 (Za a0 p1).bind fun v1=>
 some (decide (v1>=0))
def Qct.j1 (Qa8:Bool):Bool:=
 Qa8
def Qct (a0:Int):Bool:=
 if a0>=(-1099511627776) then
  Qct.j1 (decide (a0<=1099511627776))
 else
  Qct.j1 false
def Qd9.j1 (Qa8:Bool):Bool:=
 Qa8
def Qd9 (a0:Qa):Bool:=
 if a0.Key>=0 then
  if a0.Key < 4096 then
   Qd9.j1 (Qct a0.Val)
  else
   Qd9.j1 false
 else
  Qd9.j1 false
def Qf2 (a0:Qa):Bool:=
 (!(Qd9 a0))
def Qcj.j1 (Qtv:Bool):Option Bool:=
 some Qtv
def Qcj (a0:Ql) (a1:Int) (a2:Int):Option Bool:=
 if (a0.Pairs.length:Int)>=a1 then
  if (a0.Pairs.length:Int)<=a2 then
   (Qcm a0.Pairs (fun z0=>some (Qf2 z0))).bind fun v1=>
   Qcj.j1 (!v1)
  else
   Qcj.j1 false
 else
  Qcj.j1 false
inductive Qb3.S where
 | l1 (We:Int)
def Qb3.l1 (a0:List Qa) (We:Int):Option (Qb3.S ⊕ Bool):=
 if We < (a0.length:Int) then
  if 0<=(IntKind.wrap .i64 (We - 1))/\(IntKind.wrap .i64 (We - 1)) < (a0.length:Int) then
   if 0<=We/\We < (a0.length:Int) then
    if ((a0.getD ((IntKind.wrap .i64 (We - 1)).toNat) Qa.z).Key)>=((a0.getD We.toNat Qa.z).Key) then
     some (.inr false)
    else
     some (.inl (.l1 (IntKind.wrap .i64 (We+1))))
   else none
  else none
 else
  some (.inr true)
def Qb3.step (a0:List Qa):Qb3.S->Option (Qb3.S ⊕ Bool)
 | .l1 We=>Qb3.l1 a0 We
def Qb3 (a0:List Qa):Option Bool:=
 Yb (Qb3.step a0) (.l1 1)
def Qbj.j1 (Qa8:Bool):Bool:=
 Qa8
def Qbj (a0:Qb):Bool:=
 if a0.Lo>=0 then
  if a0.Lo < a0.Hi then
   Qbj.j1 (decide (a0.Hi<=4096))
  else
   Qbj.j1 false
 else
  Qbj.j1 false
def Yz.j2 (Qhb:Bool):Option Bool:=
 some Qhb
def Yz.j3 (Qj6:Bool):Option Bool:=
 some Qj6
def Yz.j4 (Qj7:Bool):Option Bool:=
 some Qj7
def Yz.j5 (Qj8:Bool):Option Bool:=
 some Qj8
def Yz.j1 (a0:Ql) (Qql:Bool):Option Bool:=
 if Qql=true then
  some false
 else
  if a0.Kind=1 then
   (Qcj a0 1 8).bind fun v1=>
   if v1=true then
    (Qb3 a0.Pairs).bind fun v2=>
    Yz.j2 v2
   else
    Yz.j2 false
  else
   if a0.Kind=2 then
    if (a0.Pairs.length:Int)=0 then
     Yz.j3 (Qbj a0.Over)
    else
     Yz.j3 false
   else
    if a0.Kind=3 then
     (Qcj a0 1 1).bind fun v3=>
     some v3
    else
     if a0.Kind=4 then
      (Qcj a0 1 1).bind fun v4=>
      if v4=true then
       if (Qct a0.Old)=true then
        Yz.j4 true
       else
        Yz.j4 (a0.Old == 1099511627777)
      else
       Yz.j4 false
     else
      if a0.Kind=5 then
       (Qcj a0 2 2).bind fun v5=>
       if v5=true then
        if (0:Int)<=0/\0 < (a0.Pairs.length:Int) then
         if (0:Int)<=1/\1 < (a0.Pairs.length:Int) then
          if ((a0.Pairs.getD 0 Qa.z).Key)=((a0.Pairs.getD 1 Qa.z).Key) then
           Yz.j5 false
          else
           if ((a0.Pairs.getD 0 Qa.z).Val)=((a0.Pairs.getD 1 Qa.z).Val) then
            Yz.j5 (decide (((a0.Pairs.getD 0 Qa.z).Val)>=0))
           else
            Yz.j5 false
         else none
        else none
       else
        Yz.j5 false
      else
       some false
def Yz (a0:Ql):Option Bool:=
 if a0.Kind=2 then
  if a0.Kind=4 then
   Yz.j1 a0 false
  else
   Yz.j1 a0 (a0.Old != 0)
 else
  if a0.Over.Lo=0 then
   if a0.Over.Hi=0 then
    if a0.Kind=4 then
     Yz.j1 a0 false
    else
     Yz.j1 a0 (a0.Old != 0)
   else
    Yz.j1 a0 true
  else
   if a0.Over.Hi=0 then
    Yz.j1 a0 true
   else
    Yz.j1 a0 true
def Qbg.j1 (Qa8:Bool):Option Bool:=
 some Qa8
def Qbg (a0:Ql):Option Bool:=
 if a0.Client>=1 then
  if a0.Client<=1048576 then
   if a0.Seq>=1 then
    if a0.Seq<=1073741824 then
     (Yz a0).bind fun v1=>
     Qbg.j1 v1
    else
     Qbg.j1 false
   else
    Qbg.j1 false
  else
   Qbg.j1 false
 else
  Qbg.j1 false
def Qi3 (a0:Int) (a1:Ql):Qa9:=
 (⟨a0,a1.Client,a1.Seq⟩:Qa9)
def Qda (a0:Qd):Qa9:=
 bnd (Qi3 a0.Time a0.M) fun (v1:Qa9)=>
 v1
def cmp_isNaN_int (a0:Int):Bool:=
 (a0 != a0)
def Zc (a0:Int) (a1:Int):Int:=
 if (cmp_isNaN_int a0)=true then
  if (cmp_isNaN_int a1)=true then
   0
  else
   (-1)
 else
  if (cmp_isNaN_int a1)=true then
   1
  else
   if a0 < a1 then
    (-1)
   else
    if a0 > a1 then
     1
    else
     0
inductive Qav.S where
 | l1 (Wi:Int)
def Qav.l1 (a0:List Int) (Wi:Int):Option (Qav.S ⊕ Int):=
 if Wi < (a0.length:Int) then
  if 0<=Wi/\Wi < (a0.length:Int) then
   if (a0.getD Wi.toNat 0)=0 then
    some (.inl (.l1 (IntKind.wrap .i64 (Wi+1))))
   else
    some (.inr (a0.getD Wi.toNat 0))
  else none
 else
  some (.inr 0)
def Qav.step (a0:List Int):Qav.S->Option (Qav.S ⊕ Int)
 | .l1 Wi=>Qav.l1 a0 Wi
def Qav (a0:List Int):Option Int:=
 Yb (Qav.step a0) (.l1 0)
def Qcz (a0:Qa9) (a1:Qa9):Option Int:=
 (Qav ([Zc a0.Time a1.Time,Zc a0.Client a1.Client,Zc a0.Seq a1.Seq]:List Int)).bind fun v1=>
 some v1
inductive Zb.S where
 | l1 (Qq:Int)
def Zb.j1 (Qq:Int) (Qqp:Bool):Option (Zb.S ⊕ Bool):=
 if Qqp=true then
  some (.inr false)
 else
  some (.inl (.l1 (IntKind.wrap .i64 (Qq+1))))
def Zb.l1 (a0:List Qd) (Qq:Int):Option (Zb.S ⊕ Bool):=
 if Qq < (a0.length:Int) then
  if 0<=Qq/\Qq < (a0.length:Int) then
   (Qbg ((a0.getD Qq.toNat Qd.z).M)).bind fun v1=>
   if v1=true then
    if Qq > 0 then
     if 0<=(IntKind.wrap .i64 (Qq - 1))/\(IntKind.wrap .i64 (Qq - 1)) < (a0.length:Int) then
      (Qcz (Qda (a0.getD ((IntKind.wrap .i64 (Qq - 1)).toNat) Qd.z)) (Qda (a0.getD Qq.toNat Qd.z))).bind fun v2=>
      Zb.j1 Qq (decide (v2>=0))
     else none
    else
     Zb.j1 Qq false
   else
    Zb.j1 Qq true
  else none
 else
  some (.inr true)
def Zb.step (a0:List Qd):Zb.S->Option (Zb.S ⊕ Bool)
 | .l1 Qq=>Zb.l1 a0 Qq
def Zb (a0:List Qd):Option Bool:=
 Yb (Zb.step a0) (.l1 0)
inductive Yu.S where
 | l1 (Zt:Int)
def Yu.l1 (a0:List Qa) (a1:List Qa) (Zt:Int):Option (Yu.S ⊕ Bool):=
 if Zt < (a0.length:Int) then
  if 0<=Zt/\Zt < (a0.length:Int) then
   if 0<=Zt/\Zt < (a1.length:Int) then
    if ((a0.getD Zt.toNat Qa.z).Key)=((a1.getD Zt.toNat Qa.z).Key) then
     if ((a0.getD Zt.toNat Qa.z).Val)=((a1.getD Zt.toNat Qa.z).Val) then
      some (.inl (.l1 (IntKind.wrap .i64 (Zt+1))))
     else
      some (.inr false)
    else
     if ((a0.getD Zt.toNat Qa.z).Val)=((a1.getD Zt.toNat Qa.z).Val) then
      some (.inr false)
     else
      some (.inr false)
   else none
  else none
 else
  some (.inr true)
def Yu.step (a0:List Qa) (a1:List Qa):Yu.S->Option (Yu.S ⊕ Bool)
 | .l1 Zt=>Yu.l1 a0 a1 Zt
def Yu (a0:List Qa) (a1:List Qa):Option Bool:=
 if (a0.length:Int)=(a1.length:Int) then
  Yb (Yu.step a0 a1) (.l1 0)
 else
  some false
def Qcn.j1 (Qc9:Bool):Option Bool:=
 some Qc9
def Qcn (a0:Ql) (a1:Ql):Option Bool:=
 if a0.Client=a1.Client then
  if a0.Seq=a1.Seq then
   if a0.Kind=a1.Kind then
    if a0.Over.Lo=a1.Over.Lo then
     if a0.Over.Hi=a1.Over.Hi then
      if a0.Old=a1.Old then
       (Yu a0.Pairs a1.Pairs).bind fun v1=>
       Qcn.j1 v1
      else
       Qcn.j1 false
     else
      Qcn.j1 false
    else
     if a0.Over.Hi=a1.Over.Hi then
      Qcn.j1 false
     else
      Qcn.j1 false
   else
    Qcn.j1 false
  else
   Qcn.j1 false
 else
  Qcn.j1 false
def Qdg.j1 (Qa8:Bool):Bool:=
 Qa8
def Qdg (a0:Yv):Bool:=
 if a0.Some=true then
  if a0.Val>=(-1099511627776) then
   Qdg.j1 (decide (a0.Val<=1099511627776))
  else
   Qdg.j1 false
 else
  (a0.Val == 0)
def Ze.j1 (Qa8:Bool):Option Bool:=
 some Qa8
def Ze.j2 (Qhb:Bool):Option Bool:=
 some Qhb
def Ze (a0:Qy):Option Bool:=
 if a0.Kind=1 then
  (Qbg a0.M).bind fun v1=>
  if v1=true then
   if a0.M.Client=a0.Client then
    if a0.Key=0 then
     if a0.Cell.Val=0 then
      if a0.Cell.Some=true then
       Ze.j1 false
      else
       Ze.j1 (a0.Mark == 0)
     else
      if a0.Cell.Some=true then
       Ze.j1 false
      else
       Ze.j1 false
    else
     Ze.j1 false
   else
    Ze.j1 false
  else
   Ze.j1 false
 else
  if a0.Kind=2 then
   (Qcn a0.M (⟨0,0,0,[],(⟨0,0⟩:Qb),0⟩:Ql)).bind fun v2=>
   if v2=true then
    if a0.Client>=1 then
     if a0.Client<=1048576 then
      if a0.Key>=0 then
       if a0.Key < 4096 then
        if (Qdg a0.Cell)=true then
         Ze.j2 (decide (a0.Mark>=0))
        else
         Ze.j2 false
       else
        Ze.j2 false
      else
       Ze.j2 false
     else
      Ze.j2 false
    else
     Ze.j2 false
   else
    Ze.j2 false
  else
   some false
inductive Zg.S where
 | l1 (Wi:Int)
def Zg.l1 (a0:List Qd) (p1:Qd->Option Bool) (Wi:Int):Option (Zg.S ⊕ Int):=
 if Wi < (a0.length:Int) then
  if 0<=Wi/\Wi < (a0.length:Int) then
   (p1 (a0.getD Wi.toNat Qd.z)).bind fun v1=>
   if v1=true then
    some (.inr Wi)
   else
    some (.inl (.l1 (IntKind.wrap .i64 (Wi+1))))
  else none
 else
  some (.inr (-1))
def Zg.step (a0:List Qd) (p1:Qd->Option Bool):Zg.S->Option (Zg.S ⊕ Int)
 | .l1 Wi=>Zg.l1 a0 p1 Wi
def Zg (a0:List Qd) (p1:Qd->Option Bool):Option Int:=
 Yb (Zg.step a0 p1) (.l1 0)
def Qay (a0:List Qd) (p1:Qd->Option Bool):Option Bool:=
 (Zg a0 p1).bind fun v1=>
 some (decide (v1>=0))
def Qbs.j1 (Qc9:Bool):Bool:=
 Qc9
def Qbs (a0:Qd) (k0:Ql) (k1:Int):Bool:=
 if a0.M.Client=k0.Client then
  if a0.M.Seq=k0.Seq then
   Qbs.j1 (decide (a0.Time<=k1))
  else
   Qbs.j1 false
 else
  Qbs.j1 false
def Qfm (a0:List Qd) (a1:Ql) (a2:Int):Option Bool:=
 (Qay a0 (fun z0=>some (Qbs z0 a1 a2))).bind fun v1=>
 some v1
def Qem:List Qb:=
 ([(⟨0,4096⟩:Qb)]:List Qb)
inductive Xu.S where
 | l1 (Zf:Int) (Qj:List Ql)
def Xu.j1 (Zf:Int) (Qds:List Ql):Option (Xu.S ⊕ (List Ql)):=
 some (.inl (.l1 (IntKind.wrap .i64 (Zf+1)) Qds))
def Xu.l1 (a0:List Qd) (a1:Qft) (a2:Int) (Zf:Int) (Qj:List Ql):Option (Xu.S ⊕ (List Ql)):=
 if Zf < (a1.l.length:Int) then
  if 0<=Zf/\Zf < (a1.l.length:Int) then
   (Qfm a0 (a1.l.getD Zf.toNat Ql.z) a2).bind fun v1=>
   if v1=true then
    Xu.j1 Zf Qj
   else
    if (Qj.length+1) * 72<=140737488355328 then
     Xu.j1 Zf (Qj ++ [(a1.l.getD Zf.toNat Ql.z)])
    else none
  else none
 else
  some (.inr Qj)
def Xu.step (a0:List Qd) (a1:Qft) (a2:Int):Xu.S->Option (Xu.S ⊕ (List Ql))
 | .l1 Zf Qj=>Xu.l1 a0 a1 a2 Zf Qj
def Xu (a0:List Qd) (a1:Qft) (a2:Int):Option (List Ql):=
 Yb (Xu.step a0 a1 a2) (.l1 0 ([]:List Ql))
inductive Yw.S where
 | l1 (Qq:Int)
def Yw.j1 (Qq:Int) (Qqn:Bool):Option (Yw.S ⊕ Bool):=
 if Qqn=true then
  some (.inr false)
 else
  some (.inl (.l1 (IntKind.wrap .i64 (Qq+1))))
def Yw.l1 (a0:List Qb) (Qq:Int):Option (Yw.S ⊕ Bool):=
 if Qq < (a0.length:Int) then
  if 0<=Qq/\Qq < (a0.length:Int) then
   if (Qbj (a0.getD Qq.toNat Qb.z))=true then
    if Qq > 0 then
     if 0<=(IntKind.wrap .i64 (Qq - 1))/\(IntKind.wrap .i64 (Qq - 1)) < (a0.length:Int) then
      Yw.j1 Qq (decide (((a0.getD Qq.toNat Qb.z).Lo)<=((a0.getD ((IntKind.wrap .i64 (Qq - 1)).toNat) Qb.z).Hi)))
     else none
    else
     Yw.j1 Qq false
   else
    Yw.j1 Qq true
  else none
 else
  some (.inr (decide ((a0.length:Int)<=64)))
def Yw.step (a0:List Qb):Yw.S->Option (Yw.S ⊕ Bool)
 | .l1 Qq=>Yw.l1 a0 Qq
def Yw (a0:List Qb):Option Bool:=
 Yb (Yw.step a0) (.l1 0)
def Qga (a0:Qd):Option Bool:=
 (Qbg a0.M).bind fun v1=>
 some (!v1)
inductive Xk.S where
 | l1 (Qq:Int)
def Xk.j1 (Qq:Int) (Qqu:Bool):Option (Xk.S ⊕ Bool):=
 if Qqu=true then
  some (.inr false)
 else
  some (.inl (.l1 (IntKind.wrap .i64 (Qq+1))))
def Xk.l1 (a0:List Qa) (Qq:Int):Option (Xk.S ⊕ Bool):=
 if Qq < (a0.length:Int) then
  if 0<=Qq/\Qq < (a0.length:Int) then
   if ((a0.getD Qq.toNat Qa.z).Key) < 0 then
    Xk.j1 Qq true
   else
    if ((a0.getD Qq.toNat Qa.z).Key)>=4096 then
     Xk.j1 Qq true
    else
     if ((a0.getD Qq.toNat Qa.z).Val) < (-1099511627776) then
      Xk.j1 Qq true
     else
      if ((a0.getD Qq.toNat Qa.z).Val) > 1099511627776 then
       Xk.j1 Qq true
      else
       if Qq > 0 then
        if 0<=(IntKind.wrap .i64 (Qq - 1))/\(IntKind.wrap .i64 (Qq - 1)) < (a0.length:Int) then
         Xk.j1 Qq (decide (((a0.getD ((IntKind.wrap .i64 (Qq - 1)).toNat) Qa.z).Key)>=((a0.getD Qq.toNat Qa.z).Key)))
        else none
       else
        Xk.j1 Qq false
  else none
 else
  some (.inr true)
def Xk.step (a0:List Qa):Xk.S->Option (Xk.S ⊕ Bool)
 | .l1 Qq=>Xk.l1 a0 Qq
def Xk (a0:List Qa):Option Bool:=
 Yb (Xk.step a0) (.l1 0)
inductive Xy.S where
 | l1 (Xb:Int) (Zx:Int) (Wl:List Qa)
def Xy.j1 (Zx:Int) (Qr3:Int) (Qfz:List Qa):Option (Xy.S ⊕ (List Qa)):=
 some (.inl (.l1 Qr3 (IntKind.wrap .i64 (Zx+1)) Qfz))
def Xy.l1 (p1:Qa->Option Bool) (Xb:Int) (Zx:Int) (Wl:List Qa):Option (Xy.S ⊕ (List Qa)):=
 if Zx < (Wl.length:Int) then
  if 0<=Zx/\Zx < (Wl.length:Int) then
   (p1 (Wl.getD Zx.toNat Qa.z)).bind fun v2=>
   if v2=true then
    Xy.j1 Zx Xb Wl
   else
    if 0<=Xb/\Xb < (Wl.length:Int) then
     Xy.j1 Zx (IntKind.wrap .i64 (Xb+1)) (Wl.set Xb.toNat (Wl.getD Zx.toNat Qa.z))
    else none
  else none
 else
  if 0<=Xb/\Xb<=(Wl.length:Int) then
   some (.inr (Wl.take Xb.toNat))
  else none
def Xy.step (p1:Qa->Option Bool):Xy.S->Option (Xy.S ⊕ (List Qa))
 | .l1 Xb Zx Wl=>Xy.l1 p1 Xb Zx Wl
def Xy (a0:List Qa) (p1:Qa->Option Bool):Option (List Qa):=
 (Za a0 p1).bind fun v1=>
 if v1=(-1) then
  some a0
 else
  Yb (Xy.step p1) (.l1 v1 (IntKind.wrap .i64 (v1+1)) a0)
inductive Zh.S where
 | l1 (Wi:Int)
def Zh.l1 (a0:List Qb) (p1:Qb->Option Bool) (Wi:Int):Option (Zh.S ⊕ Int):=
 if Wi < (a0.length:Int) then
  if 0<=Wi/\Wi < (a0.length:Int) then
   (p1 (a0.getD Wi.toNat Qb.z)).bind fun v1=>
   if v1=true then
    some (.inr Wi)
   else
    some (.inl (.l1 (IntKind.wrap .i64 (Wi+1))))
  else none
 else
  some (.inr (-1))
def Zh.step (a0:List Qb) (p1:Qb->Option Bool):Zh.S->Option (Zh.S ⊕ Int)
 | .l1 Wi=>Zh.l1 a0 p1 Wi
def Zh (a0:List Qb) (p1:Qb->Option Bool):Option Int:=
 Yb (Zh.step a0 p1) (.l1 0)
def Qbn (a0:List Qb) (p1:Qb->Option Bool):Option Bool:=
 (Zh a0 p1).bind fun v1=>
 some (decide (v1>=0))
def Qcq.j1 (Qtu:Bool):Bool:=
 Qtu
def Qcq (a0:Qb) (k0:Int):Bool:=
 if (Qbj a0)=true then
  if k0>=a0.Lo then
   Qcq.j1 (decide (k0 < a0.Hi))
  else
   Qcq.j1 false
 else
  Qcq.j1 false
def Qge (a0:List Qb) (a1:Int):Option Bool:=
 (Qbn a0 (fun z0=>some (Qcq z0 a1))).bind fun v1=>
 some v1
def Qdn.j1 (Qc9:Bool):Option Bool:=
 some Qc9
def Qdn (a0:Qa) (k0:Qb) (k1:List Qb):Option Bool:=
 if a0.Key>=k0.Lo then
  if a0.Key < k0.Hi then
   (Qge k1 a0.Key).bind fun v1=>
   Qdn.j1 v1
  else
   Qdn.j1 false
 else
  Qdn.j1 false
def Qi6 (a0:List Qa) (a1:Qb) (a2:List Qb):Option (List Qa):=
 (Xy a0 (fun z0=>Qdn z0 a1 a2)).bind fun v1=>
 some v1
def Qdw.j1 (Qa8:Bool):Option Bool:=
 some Qa8
def Qdw (a0:Ql):Option Bool:=
 (Qbg a0).bind fun v1=>
 if v1=true then
  if a0.Kind=3 then
   Qdw.j1 true
  else
   Qdw.j1 (a0.Kind == 4)
 else
  Qdw.j1 false
inductive Wz.S where
 | l1 (Qao:Int) (Qs:Int)
def Wz.j1 (Qao:Int) (Qtw:Bool):Option (Wz.S ⊕ (Int × Bool)):=
 some (.inr (Qao,Qtw))
def Wz.l1 (a0:List Qa) (a1:Int) (p2:Qa->Int->Option Int) (Qao:Int) (Qs:Int):Option (Wz.S ⊕ (Int × Bool)):=
 if Qao < Qs then
  bnd (IntKind.wrap .i64 (Int.fdiv (IntKind.wrap .u64 (IntKind.wrap .i64 (Qao+Qs))) 2)) fun (v2:Int)=>
  if 0<=v2/\v2 < (a0.length:Int) then
   (p2 (a0.getD v2.toNat Qa.z) a1).bind fun v3=>
   if v3 < 0 then
    some (.inl (.l1 (IntKind.wrap .i64 (v2+1)) Qs))
   else
    some (.inl (.l1 Qao v2))
  else none
 else
  if Qao < (a0.length:Int) then
   if 0<=Qao/\Qao < (a0.length:Int) then
    (p2 (a0.getD Qao.toNat Qa.z) a1).bind fun v1=>
    Wz.j1 Qao (v1 == 0)
   else none
  else
   Wz.j1 Qao false
def Wz.step (a0:List Qa) (a1:Int) (p2:Qa->Int->Option Int):Wz.S->Option (Wz.S ⊕ (Int × Bool))
 | .l1 Qao Qs=>Wz.l1 a0 a1 p2 Qao Qs
def Wz (a0:List Qa) (a1:Int) (p2:Qa->Int->Option Int):Option (Int × Bool):=
 Yb (Wz.step a0 a1 p2) (.l1 0 (a0.length:Int))
def Qfl (a0:Qa) (a1:Int):Int:=
 Zc a0.Key a1
def Qgw (a0:List Qa) (a1:Int):Option (Int × Bool):=
 (Wz a0 a1 (fun z0 z1=>some (Qfl z0 z1))).bind fun v1=>
 some (v1.1,v1.2)
def Qf3 (a0:List Qa) (a1:Int):Option (Int × Bool):=
 (Qgw a0 a1).bind fun v1=>
 if v1.2=true then
  if 0<=v1.1/\v1.1 < (a0.length:Int) then
   some ((a0.getD v1.1.toNat Qa.z).Val,true)
  else none
 else
  some (0,false)
def Qec (a0:List Qa) (a1:Int) (a2:Int):Option (List Qa):=
 (Qgw a0 a1).bind fun v1=>
 if v1.2=true then
  if 0<=v1.1/\v1.1 < (a0.length:Int) then
   some (a0.set v1.1.toNat (⟨(a0.getD v1.1.toNat Qa.z).Key,a2⟩:Qa))
  else none
 else
  if (0<=v1.1/\v1.1<=(a0.length:Int))/\(a0.length+1) * 16<=140737488355328 then
   some (a0.take v1.1.toNat ++ (⟨a1,a2⟩:Qa) :: a0.drop v1.1.toNat)
  else none
def Jd.j1 (a0:List Qa) (a1:Ql) (v1:Int × Bool) (Qfo:Bool):Option ((List Qa) × Bool):=
 if Qfo=true then
  some (a0,false)
 else
  (Qec a0 ((a1.Pairs.getD 0 Qa.z).Key) (IntKind.wrap .i64 (v1.1+((a1.Pairs.getD 0 Qa.z).Val)))).bind fun v2=>
  some (v2,true)
def Jd.j2 (a0:List Qa) (a1:Ql) (Qr4:Int):Option ((List Qa) × Bool):=
 if Qr4=a1.Old then
  (Qec a0 ((a1.Pairs.getD 0 Qa.z).Key) ((a1.Pairs.getD 0 Qa.z).Val)).bind fun v3=>
  some (v3,true)
 else
  some (a0,false)
def Jd (a0:List Qa) (a1:Ql):Option ((List Qa) × Bool):=
 if (0:Int)<=0/\0 < (a1.Pairs.length:Int) then
  (Qf3 a0 ((a1.Pairs.getD 0 Qa.z).Key)).bind fun v1=>
  if a1.Kind=3 then
   if (IntKind.wrap .i64 (v1.1+((a1.Pairs.getD 0 Qa.z).Val))) < 0 then
    Jd.j1 a0 a1 v1 true
   else
    Jd.j1 a0 a1 v1 (decide ((IntKind.wrap .i64 (v1.1+((a1.Pairs.getD 0 Qa.z).Val))) > 1099511627776))
  else
   if v1.2=true then
    Jd.j2 a0 a1 v1.1
   else
    Jd.j2 a0 a1 1099511627777
 else none
def Qfw (a0:List Qa) (a1:Int) (a2:Int):Option (List Qa):=
 (Qf3 a0 a1).bind fun v1=>
 (Qec a0 a1 (Qf9 (Qeh (IntKind.wrap .i64 (v1.1+a2)) (-1099511627776)) 1099511627776)).bind fun v2=>
 some v2
inductive Wm.S where
 | l1 (Zu:Int) (Wl:List Qa)
def Wm.j2 (Zu:Int) (Qlb:List Qa):Option (Wm.S ⊕ ((List Qa) × Bool)):=
 some (.inl (.l1 (IntKind.wrap .i64 (Zu+1)) Qlb))
def Wm.l1 (a1:Ql) (a2:List Qb) (Zu:Int) (Wl:List Qa):Option (Wm.S ⊕ ((List Qa) × Bool)):=
 if Zu < (a1.Pairs.length:Int) then
  if 0<=Zu/\Zu < (a1.Pairs.length:Int) then
   (Qge a2 ((a1.Pairs.getD Zu.toNat Qa.z).Key)).bind fun v8=>
   if v8=true then
    if a1.Kind=1 then
     (Qec Wl ((a1.Pairs.getD Zu.toNat Qa.z).Key) ((a1.Pairs.getD Zu.toNat Qa.z).Val)).bind fun v9=>
     Wm.j2 Zu v9
    else
     if Zu=0 then
      (Qfw Wl ((a1.Pairs.getD Zu.toNat Qa.z).Key) (IntKind.wrap .i64 (0 - ((a1.Pairs.getD Zu.toNat Qa.z).Val)))).bind fun v10=>
      Wm.j2 Zu v10
     else
      (Qfw Wl ((a1.Pairs.getD Zu.toNat Qa.z).Key) ((a1.Pairs.getD Zu.toNat Qa.z).Val)).bind fun v11=>
      Wm.j2 Zu v11
   else
    Wm.j2 Zu Wl
  else none
 else
  some (.inr (Wl,true))
def Wm.step (a1:Ql) (a2:List Qb):Wm.S->Option (Wm.S ⊕ ((List Qa) × Bool))
 | .l1 Zu Wl=>Wm.l1 a1 a2 Zu Wl
def Wm.j1 (a0:List Qa) (a1:Ql) (a2:List Qb) (Qqk:Bool):Option ((List Qa) × Bool):=
 if Qqk=true then
  some (([]:List Qa),false)
 else
  if a0.length * 16<=140737488355328 then
   if a1.Kind=2 then
    (Qi6 a0 a1.Over a2).bind fun v4=>
    some (v4,true)
   else
    (Qdw a1).bind fun v5=>
    if v5=true then
     if (0:Int)<=0/\0 < (a1.Pairs.length:Int) then
      (Qge a2 ((a1.Pairs.getD 0 Qa.z).Key)).bind fun v6=>
      if v6=true then
       (Jd a0 a1).bind fun v7=>
       some (v7.1,v7.2)
      else
       some (a0,true)
     else none
    else
     Yb (Wm.step a1 a2) (.l1 0 a0)
  else none
def Wm (a0:List Qa) (a1:Ql) (a2:List Qb):Option ((List Qa) × Bool):=
 (Xk a0).bind fun v1=>
 if v1=true then
  (Qbg a1).bind fun v2=>
  if v2=true then
   (Yw a2).bind fun v3=>
   Wm.j1 a0 a1 a2 (!v3)
  else
   Wm.j1 a0 a1 a2 true
 else
  Wm.j1 a0 a1 a2 true
inductive Yp.S where
 | l1 (Qbb:Int) (Qj:List Qa)
def Yp.j3 (Qbb:Int) (Qf0:List Qa):Option (Yp.S ⊕ (List Qa)):=
 some (.inl (.l1 (IntKind.wrap .i64 (Qbb+1)) Qf0))
def Yp.j2 (a0:List Qd) (a1:List Qb) (Qbb:Int) (Qj:List Qa) (Qqx:Bool):Option (Yp.S ⊕ (List Qa)):=
 if Qqx=true then
  (Wm Qj ((a0.getD Qbb.toNat Qd.z).M) a1).bind fun v3=>
  Yp.j3 Qbb v3.1
 else
  Yp.j3 Qbb Qj
def Yp.l1 (a0:List Qd) (a1:List Qb) (a2:Int) (Qbb:Int) (Qj:List Qa):Option (Yp.S ⊕ (List Qa)):=
 if Qbb < (a0.length:Int) then
  if 0<=Qbb/\Qbb < (a0.length:Int) then
   if ((a0.getD Qbb.toNat Qd.z).Jt)=true then
    Yp.j2 a0 a1 Qbb Qj (decide (((a0.getD Qbb.toNat Qd.z).Time)<=a2))
   else
    Yp.j2 a0 a1 Qbb Qj false
  else none
 else
  some (.inr Qj)
def Yp.step (a0:List Qd) (a1:List Qb) (a2:Int):Yp.S->Option (Yp.S ⊕ (List Qa))
 | .l1 Qbb Qj=>Yp.l1 a0 a1 a2 Qbb Qj
def Yp.j1 (a0:List Qd) (a1:List Qb) (a2:Int) (Qqh:Bool):Option (List Qa):=
 if Qqh=true then
  some ([]:List Qa)
 else
  Yb (Yp.step a0 a1 a2) (.l1 0 ([]:List Qa))
def Yp (a0:List Qd) (a1:List Qb) (a2:Int):Option (List Qa):=
 (Yw a1).bind fun v1=>
 if v1=true then
  (Qay a0 (fun z0=>Qga z0)).bind fun v2=>
  Yp.j1 a0 a1 a2 v2
 else
  Yp.j1 a0 a1 a2 true
inductive Zn.S where
 | l1 (Wi:Int)
def Zn.l1 (a0:List Ql) (p1:Ql->Option Bool) (Wi:Int):Option (Zn.S ⊕ Int):=
 if Wi < (a0.length:Int) then
  if 0<=Wi/\Wi < (a0.length:Int) then
   (p1 (a0.getD Wi.toNat Ql.z)).bind fun v1=>
   if v1=true then
    some (.inr Wi)
   else
    some (.inl (.l1 (IntKind.wrap .i64 (Wi+1))))
  else none
 else
  some (.inr (-1))
def Zn.step (a0:List Ql) (p1:Ql->Option Bool):Zn.S->Option (Zn.S ⊕ Int)
 | .l1 Wi=>Zn.l1 a0 p1 Wi
def Zn (a0:List Ql) (p1:Ql->Option Bool):Option Int:=
 Yb (Zn.step a0 p1) (.l1 0)
def Qb7 (a0:List Ql) (p1:Ql->Option Bool):Option Bool:=
 (Zn a0 p1).bind fun v1=>
 some (decide (v1>=0))
def Qgb (a0:Ql):Option Bool:=
 (Qbg a0).bind fun v1=>
 some (!v1)
inductive Jb.S where
 | l1 (Qdr:Int) (Qj:List Qa)
def Jb.l1 (a1:List Ql) (a2:List Qb) (Qdr:Int) (Qj:List Qa):Option (Jb.S ⊕ (List Qa)):=
 if Qdr < (a1.length:Int) then
  if 0<=Qdr/\Qdr < (a1.length:Int) then
   (Wm Qj (a1.getD Qdr.toNat Ql.z) a2).bind fun v4=>
   some (.inl (.l1 (IntKind.wrap .i64 (Qdr+1)) v4.1))
  else none
 else
  some (.inr Qj)
def Jb.step (a1:List Ql) (a2:List Qb):Jb.S->Option (Jb.S ⊕ (List Qa))
 | .l1 Qdr Qj=>Jb.l1 a1 a2 Qdr Qj
def Jb.j1 (a0:List Qa) (a1:List Ql) (a2:List Qb) (Qep:Bool):Option (List Qa):=
 if Qep=true then
  some ([]:List Qa)
 else
  if a0.length * 16<=140737488355328 then
   Yb (Jb.step a1 a2) (.l1 0 a0)
  else none
def Jb (a0:List Qa) (a1:List Ql) (a2:List Qb):Option (List Qa):=
 (Xk a0).bind fun v1=>
 if v1=true then
  (Yw a2).bind fun v2=>
  if v2=true then
   (Qb7 a1 (fun z0=>Qgb z0)).bind fun v3=>
   Jb.j1 a0 a1 a2 v3
  else
   Jb.j1 a0 a1 a2 true
 else
  Jb.j1 a0 a1 a2 true
def Qgv (a0:List Qa) (a1:Int):Option (Int × Bool):=
 (Xk a0).bind fun v1=>
 if v1=true then
  (Qf3 a0 a1).bind fun v2=>
  some (v2.1,v2.2)
 else
  some (0,false)
def Qc4 (a0:List Qd) (a1:Qft) (a2:Int) (a3:Int):Option Yv:=
 bnd (Qem) fun (v1:List Qb)=>
 (Yp a0 v1 a3).bind fun v2=>
 (Xu a0 a1 a3).bind fun v3=>
 bnd (Qem) fun (v4:List Qb)=>
 (Jb v2 v3 v4).bind fun v5=>
 (Qgv v5 a2).bind fun v6=>
 some (⟨v6.1,v6.2⟩:Yv)
inductive Qr.S where
 | l1
 | l2 (Yq:Int) (Qan:List Qe)
 | l3 (Qan:List Qe)
def Qr.l1:Option (Qr.S ⊕ Qai):=
 some (.inl (.l2 0 ([]:List Qe)))
def Qr.l2 (a0:List Qd) (Yq:Int) (Qan:List Qe):Option (Qr.S ⊕ Qai):=
 if Yq < (a0.length:Int) then
  if 0<=Yq/\Yq < (a0.length:Int) then
   (Xa ((a0.getD Yq.toNat Qd.z).M)).bind fun v2=>
   if (Qan.length+1) * 88<=140737488355328 then
    some (.inl (.l2 (IntKind.wrap .i64 (Yq+1)) (Qan ++ [(⟨v2,(a0.getD Yq.toNat Qd.z).Time,(a0.getD Yq.toNat Qd.z).Jt⟩:Qe)])))
   else none
  else none
 else
  some (.inl (.l3 Qan))
def Qr.l3 (v1:List Qc) (Qan:List Qe):Option (Qr.S ⊕ Qai):=
 some (.inr (⟨0,(⟨0,0⟩:Qi),0,false,false,([]:List Zr),v1,Qan,([]:List Jo)⟩:Qai))
def Qr.step (a0:List Qd) (v1:List Qc):Qr.S->Option (Qr.S ⊕ Qai)
 | .l1=>Qr.l1
 | .l2 Yq Qan=>Qr.l2 a0 Yq Qan
 | .l3 Qan=>Qr.l3 v1 Qan
def Qr (a0:List Qd):Option Qai:=
 (Zq ([]:List Qa)).bind fun v1=>
 Yb (Qr.step a0 v1) (.l1)
def Qa2 (a0:List Qd):Option (List Qe):=
 (Qr a0).bind fun v1=>
 some v1.Log
inductive Xh.S where
 | l1 (Xb:Int)
def Xh.l1 (a0:Qk) (a1:Qk) (Xb:Int):Option (Xh.S ⊕ Bool):=
 if Xb < (a0.Pairs.length:Int) then
  if 0<=Xb/\Xb < (a0.Pairs.length:Int) then
   if 0<=Xb/\Xb < (a1.Pairs.length:Int) then
    if ((a0.Pairs.getD Xb.toNat Qc.z).Key)=((a1.Pairs.getD Xb.toNat Qc.z).Key) then
     if ((a0.Pairs.getD Xb.toNat Qc.z).Val)=((a1.Pairs.getD Xb.toNat Qc.z).Val) then
      some (.inl (.l1 (IntKind.wrap .i64 (Xb+1))))
     else
      some (.inr false)
    else
     if ((a0.Pairs.getD Xb.toNat Qc.z).Val)=((a1.Pairs.getD Xb.toNat Qc.z).Val) then
      some (.inr false)
     else
      some (.inr false)
   else none
  else none
 else
  some (.inr true)
def Xh.step (a0:Qk) (a1:Qk):Xh.S->Option (Xh.S ⊕ Bool)
 | .l1 Xb=>Xh.l1 a0 a1 Xb
def Xh.j1 (a0:Qk) (a1:Qk) (Qqv:Bool):Option Bool:=
 if Qqv=true then
  some false
 else
  Yb (Xh.step a0 a1) (.l1 0)
def Xh (a0:Qk) (a1:Qk):Option Bool:=
 if a0.Client=a1.Client then
  if a0.Seq=a1.Seq then
   if a0.Kind=a1.Kind then
    if a0.Over.Lo=a1.Over.Lo then
     if a0.Over.Hi=a1.Over.Hi then
      if a0.Old=a1.Old then
       Xh.j1 a0 a1 ((a0.Pairs.length:Int) != (a1.Pairs.length:Int))
      else
       Xh.j1 a0 a1 true
     else
      Xh.j1 a0 a1 true
    else
     if a0.Over.Hi=a1.Over.Hi then
      Xh.j1 a0 a1 true
     else
      Xh.j1 a0 a1 true
   else
    Xh.j1 a0 a1 true
  else
   Xh.j1 a0 a1 true
 else
  Xh.j1 a0 a1 true
inductive Xm.S where
 | l1 (Xb:Int)
 | l2 (Qco:Int)
def Xm.j1 (Xb:Int) (Qhk:Bool):Option (Xm.S ⊕ Bool):=
 if Qhk=true then
  some (.inr false)
 else
  some (.inl (.l1 (IntKind.wrap .i64 (Xb+1))))
def Xm.j2 (Qco:Int) (Qqy:Bool):Option (Xm.S ⊕ Bool):=
 if Qqy=true then
  some (.inr false)
 else
  some (.inl (.l2 (IntKind.wrap .i64 (Qco+1))))
def Xm.l1 (a0:List Qd) (Xb:Int):Option (Xm.S ⊕ Bool):=
 if Xb < (a0.length:Int) then
  if Xb>=30 then
   Xm.j1 Xb true
  else
   if 0<=Xb/\Xb < (a0.length:Int) then
    Xm.j1 Xb (decide (((((a0.getD Xb.toNat Qd.z).M).Pairs).length:Int) > 10))
   else none
 else
  some (.inl (.l2 0))
def Xm.l2 (a1:List Qy) (Qco:Int):Option (Xm.S ⊕ Bool):=
 if Qco < (a1.length:Int) then
  if Qco>=30 then
   Xm.j2 Qco true
  else
   if 0<=Qco/\Qco < (a1.length:Int) then
    Xm.j2 Qco (decide (((((a1.getD Qco.toNat Qy.z).M).Pairs).length:Int) > 10))
   else none
 else
  some (.inr true)
def Xm.step (a0:List Qd) (a1:List Qy):Xm.S->Option (Xm.S ⊕ Bool)
 | .l1 Xb=>Xm.l1 a0 Xb
 | .l2 Qco=>Xm.l2 a1 Qco
def Xm (a0:List Qd) (a1:List Qy):Option Bool:=
 Yb (Xm.step a0 a1) (.l1 0)
def Qg0 (a0:Qb):Bool:=
 (!(Qbj a0))
def Yr (a0:Qb) (a1:Qb):Int:=
 Zc a0.Lo a1.Lo
def Qew (a0:List Qb):(List Qb) × Int:=
 if (a0.length:Int) > 64 then
  (([]:List Qb),2)
 else
  (a0,0)
inductive Qx.S where
 | l1 (Zv:Int) (Qj:List Qb)
def Qx.j1 (a0:List Qb) (Zv:Int) (Qj:List Qb) (Qfo:Bool):Option (Qx.S ⊕ ((List Qb) × Int)):=
 if Qfo=true then
  if 0<=(IntKind.wrap .i64 ((Qj.length:Int) - 1))/\(IntKind.wrap .i64 ((Qj.length:Int) - 1)) < (Qj.length:Int) then
   some (.inl (.l1 (IntKind.wrap .i64 (Zv+1)) (Qj.set ((IntKind.wrap .i64 ((Qj.length:Int) - 1)).toNat) (⟨(Qj.getD ((IntKind.wrap .i64 ((Qj.length:Int) - 1)).toNat) Qb.z).Lo,Qeh ((Qj.getD ((IntKind.wrap .i64 ((Qj.length:Int) - 1)).toNat) Qb.z).Hi) (((Jm Qb.z Yr a0).getD Zv.toNat Qb.z).Hi)⟩:Qb))))
  else none
 else
  if (Qj.length+1) * 16<=140737488355328 then
   some (.inl (.l1 (IntKind.wrap .i64 (Zv+1)) (Qj ++ [((Jm Qb.z Yr a0).getD Zv.toNat Qb.z)])))
  else none
def Qx.l1 (a0:List Qb) (Zv:Int) (Qj:List Qb):Option (Qx.S ⊕ ((List Qb) × Int)):=
 if Zv < ((Jm Qb.z Yr a0).length:Int) then
  if 0<=Zv/\Zv < ((Jm Qb.z Yr a0).length:Int) then
   if (IntKind.wrap .i64 ((Qj.length:Int) - 1))>=0 then
    if 0<=(IntKind.wrap .i64 ((Qj.length:Int) - 1))/\(IntKind.wrap .i64 ((Qj.length:Int) - 1)) < (Qj.length:Int) then
     Qx.j1 a0 Zv Qj (decide ((((Jm Qb.z Yr a0).getD Zv.toNat Qb.z).Lo)<=((Qj.getD ((IntKind.wrap .i64 ((Qj.length:Int) - 1)).toNat) Qb.z).Hi)))
    else none
   else
    Qx.j1 a0 Zv Qj false
  else none
 else
  bnd (Qew Qj) fun (v2:(List Qb) × Int)=>
  some (.inr (v2.1,v2.2))
def Qx.step (a0:List Qb):Qx.S->Option (Qx.S ⊕ ((List Qb) × Int))
 | .l1 Zv Qj=>Qx.l1 a0 Zv Qj
def Qx (a0:List Qb):Option ((List Qb) × Int):=
 (Qbn a0 (fun z0=>some (Qg0 z0))).bind fun v1=>
 if v1=true then
  some (([]:List Qb),1)
 else
  if a0.length * 16<=140737488355328 then
   Yb (Qx.step a0) (.l1 0 ([]:List Qb))
  else none
inductive Qba.S where
 | l1 (Qa3:Int) (Qj:List Qb)
def Qba.l1 (a0:Ql) (Qa3:Int) (Qj:List Qb):Option (Qba.S ⊕ (List Qb)):=
 if Qa3 < (a0.Pairs.length:Int) then
  if 0<=Qa3/\Qa3 < (a0.Pairs.length:Int) then
   if (Qj.length+1) * 16<=140737488355328 then
    some (.inl (.l1 (IntKind.wrap .i64 (Qa3+1)) (Qj ++ [(⟨(a0.Pairs.getD Qa3.toNat Qa.z).Key,IntKind.wrap .i64 (((a0.Pairs.getD Qa3.toNat Qa.z).Key)+1)⟩:Qb)])))
   else none
  else none
 else
  (Qx Qj).bind fun v2=>
  some (.inr v2.1)
def Qba.step (a0:Ql):Qba.S->Option (Qba.S ⊕ (List Qb))
 | .l1 Qa3 Qj=>Qba.l1 a0 Qa3 Qj
def Qba (a0:Ql):Option (List Qb):=
 (Qbg a0).bind fun v1=>
 if v1=true then
  if a0.Kind=2 then
   some ([a0.Over]:List Qb)
  else
   Yb (Qba.step a0) (.l1 0 ([]:List Qb))
 else
  some ([]:List Qb)
inductive Qah.S where
 | l1 (Zt:Int) (Qj:List Qb)
 | l2 (Zk:Int) (Qar:Int) (Qam:List Qb) (Qa6:Int) (Qa7:Int)
def Qah.j1 (Zk:Int) (Qar:Int) (Qa6:Int) (Qa7:Int) (Qds:List Qb):Option (Qah.S ⊕ (List Qb)):=
 some (.inl (.l2 Zk (IntKind.wrap .i64 (Qar+1)) Qds Qa6 Qa7))
def Qah.l1 (a0:List Qb) (Zt:Int) (Qj:List Qb):Option (Qah.S ⊕ (List Qb)):=
 if Zt < (a0.length:Int) then
  if 0<=Zt/\Zt < (a0.length:Int) then
   some (.inl (.l2 Zt 0 Qj ((a0.getD Zt.toNat Qb.z).Lo) ((a0.getD Zt.toNat Qb.z).Hi)))
  else none
 else
  some (.inr Qj)
def Qah.l2 (a1:List Qb) (Zk:Int) (Qar:Int) (Qam:List Qb) (Qa6:Int) (Qa7:Int):Option (Qah.S ⊕ (List Qb)):=
 if Qar < (a1.length:Int) then
  if 0<=Qar/\Qar < (a1.length:Int) then
   if (Qeh Qa6 ((a1.getD Qar.toNat Qb.z).Lo)) < (Qf9 Qa7 ((a1.getD Qar.toNat Qb.z).Hi)) then
    if (Qam.length+1) * 16<=140737488355328 then
     Qah.j1 Zk Qar Qa6 Qa7 (Qam ++ [(⟨Qeh Qa6 ((a1.getD Qar.toNat Qb.z).Lo),Qf9 Qa7 ((a1.getD Qar.toNat Qb.z).Hi)⟩:Qb)])
    else none
   else
    Qah.j1 Zk Qar Qa6 Qa7 Qam
  else none
 else
  some (.inl (.l1 (IntKind.wrap .i64 (Zk+1)) Qam))
def Qah.step (a0:List Qb) (a1:List Qb):Qah.S->Option (Qah.S ⊕ (List Qb))
 | .l1 Zt Qj=>Qah.l1 a0 Zt Qj
 | .l2 Zk Qar Qam Qa6 Qa7=>Qah.l2 a1 Zk Qar Qam Qa6 Qa7
def Qah (a0:List Qb) (a1:List Qb):Option (List Qb):=
 Yb (Qah.step a0 a1) (.l1 0 ([]:List Qb))
def Qev.j1 (Qc9:Bool):Option Bool:=
 some Qc9
def Qev (a0:List Qb) (a1:List Qb):Option Bool:=
 (Yw a0).bind fun v1=>
 if v1=true then
  (Yw a1).bind fun v2=>
  if v2=true then
   (Qah a0 a1).bind fun v3=>
   Qev.j1 (decide ((v3.length:Int) > 0))
  else
   Qev.j1 false
 else
  Qev.j1 false
def Qdy (a0:Qd) (a1:List Qb):Option Bool:=
 (Qba a0.M).bind fun v1=>
 (Qev v1 a1).bind fun v2=>
 some v2
def Qde (a0:Qd):Option Qd:=
 if a0.M.Pairs.length * 16<=140737488355328 then
  some a0
 else none
inductive Wt.S where
 | l1 (Qaf:Int) (Wl:List Qa) (Xz:List Wq) (Qab:Int) (Qac:Bool)
def Wt.j2 (a0:List Qd) (a1:Int) (Qaf:Int) (Wl:List Qa) (Xz:List Wq) (Qab:Int) (Qac:Bool) (Qqz:Bool):Option (Wt.S ⊕ ((List Wq) × Int)):=
 if Qqz=true then
  some (.inl (.l1 (IntKind.wrap .i64 (Qaf+1)) Wl Xz Qab Qac))
 else
  (Qde (a0.getD Qaf.toNat Qd.z)).bind fun v3=>
  (Wm Wl ((a0.getD Qaf.toNat Qd.z).M) ([(⟨a1,IntKind.wrap .i64 (a1+1)⟩:Qb)]:List Qb)).bind fun v4=>
  (Qgv v4.1 a1).bind fun v5=>
  if (Xz.length+1) * 120<=140737488355328 then
   some (.inl (.l1 (IntKind.wrap .i64 (Qaf+1)) v4.1 (Xz ++ [(⟨v3,(⟨Qab,Qac⟩:Yv),(⟨v5.1,v5.2⟩:Yv)⟩:Wq)]) v5.1 v5.2))
  else none
def Wt.l1 (a0:List Qd) (a1:Int) (Qaf:Int) (Wl:List Qa) (Xz:List Wq) (Qab:Int) (Qac:Bool):Option (Wt.S ⊕ ((List Wq) × Int)):=
 if Qaf < (a0.length:Int) then
  if 0<=Qaf/\Qaf < (a0.length:Int) then
   if ((a0.getD Qaf.toNat Qd.z).Jt)=true then
    (Qdy (a0.getD Qaf.toNat Qd.z) ([(⟨a1,IntKind.wrap .i64 (a1+1)⟩:Qb)]:List Qb)).bind fun v2=>
    Wt.j2 a0 a1 Qaf Wl Xz Qab Qac (!v2)
   else
    Wt.j2 a0 a1 Qaf Wl Xz Qab Qac true
  else none
 else
  some (.inr (Xz,0))
def Wt.step (a0:List Qd) (a1:Int):Wt.S->Option (Wt.S ⊕ ((List Wq) × Int))
 | .l1 Qaf Wl Xz Qab Qac=>Wt.l1 a0 a1 Qaf Wl Xz Qab Qac
def Wt.j1 (a0:List Qd) (a1:Int) (Qqm:Bool):Option ((List Wq) × Int):=
 if Qqm=true then
  some (([]:List Wq),1)
 else
  Yb (Wt.step a0 a1) (.l1 0 ([]:List Qa) ([]:List Wq) 0 false)
def Wt (a0:List Qd) (a1:Int):Option ((List Wq) × Int):=
 (Zb a0).bind fun v1=>
 if v1=true then
  if a1 < 0 then
   Wt.j1 a0 a1 true
  else
   Wt.j1 a0 a1 (decide (a1>=4096))
 else
  Wt.j1 a0 a1 true
inductive Qcs.S where
 | l1 (Qq:Int) (Qa3:Int)
def Qcs.j3 (Qa3:Int) (Ql3:Int):Option (Qcs.S ⊕ Int):=
 some (.inl (.l1 Ql3 (IntKind.wrap .i64 (Qa3+1))))
def Qcs.j2 (Qq:Int) (Qa3:Int) (Wjg:Bool):Option (Qcs.S ⊕ Int):=
 if Wjg=true then
  Qcs.j3 Qa3 (IntKind.wrap .i64 (Qq+1))
 else
  Qcs.j3 Qa3 Qq
def Qcs.l1 (a0:List Qd) (a1:List Qb) (a2:Int) (Qq:Int) (Qa3:Int):Option (Qcs.S ⊕ Int):=
 if Qa3 < (a0.length:Int) then
  if 0<=Qa3/\Qa3 < (a0.length:Int) then
   if ((a0.getD Qa3.toNat Qd.z).Time) > a2 then
    (Qdy (a0.getD Qa3.toNat Qd.z) a1).bind fun v3=>
    Qcs.j2 Qq Qa3 v3
   else
    Qcs.j2 Qq Qa3 false
  else none
 else
  some (.inr Qq)
def Qcs.step (a0:List Qd) (a1:List Qb) (a2:Int):Qcs.S->Option (Qcs.S ⊕ Int)
 | .l1 Qq Qa3=>Qcs.l1 a0 a1 a2 Qq Qa3
def Qcs.j1 (a0:List Qd) (a1:List Qb) (a2:Int) (Qmo:Bool):Option Int:=
 if Qmo=true then
  some 0
 else
  Yb (Qcs.step a0 a1 a2) (.l1 0 0)
def Qcs (a0:List Qd) (a1:List Qb) (a2:Int):Option Int:=
 (Zb a0).bind fun v1=>
 if v1=true then
  (Yw a1).bind fun v2=>
  Qcs.j1 a0 a1 a2 (!v2)
 else
  Qcs.j1 a0 a1 a2 true
def Ja.j1 (Qa8:Bool):Bool:=
 Qa8
def Ja (a0:Qi):Bool:=
 if a0.Lo>=0 then
  if a0.Lo < a0.Hi then
   Ja.j1 (decide (a0.Hi<=4096))
  else
   Ja.j1 false
 else
  Ja.j1 false
def Qaj.j1 (Qa8:Bool):Bool:=
 Qa8
def Qaj (a0:Int):Bool:=
 if a0>=(-1099511627776) then
  Qaj.j1 (decide (a0<=1099511627776))
 else
  Qaj.j1 false
inductive Wu.S where
 | l1 (Qq:Int)
def Wu.j2 (Qq:Int) (Qic:Bool):Option (Wu.S ⊕ Bool):=
 if Qic=true then
  some (.inr false)
 else
  some (.inl (.l1 (IntKind.wrap .i64 (Qq+1))))
def Wu.l1 (a0:List Qc) (Qq:Int):Option (Wu.S ⊕ Bool):=
 if Qq < (a0.length:Int) then
  if 0<=Qq/\Qq < (a0.length:Int) then
   if ((a0.getD Qq.toNat Qc.z).Key) < 0 then
    Wu.j2 Qq true
   else
    if ((a0.getD Qq.toNat Qc.z).Key) > 4095 then
     Wu.j2 Qq true
    else
     Wu.j2 Qq (!(Qaj ((a0.getD Qq.toNat Qc.z).Val)))
  else none
 else
  some (.inr true)
def Wu.step (a0:List Qc):Wu.S->Option (Wu.S ⊕ Bool)
 | .l1 Qq=>Wu.l1 a0 Qq
def Wu.j1 (a0:List Qc) (Qmo:Bool):Option Bool:=
 if Qmo=true then
  some false
 else
  Yb (Wu.step a0) (.l1 0)
def Wu (a0:List Qc) (a1:Int) (a2:Int):Option Bool:=
 if (a0.length:Int) < a1 then
  Wu.j1 a0 true
 else
  Wu.j1 a0 (decide ((a0.length:Int) > a2))
def Qo.j2 (Qhb:Bool):Option Bool:=
 some Qhb
def Qo.j4 (Qj7:Bool):Option Bool:=
 some Qj7
inductive Qo.S where
 | l1 (We:Int)
def Qo.l1 (a0:Qk) (We:Int):Option (Qo.S ⊕ Bool):=
 if We < (a0.Pairs.length:Int) then
  if 0<=(IntKind.wrap .i64 (We - 1))/\(IntKind.wrap .i64 (We - 1)) < (a0.Pairs.length:Int) then
   if 0<=We/\We < (a0.Pairs.length:Int) then
    if ((a0.Pairs.getD ((IntKind.wrap .i64 (We - 1)).toNat) Qc.z).Key)>=((a0.Pairs.getD We.toNat Qc.z).Key) then
     some (.inr false)
    else
     some (.inl (.l1 (IntKind.wrap .i64 (We+1))))
   else none
  else none
 else
  (Wu a0.Pairs 1 8).bind fun v2=>
  some (.inr v2)
def Qo.step (a0:Qk):Qo.S->Option (Qo.S ⊕ Bool)
 | .l1 We=>Qo.l1 a0 We
def Qo.j5 (Qj8:Bool):Option Bool:=
 some Qj8
def Qo.j3 (a0:Qk) (Qq4:Bool):Option Bool:=
 if Qq4=true then
  some false
 else
  if a0.Kind=4 then
   (Wu a0.Pairs 1 1).bind fun v1=>
   if v1=true then
    if (Qaj a0.Old)=true then
     Qo.j4 true
    else
     Qo.j4 (a0.Old == 1099511627777)
   else
    Qo.j4 false
  else
   if a0.Old=0 then
    if a0.Kind=1 then
     Yb (Qo.step a0) (.l1 1)
    else
     if a0.Kind=3 then
      (Wu a0.Pairs 1 1).bind fun v3=>
      some v3
     else
      if a0.Kind=5 then
       (Wu a0.Pairs 2 2).bind fun v4=>
       if v4=true then
        if (0:Int)<=0/\0 < (a0.Pairs.length:Int) then
         if (0:Int)<=1/\1 < (a0.Pairs.length:Int) then
          if ((a0.Pairs.getD 0 Qc.z).Key)=((a0.Pairs.getD 1 Qc.z).Key) then
           Qo.j5 false
          else
           if ((a0.Pairs.getD 0 Qc.z).Val)=((a0.Pairs.getD 1 Qc.z).Val) then
            Qo.j5 (decide (((a0.Pairs.getD 0 Qc.z).Val)>=0))
           else
            Qo.j5 false
         else none
        else none
       else
        Qo.j5 false
      else
       Qo.j5 false
   else
    some false
def Qo.j1 (a0:Qk) (Qep:Bool):Option Bool:=
 if Qep=true then
  some false
 else
  if a0.Kind=2 then
   if (a0.Pairs.length:Int)=0 then
    if a0.Old=0 then
     Qo.j2 (Ja a0.Over)
    else
     Qo.j2 false
   else
    Qo.j2 false
  else
   if a0.Over.Lo=0 then
    Qo.j3 a0 (a0.Over.Hi != 0)
   else
    Qo.j3 a0 true
def Qo (a0:Qk):Option Bool:=
 if a0.Client < 1 then
  Qo.j1 a0 true
 else
  if a0.Client > 1048576 then
   Qo.j1 a0 true
  else
   if a0.Seq < 1 then
    Qo.j1 a0 true
   else
    Qo.j1 a0 (decide (a0.Seq > 1073741824))
def Qaz (a0:Qe):Qbc:=
 (⟨a0.Time,a0.M.Client,a0.M.Seq⟩:Qbc)
def Qcu (a0:Qbc) (a1:Qbc):Bool:=
 if a0.Time=a1.Time then
  if a0.Client=a1.Client then
   decide (a0.Seq < a1.Seq)
  else
   decide (a0.Client < a1.Client)
 else
  decide (a0.Time < a1.Time)
inductive Yj.S where
 | l1 (We:Int)
def Yj.j1 (We:Int) (Qqs:Bool):Option (Yj.S ⊕ Bool):=
 if Qqs=true then
  some (.inr false)
 else
  some (.inl (.l1 (IntKind.wrap .i64 (We+1))))
def Yj.l1 (a0:List Qe) (We:Int):Option (Yj.S ⊕ Bool):=
 if We < (a0.length:Int) then
  if 0<=We/\We < (a0.length:Int) then
   (Qo ((a0.getD We.toNat Qe.z).M)).bind fun v1=>
   if v1=true then
    if We > 0 then
     if 0<=(IntKind.wrap .i64 (We - 1))/\(IntKind.wrap .i64 (We - 1)) < (a0.length:Int) then
      Yj.j1 We (!(Qcu (Qaz (a0.getD ((IntKind.wrap .i64 (We - 1)).toNat) Qe.z)) (Qaz (a0.getD We.toNat Qe.z))))
     else none
    else
     Yj.j1 We false
   else
    Yj.j1 We true
  else none
 else
  some (.inr true)
def Yj.step (a0:List Qe):Yj.S->Option (Yj.S ⊕ Bool)
 | .l1 We=>Yj.l1 a0 We
def Yj (a0:List Qe):Option Bool:=
 Yb (Yj.step a0) (.l1 0)
def Xl.j1 (Qc9:Bool):Option Bool:=
 some Qc9
inductive Xl.S where
 | l1 (Xb:Int)
def Xl.l1 (a0:Qk) (a1:Int) (Xb:Int):Option (Xl.S ⊕ Bool):=
 if Xb < (a0.Pairs.length:Int) then
  if 0<=Xb/\Xb < (a0.Pairs.length:Int) then
   if ((a0.Pairs.getD Xb.toNat Qc.z).Key)=a1 then
    some (.inr true)
   else
    some (.inl (.l1 (IntKind.wrap .i64 (Xb+1))))
  else none
 else
  some (.inr false)
def Xl.step (a0:Qk) (a1:Int):Xl.S->Option (Xl.S ⊕ Bool)
 | .l1 Xb=>Xl.l1 a0 a1 Xb
def Xl (a0:Qk) (a1:Int):Option Bool:=
 if a0.Kind=2 then
  if a1>=a0.Over.Lo then
   Xl.j1 (decide (a1 < a0.Over.Hi))
  else
   Xl.j1 false
 else
  Yb (Xl.step a0 a1) (.l1 0)
def Qcy (a0:Int):Int:=
 if a0 > 1099511627776 then
  1099511627776
 else
  if a0 < (-1099511627776) then
   (-1099511627776)
  else
   a0
def Qv.j1 (a0:Xf) (v1:Int) (Qqo:Bool):Option (Xf × Bool):=
 if Qqo=true then
  some (a0,false)
 else
  some ((⟨v1,true⟩:Xf),true)
def Qv.j2 (a0:Xf) (a1:Qk) (Qfp:Bool):Option (Xf × Bool):=
 if Qfp=true then
  some (a0,false)
 else
  if (0:Int)<=0/\0 < (a1.Pairs.length:Int) then
   some ((⟨(a1.Pairs.getD 0 Qc.z).Val,true⟩:Xf),true)
  else none
inductive Qv.S where
 | l1 (Qao:Int)
def Qv.l1 (a0:Xf) (a1:Qk) (a2:Int) (Qao:Int):Option (Qv.S ⊕ (Xf × Bool)):=
 if Qao < (a1.Pairs.length:Int) then
  if 0<=Qao/\Qao < (a1.Pairs.length:Int) then
   if ((a1.Pairs.getD Qao.toNat Qc.z).Key)=a2 then
    some (.inr ((⟨(a1.Pairs.getD Qao.toNat Qc.z).Val,true⟩:Xf),true))
   else
    some (.inl (.l1 (IntKind.wrap .i64 (Qao+1))))
  else none
 else
  some (.inr (a0,true))
def Qv.step (a0:Xf) (a1:Qk) (a2:Int):Qv.S->Option (Qv.S ⊕ (Xf × Bool))
 | .l1 Qao=>Qv.l1 a0 a1 a2 Qao
def Qv (a0:Xf) (a1:Qk) (a2:Int):Option (Xf × Bool):=
 if a1.Kind=2 then
  some ((⟨0,false⟩:Xf),true)
 else
  if a1.Kind=3 then
   if (0:Int)<=0/\0 < (a1.Pairs.length:Int) then
    bnd (IntKind.wrap .i64 (a0.Val+((a1.Pairs.getD 0 Qc.z).Val))) fun (v1:Int)=>
    if v1 < 0 then
     Qv.j1 a0 v1 true
    else
     Qv.j1 a0 v1 (decide (v1 > 1099511627776))
   else none
  else
   if a1.Kind=4 then
    if a0.Some=true then
     if a0.Val=a1.Old then
      Qv.j2 a0 a1 false
     else
      Qv.j2 a0 a1 true
    else
     Qv.j2 a0 a1 (a1.Old != 1099511627777)
   else
    if a1.Kind=5 then
     if (0:Int)<=0/\0 < (a1.Pairs.length:Int) then
      if a2=((a1.Pairs.getD 0 Qc.z).Key) then
       bnd (Qcy (IntKind.wrap .i64 (a0.Val - ((a1.Pairs.getD 0 Qc.z).Val)))) fun (v2:Int)=>
       some ((⟨v2,true⟩:Xf),true)
      else
       bnd (Qcy (IntKind.wrap .i64 (a0.Val+((a1.Pairs.getD 0 Qc.z).Val)))) fun (v3:Int)=>
       some ((⟨v3,true⟩:Xf),true)
     else none
    else
     Yb (Qv.step a0 a1 a2) (.l1 0)
inductive Zy.S where
 | l1 (Wi:Int) (Qj:List Zo) (Qf5:Int) (Qf6:Bool)
def Zy.j4 (Wi:Int) (Qfd:List Zo) (Wh4:Int) (Wh5:Bool):Option (Zy.S ⊕ ((List Zo) × Int)):=
 some (.inl (.l1 (IntKind.wrap .i64 (Wi+1)) Qfd Wh4 Wh5))
def Zy.j3 (a0:List Qe) (Wi:Int) (Qj:List Zo) (Qf5:Int) (Qf6:Bool) (Qy3:Int) (Qy4:Bool):Option (Zy.S ⊕ ((List Zo) × Int)):=
 if (Qj.length+1) * 120<=140737488355328 then
  Zy.j4 Wi (Qj ++ [(⟨(a0.getD Wi.toNat Qe.z),(⟨Qf5,Qf6⟩:Xf),(⟨Qy3,Qy4⟩:Xf)⟩:Zo)]) Qy3 Qy4
 else none
def Zy.j2 (a0:List Qe) (a1:Int) (Wi:Int) (Qj:List Zo) (Qf5:Int) (Qf6:Bool) (Wjh:Bool):Option (Zy.S ⊕ ((List Zo) × Int)):=
 if Wjh=true then
  (Qv (⟨Qf5,Qf6⟩:Xf) ((a0.getD Wi.toNat Qe.z).M) a1).bind fun v3=>
  if v3.2=true then
   Zy.j3 a0 Wi Qj Qf5 Qf6 v3.1.Val v3.1.Some
  else
   Zy.j3 a0 Wi Qj Qf5 Qf6 Qf5 Qf6
 else
  Zy.j4 Wi Qj Qf5 Qf6
def Zy.l1 (a0:List Qe) (a1:Int) (Wi:Int) (Qj:List Zo) (Qf5:Int) (Qf6:Bool):Option (Zy.S ⊕ ((List Zo) × Int)):=
 if Wi < (a0.length:Int) then
  if 0<=Wi/\Wi < (a0.length:Int) then
   if ((a0.getD Wi.toNat Qe.z).Jt)=true then
    (Xl ((a0.getD Wi.toNat Qe.z).M) a1).bind fun v2=>
    Zy.j2 a0 a1 Wi Qj Qf5 Qf6 v2
   else
    Zy.j2 a0 a1 Wi Qj Qf5 Qf6 false
  else none
 else
  some (.inr (Qj,0))
def Zy.step (a0:List Qe) (a1:Int):Zy.S->Option (Zy.S ⊕ ((List Zo) × Int))
 | .l1 Wi Qj Qf5 Qf6=>Zy.l1 a0 a1 Wi Qj Qf5 Qf6
def Zy.j1 (a0:List Qe) (a1:Int) (Qep:Bool):Option ((List Zo) × Int):=
 if Qep=true then
  some (([]:List Zo),1)
 else
  Yb (Zy.step a0 a1) (.l1 0 ([]:List Zo) 0 false)
def Zy (a0:List Qe) (a1:Int):Option ((List Zo) × Int):=
 (Yj a0).bind fun v1=>
 if v1=true then
  if a1 < 0 then
   Zy.j1 a0 a1 true
  else
   Zy.j1 a0 a1 (decide (a1>=4096))
 else
  Zy.j1 a0 a1 true
inductive Yd.S where
 | l1 (We:Int)
def Yd.j1 (We:Int) (Qqr:Bool):Option (Yd.S ⊕ Bool):=
 if Qqr=true then
  some (.inr false)
 else
  some (.inl (.l1 (IntKind.wrap .i64 (We+1))))
def Yd.l1 (a0:List Qi) (We:Int):Option (Yd.S ⊕ Bool):=
 if We < (a0.length:Int) then
  if 0<=We/\We < (a0.length:Int) then
   if (Ja (a0.getD We.toNat Qi.z))=true then
    if We > 0 then
     if 0<=(IntKind.wrap .i64 (We - 1))/\(IntKind.wrap .i64 (We - 1)) < (a0.length:Int) then
      Yd.j1 We (decide (((a0.getD We.toNat Qi.z).Lo)<=((a0.getD ((IntKind.wrap .i64 (We - 1)).toNat) Qi.z).Hi)))
     else none
    else
     Yd.j1 We false
   else
    Yd.j1 We true
  else none
 else
  some (.inr (decide ((a0.length:Int)<=64)))
def Yd.step (a0:List Qi):Yd.S->Option (Yd.S ⊕ Bool)
 | .l1 We=>Yd.l1 a0 We
def Yd (a0:List Qi):Option Bool:=
 Yb (Yd.step a0) (.l1 0)
inductive Qaw.S where
 | l1 (Zm:Int) (Qj:List Bool)
 | l2 (Qfy:Int) (Qam:List Bool)
 | l3 (Qkw:Int) (Qg1:Int) (Qk9:List Bool)
def Qaw.j1 (Qkw:Int) (Qg1:Int) (Qk9:List Bool) (Wjf:Bool):Option (Qaw.S ⊕ (List Bool)):=
 if Wjf=true then
  if 0<=Qg1/\Qg1 < (Qk9.length:Int) then
   some (.inl (.l3 Qkw (IntKind.wrap .i64 (Qg1+1)) (Qk9.set Qg1.toNat true)))
  else none
 else
  some (.inl (.l2 (IntKind.wrap .i64 (Qkw+1)) Qk9))
def Qaw.l1 (Zm:Int) (Qj:List Bool):Option (Qaw.S ⊕ (List Bool)):=
 if Zm < 4096 then
  if (Qj.length+1) * 1<=140737488355328 then
   some (.inl (.l1 (IntKind.wrap .i64 (Zm+1)) (Qj ++ [false])))
  else none
 else
  some (.inl (.l2 0 Qj))
def Qaw.l2 (a0:List Qi) (Qfy:Int) (Qam:List Bool):Option (Qaw.S ⊕ (List Bool)):=
 if Qfy < (a0.length:Int) then
  if 0<=Qfy/\Qfy < (a0.length:Int) then
   some (.inl (.l3 Qfy ((a0.getD Qfy.toNat Qi.z).Lo) Qam))
  else none
 else
  some (.inr Qam)
def Qaw.l3 (a0:List Qi) (Qkw:Int) (Qg1:Int) (Qk9:List Bool):Option (Qaw.S ⊕ (List Bool)):=
 if 0<=Qkw/\Qkw < (a0.length:Int) then
  if (Ja (a0.getD Qkw.toNat Qi.z))=true then
   Qaw.j1 Qkw Qg1 Qk9 (decide (Qg1 < ((a0.getD Qkw.toNat Qi.z).Hi)))
  else
   Qaw.j1 Qkw Qg1 Qk9 false
 else none
def Qaw.step (a0:List Qi):Qaw.S->Option (Qaw.S ⊕ (List Bool))
 | .l1 Zm Qj=>Qaw.l1 Zm Qj
 | .l2 Qfy Qam=>Qaw.l2 a0 Qfy Qam
 | .l3 Qkw Qg1 Qk9=>Qaw.l3 a0 Qkw Qg1 Qk9
def Qaw (a0:List Qi):Option (List Bool):=
 Yb (Qaw.step a0) (.l1 0 ([]:List Bool))
inductive Qbl.S where
 | l1 (Xb:Int) (Qj:List Qi)
 | l2 (Qfy:Int) (Qco:Int) (Qam:List Qi)
def Qbl.j1 (Qfy:Int) (Qco:Int) (Qam:List Qi) (Qep:Bool):Option (Qbl.S ⊕ ((List Qi) × Int)):=
 if Qep=true then
  some (.inl (.l2 (IntKind.wrap .i64 (Qfy+1)) Qco Qam))
 else
  if Qfy > Qco then
   if (Qam.length+1) * 16<=140737488355328 then
    some (.inl (.l1 Qfy (Qam ++ [(⟨Qco,Qfy⟩:Qi)])))
   else none
  else
   some (.inl (.l1 (IntKind.wrap .i64 (Qfy+1)) Qam))
def Qbl.l1 (a0:List Bool) (Xb:Int) (Qj:List Qi):Option (Qbl.S ⊕ ((List Qi) × Int)):=
 if Xb < (a0.length:Int) then
  some (.inl (.l2 Xb Xb Qj))
 else
  if (Qj.length:Int) > 64 then
   some (.inr (([]:List Qi),2))
  else
   some (.inr (Qj,0))
def Qbl.l2 (a0:List Bool) (Qfy:Int) (Qco:Int) (Qam:List Qi):Option (Qbl.S ⊕ ((List Qi) × Int)):=
 if Qfy < (a0.length:Int) then
  if 0<=Qfy/\Qfy < (a0.length:Int) then
   Qbl.j1 Qfy Qco Qam (a0.getD Qfy.toNat false)
  else none
 else
  Qbl.j1 Qfy Qco Qam false
def Qbl.step (a0:List Bool):Qbl.S->Option (Qbl.S ⊕ ((List Qi) × Int))
 | .l1 Xb Qj=>Qbl.l1 a0 Xb Qj
 | .l2 Qfy Qco Qam=>Qbl.l2 a0 Qfy Qco Qam
def Qbl (a0:List Bool):Option ((List Qi) × Int):=
 Yb (Qbl.step a0) (.l1 0 ([]:List Qi))
inductive Qdh.S where
 | l1 (Zm:Int)
def Qdh.l1 (a0:List Qi) (Zm:Int):Option (Qdh.S ⊕ ((List Qi) × Int)):=
 if Zm < (a0.length:Int) then
  if 0<=Zm/\Zm < (a0.length:Int) then
   if (Ja (a0.getD Zm.toNat Qi.z))=true then
    some (.inl (.l1 (IntKind.wrap .i64 (Zm+1))))
   else
    some (.inr (([]:List Qi),1))
  else none
 else
  (Qaw a0).bind fun v1=>
  (Qbl v1).bind fun v2=>
  some (.inr (v2.1,v2.2))
def Qdh.step (a0:List Qi):Qdh.S->Option (Qdh.S ⊕ ((List Qi) × Int))
 | .l1 Zm=>Qdh.l1 a0 Zm
def Qdh (a0:List Qi):Option ((List Qi) × Int):=
 Yb (Qdh.step a0) (.l1 0)
inductive Qc2.S where
 | l1 (Zm:Int) (Wl:List Qi)
def Qc2.l1 (a0:Qk) (Zm:Int) (Wl:List Qi):Option (Qc2.S ⊕ (List Qi)):=
 if Zm < (a0.Pairs.length:Int) then
  if 0<=Zm/\Zm < (a0.Pairs.length:Int) then
   if (Wl.length+1) * 16<=140737488355328 then
    some (.inl (.l1 (IntKind.wrap .i64 (Zm+1)) (Wl ++ [(⟨(a0.Pairs.getD Zm.toNat Qc.z).Key,IntKind.wrap .i64 (((a0.Pairs.getD Zm.toNat Qc.z).Key)+1)⟩:Qi)])))
   else none
  else none
 else
  (Qdh Wl).bind fun v2=>
  some (.inr v2.1)
def Qc2.step (a0:Qk):Qc2.S->Option (Qc2.S ⊕ (List Qi))
 | .l1 Zm Wl=>Qc2.l1 a0 Zm Wl
def Qc2 (a0:Qk):Option (List Qi):=
 (Qo a0).bind fun v1=>
 if v1=true then
  if a0.Kind=2 then
   some ([a0.Over]:List Qi)
  else
   Yb (Qc2.step a0) (.l1 0 ([]:List Qi))
 else
  some ([]:List Qi)
inductive Zl.S where
 | l1 (Qq:Int) (Wi:Int)
 | l2 (v3:List Qi) (Yq:Int) (Qea:Int) (Qeo:Bool) (Qbw:Int)
 | l3 (v3:List Qi) (Qod:Int) (Qoe:Int) (Qs6:Bool) (Qia:Int) (Qib:Int)
def Zl.j1 (a0:List Qe) (Qq:Int) (Wi:Int) (Qhk:Bool):Option (Zl.S ⊕ Int):=
 if Qhk=true then
  if 0<=Wi/\Wi < (a0.length:Int) then
   (Qc2 ((a0.getD Wi.toNat Qe.z).M)).bind fun v3=>
   some (.inl (.l2 v3 Qq Wi false 0))
  else none
 else
  some (.inr Qq)
def Zl.j3 (Qea:Int) (Ql3:Int):Option (Zl.S ⊕ Int):=
 some (.inl (.l1 Ql3 (IntKind.wrap .i64 (Qea+1))))
def Zl.j2 (Yq:Int) (Qea:Int) (Wjj:Bool):Option (Zl.S ⊕ Int):=
 if Wjj=true then
  Zl.j3 Qea (IntKind.wrap .i64 (Yq+1))
 else
  Zl.j3 Qea Yq
def Zl.j4 (Qod:Int) (Qoe:Int) (Qia:Int) (Qib:Int) (v3:List Qi) (Wjm:Bool):Option (Zl.S ⊕ Int):=
 some (.inl (.l3 v3 Qod Qoe Wjm Qia (IntKind.wrap .i64 (Qib+1))))
def Zl.l1 (a0:List Qe) (a1:List Qi) (Qq:Int) (Wi:Int):Option (Zl.S ⊕ Int):=
 if Wi < (a0.length:Int) then
  (Yj a0).bind fun v1=>
  if v1=true then
   (Yd a1).bind fun v2=>
   Zl.j1 a0 Qq Wi v2
  else
   Zl.j1 a0 Qq Wi false
 else
  Zl.j1 a0 Qq Wi false
def Zl.l2 (a0:List Qe) (a2:Int) (v3:List Qi) (Yq:Int) (Qea:Int) (Qeo:Bool) (Qbw:Int):Option (Zl.S ⊕ Int):=
 if Qbw < (v3.length:Int) then
  some (.inl (.l3 v3 Yq Qea Qeo Qbw 0))
 else
  if Qeo=true then
   if 0<=Qea/\Qea < (a0.length:Int) then
    Zl.j2 Yq Qea (decide (((a0.getD Qea.toNat Qe.z).Time) > a2))
   else none
  else
   Zl.j2 Yq Qea false
def Zl.l3 (a1:List Qi) (v3:List Qi) (Qod:Int) (Qoe:Int) (Qs6:Bool) (Qia:Int) (Qib:Int):Option (Zl.S ⊕ Int):=
 if Qib < (a1.length:Int) then
  if Qs6=true then
   Zl.j4 Qod Qoe Qia Qib v3 true
  else
   if 0<=Qia/\Qia < (v3.length:Int) then
    if 0<=Qib/\Qib < (a1.length:Int) then
     if ((v3.getD Qia.toNat Qi.z).Lo) < ((a1.getD Qib.toNat Qi.z).Hi) then
      Zl.j4 Qod Qoe Qia Qib v3 (decide (((a1.getD Qib.toNat Qi.z).Lo) < ((v3.getD Qia.toNat Qi.z).Hi)))
     else
      Zl.j4 Qod Qoe Qia Qib v3 false
    else none
   else none
 else
  some (.inl (.l2 v3 Qod Qoe Qs6 (IntKind.wrap .i64 (Qia+1))))
def Zl.step (a0:List Qe) (a1:List Qi) (a2:Int):Zl.S->Option (Zl.S ⊕ Int)
 | .l1 Qq Wi=>Zl.l1 a0 a1 Qq Wi
 | .l2 v3 Yq Qea Qeo Qbw=>Zl.l2 a0 a2 v3 Yq Qea Qeo Qbw
 | .l3 v3 Qod Qoe Qs6 Qia Qib=>Zl.l3 a1 v3 Qod Qoe Qs6 Qia Qib
def Zl (a0:List Qe) (a1:List Qi) (a2:Int):Option Int:=
 Yb (Zl.step a0 a1 a2) (.l1 0 0)
def Qbr.j1 (Qc9:Bool):Option Bool:=
 some Qc9
def Qbr (a0:Qe) (a1:Qe):Option Bool:=
 (Xh a0.M a1.M).bind fun v1=>
 if v1=true then
  if a0.Time=a1.Time then
   Qbr.j1 (a0.Jt == a1.Jt)
  else
   Qbr.j1 false
 else
  Qbr.j1 false
inductive Qc0.S where
 | l1 (Zm:Int) (Qj:List Qi)
def Qc0.l1 (a0:List Qb) (Zm:Int) (Qj:List Qi):Option (Qc0.S ⊕ (List Qi)):=
 if Zm < (a0.length:Int) then
  if 0<=Zm/\Zm < (a0.length:Int) then
   if (Qj.length+1) * 16<=140737488355328 then
    some (.inl (.l1 (IntKind.wrap .i64 (Zm+1)) (Qj ++ [(⟨(a0.getD Zm.toNat Qb.z).Lo,(a0.getD Zm.toNat Qb.z).Hi⟩:Qi)])))
   else none
  else none
 else
  some (.inr Qj)
def Qc0.step (a0:List Qb):Qc0.S->Option (Qc0.S ⊕ (List Qi))
 | .l1 Zm Qj=>Qc0.l1 a0 Zm Qj
def Qc0 (a0:List Qb):Option (List Qi):=
 Yb (Qc0.step a0) (.l1 0 ([]:List Qi))
end
end Go.SyP
namespace Go.SyP
open Go Go.Sy
noncomputable section
abbrev PT:=Int->List Ql × Int
def Qci.j1 (a2:Qy) (P:PT):Option (Int × PT):=
 some (0,Qhj P a2.Client ((P a2.Client).1,a2.Mark))
def Qci (a1:List Qd) (a2:Qy) (P:PT):Option (Int × PT):=
 (Ze a2).bind fun v1=>
 if v1=true then
  if a2.Kind=1 then
   if a2.M.Seq=(IntKind.wrap .i64 (((P a2.Client).1.length:Int)+1)) then
    if a2.M.Pairs.length * 16<=140737488355328 then
     if (((P a2.Client).1).length+1) * 72<=140737488355328 then
      some (0,Qhj P a2.Client (((P a2.Client).1) ++ [a2.M],(P a2.Client).2))
     else none
    else none
   else
    some (2,P)
  else
   if a2.Mark < ((P a2.Client).2) then
    some (3,P)
   else
    (Qc4 a1 (⟨(P a2.Client).1,a2.Mark⟩:Qft) a2.Key a2.Mark).bind fun v2=>
    if v2.Val=a2.Cell.Val then
     if v2.Some=true then
      if a2.Cell.Some=true then
       Qci.j1 a2 P
      else
       some (4,Qhj P a2.Client ((P a2.Client).1,a2.Mark))
     else
      if a2.Cell.Some=true then
       some (4,Qhj P a2.Client ((P a2.Client).1,a2.Mark))
      else
       Qci.j1 a2 P
    else
     if v2.Some=true then
      if a2.Cell.Some=true then
       some (4,Qhj P a2.Client ((P a2.Client).1,a2.Mark))
      else
       some (4,Qhj P a2.Client ((P a2.Client).1,a2.Mark))
     else
      if a2.Cell.Some=true then
       some (4,Qhj P a2.Client ((P a2.Client).1,a2.Mark))
      else
       some (4,Qhj P a2.Client ((P a2.Client).1,a2.Mark))
 else
  some (1,P)
inductive Jy.S where
 | l1 (Zf:Int) (Qj:PT) (Yl:List Ym)
def Jy.j1 (Zf:Int) (v2:Int × PT) (Qla:List Ym):Option (Jy.S ⊕ ((List Ym) × Int)):=
 some (.inl (.l1 (IntKind.wrap .i64 (Zf+1)) v2.2 Qla))
def Jy.l1 (a0:List Qd) (a1:List Qy) (Zf:Int) (Qj:PT) (Yl:List Ym):Option (Jy.S ⊕ ((List Ym) × Int)):=
 if Zf < (a1.length:Int) then
  if 0<=Zf/\Zf < (a1.length:Int) then
   (Qci a0 (a1.getD Zf.toNat Qy.z) Qj).bind fun v2=>
   if v2.1=0 then
    Jy.j1 Zf v2 Yl
   else
    if (Yl.length+1) * 16<=140737488355328 then
     Jy.j1 Zf v2 (Yl ++ [(⟨Zf,v2.1⟩:Ym)])
    else none
  else none
 else
  some (.inr (Yl,0))
def Jy.step (a0:List Qd) (a1:List Qy):Jy.S->Option (Jy.S ⊕ ((List Ym) × Int))
 | .l1 Zf Qj Yl=>Jy.l1 a0 a1 Zf Qj Yl
def Jy (a0:List Qd) (a1:List Qy):Option ((List Ym) × Int):=
 (Zb a0).bind fun v1=>
 if v1=true then
  Yb (Jy.step a0 a1) (.l1 0 (fun _=>([],0):PT) ([]:List Ym))
 else
  some (([]:List Ym),1)
end
end Go.SyP
