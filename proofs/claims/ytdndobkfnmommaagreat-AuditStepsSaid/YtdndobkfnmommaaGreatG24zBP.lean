/- Plain functions, printed by blame.py. -/
import Derived.Test.YtdndobkfnmommaaGreatG24zP
set_option linter.unusedVariables false
namespace Go.SyP
open Go Go.Sy
noncomputable section
def Qah.j1 (a0:Qe) (a3:List Qe) (Qqn:Bool):Option (Bool × List Qe):=
 if Qqn=true then
  (Qdo a0).bind fun v2=>
  if (a3.length+1) * 88<=140737488355328 then
   some (false,a3 ++ [v2])
  else none
 else
  some (true,a3)
def Qah (a0:Qe) (a1:List Qb) (a2:Int) (a3:List Qe):Option (Bool × List Qe):=
 if a0.Qai=true then
  if a0.Time<=a2 then
   (Qdv a0 a1).bind fun v1=>
   Qah.j1 a0 a3 v1
  else
   Qah.j1 a0 a3 false
 else
  Qah.j1 a0 a3 false
def Qd6 (one:List Qb) (mark:Int) (out:List Qe):List Qe->Option (Bool × List Qe)
 | []=>some (true,out)
 | x :: xs=>(Qah x one mark out).bind fun r=>if r.1 then Qd6 one mark r.2 xs else some r
inductive Zm.S where
 | l1 (Jp:Int) (Yr:List Qe)
def Zm.l1 (a0:List Qe) (a2:Int) (v3:List Qa) (Jp:Int) (Yr:List Qe):Option (Zm.S ⊕ ((List Qe) × Int)):=
 if Jp < (v3.length:Int) then
  if 0<=Jp/\Jp < (v3.length:Int) then
   if a0.length * 88<=140737488355328 then
    (Qd6 ([(⟨(v3.getD Jp.toNat Qa.z).Key,IntKind.wrap .i64 (((v3.getD Jp.toNat Qa.z).Key)+1)⟩:Qb)]:List Qb) a2 Yr a0.reverse).bind fun v4=>
    some (.inl (.l1 (IntKind.wrap .i64 (Jp+1)) v4.2))
   else none
  else none
 else
  some (.inr (Yr,0))
def Zm.step (a0:List Qe) (a2:Int) (v3:List Qa):Zm.S->Option (Zm.S ⊕ ((List Qe) × Int))
 | .l1 Jp Yr=>Zm.l1 a0 a2 v3 Jp Yr
def Zm.j1 (a0:List Qe) (a1:List Qb) (a2:Int) (Qc9:Bool):Option ((List Qe) × Int):=
 if Qc9=true then
  some (([]:List Qe),1)
 else
  (Yy a0 a1 a2).bind fun v3=>
  Xx (Zm.step a0 a2 v3) (.l1 0 ([]:List Qe))
def Zm (a0:List Qe) (a1:List Qb) (a2:Int):Option ((List Qe) × Int):=
 (Zn a0).bind fun v1=>
 if v1=true then
  (Zb a1).bind fun v2=>
  Zm.j1 a0 a1 a2 (!v2)
 else
  Zm.j1 a0 a1 a2 true
end
end Go.SyP
namespace Go.SyP
open Go Go.Sy
noncomputable section
def Ql.j1 (Qtu:Bool):Option Bool:=
 some Qtu
def Ql:Option Bool:=
 (Jz ([(⟨(⟨1,1,1,([(⟨5,7⟩:Qa)]:List Qa),(⟨0,0⟩:Qb),0⟩:Qn),3,true⟩:Qe)]:List Qe) ([(⟨1,1,(⟨1,1,1,([(⟨5,7⟩:Qa)]:List Qa),(⟨0,0⟩:Qb),0⟩:Qn),0,(⟨0,false⟩:Ze),0⟩:Wn),(⟨2,1,(⟨0,0,0,([]:List Qa),(⟨0,0⟩:Qb),0⟩:Qn),5,(⟨7,true⟩:Ze),0⟩:Wn),(⟨2,1,(⟨0,0,0,([]:List Qa),(⟨0,0⟩:Qb),0⟩:Qn),5,(⟨7,true⟩:Ze),4⟩:Wn)]:List Wn)).bind fun v1=>
 if (0:Int)<=2/\2 < (([(⟨1,1,(⟨1,1,1,([(⟨5,7⟩:Qa)]:List Qa),(⟨0,0⟩:Qb),0⟩:Qn),0,(⟨0,false⟩:Ze),0⟩:Wn),(⟨2,1,(⟨0,0,0,([]:List Qa),(⟨0,0⟩:Qb),0⟩:Qn),5,(⟨7,true⟩:Ze),0⟩:Wn),(⟨2,1,(⟨0,0,0,([]:List Qa),(⟨0,0⟩:Qb),0⟩:Qn),5,(⟨7,true⟩:Ze),4⟩:Wn)]:List Wn).length:Int) then
  (Jz ([(⟨(⟨1,1,1,([(⟨5,7⟩:Qa)]:List Qa),(⟨0,0⟩:Qb),0⟩:Qn),3,true⟩:Qe)]:List Qe) (([(⟨1,1,(⟨1,1,1,([(⟨5,7⟩:Qa)]:List Qa),(⟨0,0⟩:Qb),0⟩:Qn),0,(⟨0,false⟩:Ze),0⟩:Wn),(⟨2,1,(⟨0,0,0,([]:List Qa),(⟨0,0⟩:Qb),0⟩:Qn),5,(⟨7,true⟩:Ze),0⟩:Wn),(⟨2,1,(⟨0,0,0,([]:List Qa),(⟨0,0⟩:Qb),0⟩:Qn),5,(⟨7,true⟩:Ze),4⟩:Wn)]:List Wn).set 2 (⟨(([(⟨1,1,(⟨1,1,1,([(⟨5,7⟩:Qa)]:List Qa),(⟨0,0⟩:Qb),0⟩:Qn),0,(⟨0,false⟩:Ze),0⟩:Wn),(⟨2,1,(⟨0,0,0,([]:List Qa),(⟨0,0⟩:Qb),0⟩:Qn),5,(⟨7,true⟩:Ze),0⟩:Wn),(⟨2,1,(⟨0,0,0,([]:List Qa),(⟨0,0⟩:Qb),0⟩:Qn),5,(⟨7,true⟩:Ze),4⟩:Wn)]:List Wn).getD 2 Wn.z).Kind,(([(⟨1,1,(⟨1,1,1,([(⟨5,7⟩:Qa)]:List Qa),(⟨0,0⟩:Qb),0⟩:Qn),0,(⟨0,false⟩:Ze),0⟩:Wn),(⟨2,1,(⟨0,0,0,([]:List Qa),(⟨0,0⟩:Qb),0⟩:Qn),5,(⟨7,true⟩:Ze),0⟩:Wn),(⟨2,1,(⟨0,0,0,([]:List Qa),(⟨0,0⟩:Qb),0⟩:Qn),5,(⟨7,true⟩:Ze),4⟩:Wn)]:List Wn).getD 2 Wn.z).Client,((([(⟨1,1,(⟨1,1,1,([(⟨5,7⟩:Qa)]:List Qa),(⟨0,0⟩:Qb),0⟩:Qn),0,(⟨0,false⟩:Ze),0⟩:Wn),(⟨2,1,(⟨0,0,0,([]:List Qa),(⟨0,0⟩:Qb),0⟩:Qn),5,(⟨7,true⟩:Ze),0⟩:Wn),(⟨2,1,(⟨0,0,0,([]:List Qa),(⟨0,0⟩:Qb),0⟩:Qn),5,(⟨7,true⟩:Ze),4⟩:Wn)]:List Wn).getD 2 Wn.z).M),(([(⟨1,1,(⟨1,1,1,([(⟨5,7⟩:Qa)]:List Qa),(⟨0,0⟩:Qb),0⟩:Qn),0,(⟨0,false⟩:Ze),0⟩:Wn),(⟨2,1,(⟨0,0,0,([]:List Qa),(⟨0,0⟩:Qb),0⟩:Qn),5,(⟨7,true⟩:Ze),0⟩:Wn),(⟨2,1,(⟨0,0,0,([]:List Qa),(⟨0,0⟩:Qb),0⟩:Qn),5,(⟨7,true⟩:Ze),4⟩:Wn)]:List Wn).getD 2 Wn.z).Key,(⟨8,((([(⟨1,1,(⟨1,1,1,([(⟨5,7⟩:Qa)]:List Qa),(⟨0,0⟩:Qb),0⟩:Qn),0,(⟨0,false⟩:Ze),0⟩:Wn),(⟨2,1,(⟨0,0,0,([]:List Qa),(⟨0,0⟩:Qb),0⟩:Qn),5,(⟨7,true⟩:Ze),0⟩:Wn),(⟨2,1,(⟨0,0,0,([]:List Qa),(⟨0,0⟩:Qb),0⟩:Qn),5,(⟨7,true⟩:Ze),4⟩:Wn)]:List Wn).getD 2 Wn.z).Cell).Some⟩:Ze),(([(⟨1,1,(⟨1,1,1,([(⟨5,7⟩:Qa)]:List Qa),(⟨0,0⟩:Qb),0⟩:Qn),0,(⟨0,false⟩:Ze),0⟩:Wn),(⟨2,1,(⟨0,0,0,([]:List Qa),(⟨0,0⟩:Qb),0⟩:Qn),5,(⟨7,true⟩:Ze),0⟩:Wn),(⟨2,1,(⟨0,0,0,([]:List Qa),(⟨0,0⟩:Qb),0⟩:Qn),5,(⟨7,true⟩:Ze),4⟩:Wn)]:List Wn).getD 2 Wn.z).Mark⟩:Wn))).bind fun v2=>
  if v1.2=0 then
   if (v1.1.length:Int)=0 then
    if v2.2=0 then
     if (v2.1.length:Int)=1 then
      if (0:Int)<=0/\0 < (v2.1.length:Int) then
       Ql.j1 ((((v2.1.getD 0 Yt.z).At) == 2) && (((v2.1.getD 0 Yt.z).Why) == 4))
      else none
     else
      Ql.j1 false
    else
     Ql.j1 false
   else
    Ql.j1 false
  else
   Ql.j1 false
 else none
inductive Xc.S where
 | l1 (Wi:Int)
def Xc.j2 (Wi:Int) (Qfy:Bool):Option (Xc.S ⊕ Bool):=
 if Qfy=true then
  some (.inr false)
 else
  some (.inl (.l1 (IntKind.wrap .i64 (Wi+1))))
def Xc.j1 (a0:List Qd) (Wi:Int) (Qqk:Bool):Option (Xc.S ⊕ Bool):=
 if Qqk=true then
  some (.inr false)
 else
  if Wi > 0 then
   if 0<=(IntKind.wrap .i64 (Wi - 1))/\(IntKind.wrap .i64 (Wi - 1)) < (a0.length:Int) then
    Xc.j2 Wi (decide (((a0.getD Wi.toNat Qd.z).Key)<=((a0.getD ((IntKind.wrap .i64 (Wi - 1)).toNat) Qd.z).Key)))
   else none
  else
   Xc.j2 Wi false
def Xc.l1 (a0:List Qd) (Wi:Int):Option (Xc.S ⊕ Bool):=
 if Wi < (a0.length:Int) then
  if 0<=Wi/\Wi < (a0.length:Int) then
   if ((a0.getD Wi.toNat Qd.z).Key) < 0 then
    Xc.j1 a0 Wi true
   else
    if ((a0.getD Wi.toNat Qd.z).Key) > 4095 then
     Xc.j1 a0 Wi true
    else
     if ((a0.getD Wi.toNat Qd.z).Val) < (-1099511627776) then
      Xc.j1 a0 Wi true
     else
      Xc.j1 a0 Wi (decide (((a0.getD Wi.toNat Qd.z).Val) > 1099511627776))
  else none
 else
  some (.inr true)
def Xc.step (a0:List Qd):Xc.S->Option (Xc.S ⊕ Bool)
 | .l1 Wi=>Xc.l1 a0 Wi
def Xc (a0:List Qd):Option Bool:=
 Xx (Xc.step a0) (.l1 0)
inductive Wq.S where
 | l1 (Jg:Bool) (Qr:Int) (Qi:List Int)
def Wq.j4 (a0:List Int) (Qr:Int) (Qlt:Bool) (Qd4:List Int):Option (Wq.S ⊕ (List Int)):=
 if (Qd4.length+1) * 8<=140737488355328 then
  some (.inl (.l1 Qlt (IntKind.wrap .i64 (Qr+1)) (Qd4 ++ [a0.getD Qr.toNat 0])))
 else none
def Wq.j3 (a0:List Int) (a1:Int) (Qr:Int) (Qi:List Int) (Qr5:Bool) (Qqx:Bool):Option (Wq.S ⊕ (List Int)):=
 if Qqx=true then
  if (Qi.length+1) * 8<=140737488355328 then
   Wq.j4 a0 Qr true (Qi ++ [a1])
  else none
 else
  Wq.j4 a0 Qr Qr5 Qi
def Wq.j2 (a0:List Int) (a1:Int) (Qr:Int) (Qi:List Int) (Qpn:Bool):Option (Wq.S ⊕ (List Int)):=
 if Qpn=true then
  Wq.j3 a0 a1 Qr Qi true false
 else
  Wq.j3 a0 a1 Qr Qi false (decide ((a0.getD Qr.toNat 0) > a1))
def Wq.j1 (Qd3:List Int):Option (Wq.S ⊕ (List Int)):=
 some (.inr Qd3)
def Wq.l1 (a0:List Int) (a1:Int) (Jg:Bool) (Qr:Int) (Qi:List Int):Option (Wq.S ⊕ (List Int)):=
 if Qr < (a0.length:Int) then
  if 0<=Qr/\Qr < (a0.length:Int) then
   if (a0.getD Qr.toNat 0)=a1 then
    Wq.j2 a0 a1 Qr Qi true
   else
    Wq.j2 a0 a1 Qr Qi Jg
  else none
 else
  if Jg=true then
   Wq.j1 Qi
  else
   if (Qi.length+1) * 8<=140737488355328 then
    Wq.j1 (Qi ++ [a1])
   else none
def Wq.step (a0:List Int) (a1:Int):Wq.S->Option (Wq.S ⊕ (List Int))
 | .l1 Jg Qr Qi=>Wq.l1 a0 a1 Jg Qr Qi
def Wq (a0:List Int) (a1:Int):Option (List Int):=
 Xx (Wq.step a0 a1) (.l1 false 0 ([]:List Int))
inductive Yo.S where
 | l1 (Jg:Int) (Wm:List Int)
 | l2 (Yp:Int) (Qel:List Int)
def Yo.l1 (a0:List Qd) (Jg:Int) (Wm:List Int):Option (Yo.S ⊕ (List Int)):=
 if Jg < (a0.length:Int) then
  if 0<=Jg/\Jg < (a0.length:Int) then
   (Wq Wm ((a0.getD Jg.toNat Qd.z).Key)).bind fun v1=>
   some (.inl (.l1 (IntKind.wrap .i64 (Jg+1)) v1))
  else none
 else
  some (.inl (.l2 0 Wm))
def Yo.l2 (a1:Xd) (Yp:Int) (Qel:List Int):Option (Yo.S ⊕ (List Int)):=
 if Yp < (a1.Pairs.length:Int) then
  if 0<=Yp/\Yp < (a1.Pairs.length:Int) then
   (Wq Qel ((a1.Pairs.getD Yp.toNat Qd.z).Key)).bind fun v2=>
   some (.inl (.l2 (IntKind.wrap .i64 (Yp+1)) v2))
  else none
 else
  some (.inr Qel)
def Yo.step (a0:List Qd) (a1:Xd):Yo.S->Option (Yo.S ⊕ (List Int))
 | .l1 Jg Wm=>Yo.l1 a0 Jg Wm
 | .l2 Yp Qel=>Yo.l2 a1 Yp Qel
def Yo (a0:List Qd) (a1:Xd):Option (List Int):=
 Xx (Yo.step a0 a1) (.l1 0 ([]:List Int))
inductive Zy.S where
 | l1 (Wz:Int)
def Zy.l1 (a0:List Qd) (a1:Int) (Wz:Int):Option (Zy.S ⊕ Xb):=
 if Wz < (a0.length:Int) then
  if 0<=Wz/\Wz < (a0.length:Int) then
   if ((a0.getD Wz.toNat Qd.z).Key)=a1 then
    some (.inr (⟨(a0.getD Wz.toNat Qd.z).Val,true⟩:Xb))
   else
    some (.inl (.l1 (IntKind.wrap .i64 (Wz+1))))
  else none
 else
  some (.inr (⟨0,false⟩:Xb))
def Zy.step (a0:List Qd) (a1:Int):Zy.S->Option (Zy.S ⊕ Xb)
 | .l1 Wz=>Zy.l1 a0 a1 Wz
def Zy (a0:List Qd) (a1:Int):Option Xb:=
 Xx (Zy.step a0 a1) (.l1 0)
inductive Ya.S where
 | l1 (Wz:Int)
def Ya.j1 (Wz:Int) (Qfx:Bool):Option (Ya.S ⊕ Bool):=
 if Qfx=true then
  some (.inr true)
 else
  some (.inl (.l1 (IntKind.wrap .i64 (Wz+1))))
def Ya.l1 (a0:List Qf) (a1:Int) (Wz:Int):Option (Ya.S ⊕ Bool):=
 if Wz < (a0.length:Int) then
  if 0<=Wz/\Wz < (a0.length:Int) then
   if (Zk (a0.getD Wz.toNat Qf.z))=true then
    if a1>=((a0.getD Wz.toNat Qf.z).Lo) then
     Ya.j1 Wz (decide (a1 < ((a0.getD Wz.toNat Qf.z).Hi)))
    else
     Ya.j1 Wz false
   else
    Ya.j1 Wz false
  else none
 else
  some (.inr false)
def Ya.step (a0:List Qf) (a1:Int):Ya.S->Option (Ya.S ⊕ Bool)
 | .l1 Wz=>Ya.l1 a0 a1 Wz
def Ya (a0:List Qf) (a1:Int):Option Bool:=
 Xx (Ya.step a0 a1) (.l1 0)
inductive Qu.S where
 | l1 (Yk:Int) (Yf:List Qd)
def Qu.j4 (Yk:Int) (Qk4:List Qd):Option (Qu.S ⊕ ((List Qd) × Bool)):=
 some (.inl (.l1 (IntKind.wrap .i64 (Yk+1)) Qk4))
def Qu.j3 (v4:List Int) (Yk:Int) (Yf:List Qd) (Qdp:Int) (Qi1:Bool):Option (Qu.S ⊕ ((List Qd) × Bool)):=
 if Qi1=true then
  if (Yf.length+1) * 16<=140737488355328 then
   Qu.j4 Yk (Yf ++ [(⟨v4.getD Yk.toNat 0,Qdp⟩:Qd)])
  else none
 else
  Qu.j4 Yk Yf
def Qu.j2 (a0:List Qd) (a1:Xd) (v4:List Int) (Yk:Int) (Yf:List Qd) (v5:Xb) (Qfy:Bool):Option (Qu.S ⊕ ((List Qd) × Bool)):=
 if Qfy=true then
  (Qv v5 a1 (v4.getD Yk.toNat 0)).bind fun v8=>
  if v8.2=true then
   Qu.j3 v4 Yk Yf v8.1.Val v8.1.Some
  else
   some (.inr (a0,false))
 else
  Qu.j3 v4 Yk Yf v5.Val v5.Some
def Qu.l1 (a0:List Qd) (a1:Xd) (a2:List Qf) (v4:List Int) (Yk:Int) (Yf:List Qd):Option (Qu.S ⊕ ((List Qd) × Bool)):=
 if Yk < (v4.length:Int) then
  if 0<=Yk/\Yk < (v4.length:Int) then
   (Zy a0 (v4.getD Yk.toNat 0)).bind fun v5=>
   (Xu a1 (v4.getD Yk.toNat 0)).bind fun v6=>
   if v6=true then
    (Ya a2 (v4.getD Yk.toNat 0)).bind fun v7=>
    Qu.j2 a0 a1 v4 Yk Yf v5 v7
   else
    Qu.j2 a0 a1 v4 Yk Yf v5 false
  else none
 else
  some (.inr (Yf,true))
def Qu.step (a0:List Qd) (a1:Xd) (a2:List Qf) (v4:List Int):Qu.S->Option (Qu.S ⊕ ((List Qd) × Bool))
 | .l1 Yk Yf=>Qu.l1 a0 a1 a2 v4 Yk Yf
def Qu.j1 (a0:List Qd) (a1:Xd) (a2:List Qf) (Qia:Bool):Option ((List Qd) × Bool):=
 if Qia=true then
  some (([]:List Qd),false)
 else
  (Yo a0 a1).bind fun v4=>
  Xx (Qu.step a0 a1 a2 v4) (.l1 0 ([]:List Qd))
def Qu (a0:List Qd) (a1:Xd) (a2:List Qf):Option ((List Qd) × Bool):=
 (Xc a0).bind fun v1=>
 if v1=true then
  (Qq a1).bind fun v2=>
  if v2=true then
   (Yu a2).bind fun v3=>
   Qu.j1 a0 a1 a2 (!v3)
  else
   Qu.j1 a0 a1 a2 true
 else
  Qu.j1 a0 a1 a2 true
inductive Qw.S where
 | l1 (Qy:Int)
 | l2 (Yp:List Qd) (Qbh:Int)
def Qw.j3 (Qbh:Int) (Qgl:List Qd):Option (Qw.S ⊕ (List Qd)):=
 some (.inl (.l2 Qgl (IntKind.wrap .i64 (Qbh+1))))
def Qw.j2 (a0:List Qg) (a1:List Qf) (Yp:List Qd) (Qbh:Int) (Qqu:Bool):Option (Qw.S ⊕ (List Qd)):=
 if Qqu=true then
  (Qu Yp ((a0.getD Qbh.toNat Qg.z).M) a1).bind fun v3=>
  Qw.j3 Qbh v3.1
 else
  Qw.j3 Qbh Yp
def Qw.j1 (a0:List Qg) (a1:List Qf) (a2:Int) (Yp:List Qd) (Qbh:Int) (Qqg:Bool):Option (Qw.S ⊕ (List Qd)):=
 if Qqg=true then
  if 0<=Qbh/\Qbh < (a0.length:Int) then
   if ((a0.getD Qbh.toNat Qg.z).Qai)=true then
    Qw.j2 a0 a1 Yp Qbh (decide (((a0.getD Qbh.toNat Qg.z).Time)<=a2))
   else
    Qw.j2 a0 a1 Yp Qbh false
  else none
 else
  some (.inr Yp)
def Qw.l1 (a0:List Qg) (Qy:Int):Option (Qw.S ⊕ (List Qd)):=
 if Qy < (a0.length:Int) then
  if 0<=Qy/\Qy < (a0.length:Int) then
   (Qq ((a0.getD Qy.toNat Qg.z).M)).bind fun v1=>
   if v1=true then
    some (.inl (.l1 (IntKind.wrap .i64 (Qy+1))))
   else
    some (.inr ([]:List Qd))
  else none
 else
  some (.inl (.l2 ([]:List Qd) 0))
def Qw.l2 (a0:List Qg) (a1:List Qf) (a2:Int) (Yp:List Qd) (Qbh:Int):Option (Qw.S ⊕ (List Qd)):=
 if Qbh < (a0.length:Int) then
  (Yu a1).bind fun v2=>
  Qw.j1 a0 a1 a2 Yp Qbh v2
 else
  Qw.j1 a0 a1 a2 Yp Qbh false
def Qw.step (a0:List Qg) (a1:List Qf) (a2:Int):Qw.S->Option (Qw.S ⊕ (List Qd))
 | .l1 Qy=>Qw.l1 a0 Qy
 | .l2 Yp Qbh=>Qw.l2 a0 a1 a2 Yp Qbh
def Qw (a0:List Qg) (a1:List Qf) (a2:Int):Option (List Qd):=
 Xx (Qw.step a0 a1 a2) (.l1 0)
inductive Qx.S where
 | l1 (Yk:Int) (Qi:List Qg)
 | l2 (Qap:Int) (Qba:Int) (Qad:Int) (Xv:List Qg)
def Qx.j4 (Qap:Int) (Qad:Int) (Xv:List Qg) (Qn9:Int):Option (Qx.S ⊕ ((List Qg) × Int)):=
 some (.inl (.l2 Qap Qn9 (IntKind.wrap .i64 (Qad+1)) Xv))
def Qx.j3 (Qap:Int) (Qba:Int) (Qad:Int) (Xv:List Qg) (Qqz:Bool):Option (Qx.S ⊕ ((List Qg) × Int)):=
 if Qqz=true then
  Qx.j4 Qap Qad Xv Qad
 else
  Qx.j4 Qap Qad Xv Qba
def Qx.j2 (Qap:Int) (Qk1:List Qg):Option (Qx.S ⊕ ((List Qg) × Int)):=
 some (.inl (.l1 (IntKind.wrap .i64 (Qap+1)) Qk1))
def Qx.l1 (v3:List Qd) (Yk:Int) (Qi:List Qg):Option (Qx.S ⊕ ((List Qg) × Int)):=
 if Yk < (v3.length:Int) then
  some (.inl (.l2 Yk (-1) 0 Qi))
 else
  some (.inr (Qi,0))
def Qx.l2 (a0:List Qg) (a2:Int) (v3:List Qd) (Qap:Int) (Qba:Int) (Qad:Int) (Xv:List Qg):Option (Qx.S ⊕ ((List Qg) × Int)):=
 if Qad < (a0.length:Int) then
  if 0<=Qad/\Qad < (a0.length:Int) then
   if ((a0.getD Qad.toNat Qg.z).Qai)=true then
    if ((a0.getD Qad.toNat Qg.z).Time)<=a2 then
     if 0<=Qap/\Qap < (v3.length:Int) then
      (Xu ((a0.getD Qad.toNat Qg.z).M) ((v3.getD Qap.toNat Qd.z).Key)).bind fun v4=>
      Qx.j3 Qap Qba Qad Xv v4
     else none
    else
     Qx.j3 Qap Qba Qad Xv false
   else
    Qx.j3 Qap Qba Qad Xv false
  else none
 else
  if Qba>=0 then
   if 0<=Qba/\Qba < (a0.length:Int) then
    if (Xv.length+1) * 88<=140737488355328 then
     Qx.j2 Qap (Xv ++ [a0.getD Qba.toNat Qg.z])
    else none
   else none
  else
   Qx.j2 Qap Xv
def Qx.step (a0:List Qg) (a2:Int) (v3:List Qd):Qx.S->Option (Qx.S ⊕ ((List Qg) × Int))
 | .l1 Yk Qi=>Qx.l1 v3 Yk Qi
 | .l2 Qap Qba Qad Xv=>Qx.l2 a0 a2 v3 Qap Qba Qad Xv
def Qx.j1 (a0:List Qg) (a1:List Qf) (a2:Int) (Qp9:Bool):Option ((List Qg) × Int):=
 if Qp9=true then
  some (([]:List Qg),1)
 else
  (Qw a0 a1 a2).bind fun v3=>
  Xx (Qx.step a0 a2 v3) (.l1 0 ([]:List Qg))
def Qx (a0:List Qg) (a1:List Qf) (a2:Int):Option ((List Qg) × Int):=
 (Yn a0).bind fun v1=>
 if v1=true then
  (Yu a1).bind fun v2=>
  Qx.j1 a0 a1 a2 (!v2)
 else
  Qx.j1 a0 a1 a2 true
inductive Qc.S where
 | l1 (Qm:Int)
 | l2 (v8:(List Qg) × Int) (v9:List Qg) (Qc1:Int)
def Qc.j4 (Qm:Int) (Qm6:Bool):Option (Qc.S ⊕ Bool):=
 if Qm6=true then
  some (.inr false)
 else
  some (.inl (.l1 (IntKind.wrap .i64 (Qm+1))))
def Qc.j3 (v6:(List Qe) × Int) (v8:(List Qg) × Int) (Qm5:Bool):Option (Qc.S ⊕ Bool):=
 if Qm5=true then
  some (.inr false)
 else
  (Qan v6.1).bind fun v9=>
  some (.inl (.l2 v8 v9 0))
def Qc.j5 (Qtz:Bool):Option (Qc.S ⊕ Bool):=
 some (.inr Qtz)
def Qc.l1 (a0:List Qe) (a1:List Qb) (a2:Qcy) (v3:List Qg) (v4:(List Xe) × Int) (v5:(List Xf) × Int) (Qm:Int):Option (Qc.S ⊕ Bool):=
 if Qm < (v4.1.length:Int) then
  if 0<=Qm/\Qm < (v4.1.length:Int) then
   (Qan ([(v4.1.getD Qm.toNat Xe.z).E]:List Qe)).bind fun v10=>
   if (0:Int)<=0/\0 < (v10.length:Int) then
    if 0<=Qm/\Qm < (v5.1.length:Int) then
     (Qak (v10.getD 0 Qg.z) ((v5.1.getD Qm.toNat Xf.z).E)).bind fun v11=>
     if v11=true then
      if (((v4.1.getD Qm.toNat Xe.z).Was).Val)=(((v5.1.getD Qm.toNat Xf.z).Was).Val) then
       if (((v4.1.getD Qm.toNat Xe.z).Was).Some)=true then
        if (((v5.1.getD Qm.toNat Xf.z).Was).Some)=true then
         Qc.j4 Qm (!(((((v4.1.getD Qm.toNat Xe.z).Is).Val) == (((v5.1.getD Qm.toNat Xf.z).Is).Val)) && ((((v4.1.getD Qm.toNat Xe.z).Is).Some) == (((v5.1.getD Qm.toNat Xf.z).Is).Some))))
        else
         Qc.j4 Qm true
       else
        if (((v5.1.getD Qm.toNat Xf.z).Was).Some)=true then
         Qc.j4 Qm true
        else
         Qc.j4 Qm (!(((((v4.1.getD Qm.toNat Xe.z).Is).Val) == (((v5.1.getD Qm.toNat Xf.z).Is).Val)) && ((((v4.1.getD Qm.toNat Xe.z).Is).Some) == (((v5.1.getD Qm.toNat Xf.z).Is).Some))))
      else
       if (((v4.1.getD Qm.toNat Xe.z).Was).Some)=true then
        if (((v5.1.getD Qm.toNat Xf.z).Was).Some)=true then
         Qc.j4 Qm true
        else
         Qc.j4 Qm true
       else
        if (((v5.1.getD Qm.toNat Xf.z).Was).Some)=true then
         Qc.j4 Qm true
        else
         Qc.j4 Qm true
     else
      Qc.j4 Qm true
    else none
   else none
  else none
 else
  (Zm a0 a1 a2.i1).bind fun v6=>
  (Zq a1).bind fun v7=>
  (Qx v3 v7 a2.i1).bind fun v8=>
  if v6.2=v8.2 then
   Qc.j3 v6 v8 ((v6.1.length:Int) != (v8.1.length:Int))
  else
   Qc.j3 v6 v8 true
def Qc.l2 (a0:List Qe) (a1:List Qb) (a2:Qcy) (v3:List Qg) (v8:(List Qg) × Int) (v9:List Qg) (Qc1:Int):Option (Qc.S ⊕ Bool):=
 if Qc1 < (v9.length:Int) then
  if 0<=Qc1/\Qc1 < (v9.length:Int) then
   if 0<=Qc1/\Qc1 < (v8.1.length:Int) then
    (Qak (v9.getD Qc1.toNat Qg.z) (v8.1.getD Qc1.toNat Qg.z)).bind fun v16=>
    if v16=true then
     some (.inl (.l2 v8 v9 (IntKind.wrap .i64 (Qc1+1))))
    else
     some (.inr false)
   else none
  else none
 else
  (Ql).bind fun v12=>
  if v12=true then
   (Zg a0 a1 a2.i1).bind fun v13=>
   (Zq a1).bind fun v14=>
   (Qs v3 v14 a2.i1).bind fun v15=>
   Qc.j5 (v13 == v15)
  else
   Qc.j5 false
def Qc.step (a0:List Qe) (a1:List Qb) (a2:Qcy) (v3:List Qg) (v4:(List Xe) × Int) (v5:(List Xf) × Int):Qc.S->Option (Qc.S ⊕ Bool)
 | .l1 Qm=>Qc.l1 a0 a1 a2 v3 v4 v5 Qm
 | .l2 v8 v9 Qc1=>Qc.l2 a0 a1 a2 v3 v8 v9 Qc1
def Qc.j2 (a0:List Qe) (a1:List Qb) (a2:Qcy) (v3:List Qg) (v4:(List Xe) × Int) (v5:(List Xf) × Int) (Qqv:Bool):Option Bool:=
 if Qqv=true then
  some false
 else
  Xx (Qc.step a0 a1 a2 v3 v4 v5) (.l1 0)
def Qc.j1 (a0:List Qe) (a1:List Qb) (a2:Qcy) (Qia:Bool):Option Bool:=
 if Qia=true then
  (Ql).bind fun v2=>
  some v2
 else
  (Qan a0).bind fun v3=>
  (Ws a0 a2.i0).bind fun v4=>
  (Qk v3 a2.i0).bind fun v5=>
  if v4.2=v5.2 then
   Qc.j2 a0 a1 a2 v3 v4 v5 ((v4.1.length:Int) != (v5.1.length:Int))
  else
   Qc.j2 a0 a1 a2 v3 v4 v5 true
def Qc (a0:List Qe) (a1:List Qb) (a2:Qcy):Option Bool:=
 (Xp a0 ([]:List Wn)).bind fun v1=>
 if v1=true then
  Qc.j1 a0 a1 a2 (decide ((a1.length:Int) > 60))
 else
  Qc.j1 a0 a1 a2 true
end
end Go.SyP
