/- Plain functions, printed by blame.py. -/
import Derived.Test.YtdndobkfnmommaaGreatG24zP
set_option linter.unusedVariables false
namespace Go.SyP
open Go Go.Sy
noncomputable section
def Qag.j1 (a0:Qd) (a3:List Qd) (Qqw:Bool):Option (Bool × List Qd):=
 if Qqw=true then
  (Qde a0).bind fun v2=>
  if (a3.length+1) * 88<=140737488355328 then
   some (false,a3 ++ [v2])
  else none
 else
  some (true,a3)
def Qag (a0:Qd) (a1:List Qb) (a2:Int) (a3:List Qd):Option (Bool × List Qd):=
 if a0.Jt=true then
  if a0.Time<=a2 then
   (Qdy a0 a1).bind fun v1=>
   Qag.j1 a0 a3 v1
  else
   Qag.j1 a0 a3 false
 else
  Qag.j1 a0 a3 false
def Qdu (one:List Qb) (mark:Int) (out:List Qd):List Qd->Option (Bool × List Qd)
 | []=>some (true,out)
 | x :: xs=>(Qag x one mark out).bind fun r=>if r.1 then Qdu one mark r.2 xs else some r
inductive Zj.S where
 | l1 (Jl:Int) (Yl:List Qd)
def Zj.l1 (a0:List Qd) (a2:Int) (v3:List Qa) (Jl:Int) (Yl:List Qd):Option (Zj.S ⊕ ((List Qd) × Int)):=
 if Jl < (v3.length:Int) then
  if 0<=Jl/\Jl < (v3.length:Int) then
   if a0.length * 88<=140737488355328 then
    (Qdu ([(⟨(v3.getD Jl.toNat Qa.z).Key,IntKind.wrap .i64 (((v3.getD Jl.toNat Qa.z).Key)+1)⟩:Qb)]:List Qb) a2 Yl a0.reverse).bind fun v4=>
    some (.inl (.l1 (IntKind.wrap .i64 (Jl+1)) v4.2))
   else none
  else none
 else
  some (.inr (Yl,0))
def Zj.step (a0:List Qd) (a2:Int) (v3:List Qa):Zj.S->Option (Zj.S ⊕ ((List Qd) × Int))
 | .l1 Jl Yl=>Zj.l1 a0 a2 v3 Jl Yl
def Zj.j1 (a0:List Qd) (a1:List Qb) (a2:Int) (Qep:Bool):Option ((List Qd) × Int):=
 if Qep=true then
  some (([]:List Qd),1)
 else
  (Yp a0 a1 a2).bind fun v3=>
  Yb (Zj.step a0 a2 v3) (.l1 0 ([]:List Qd))
def Zj (a0:List Qd) (a1:List Qb) (a2:Int):Option ((List Qd) × Int):=
 (Zb a0).bind fun v1=>
 if v1=true then
  (Yw a1).bind fun v2=>
  Zj.j1 a0 a1 a2 (!v2)
 else
  Zj.j1 a0 a1 a2 true
end
end Go.SyP
namespace Go.SyP
open Go Go.Sy
noncomputable section
def Qm.j1 (Qtt:Bool):Option Bool:=
 some Qtt
def Qm:Option Bool:=
 (Jy ([(⟨(⟨1,1,1,([(⟨5,7⟩:Qa)]:List Qa),(⟨0,0⟩:Qb),0⟩:Ql),3,true⟩:Qd)]:List Qd) ([(⟨1,1,(⟨1,1,1,([(⟨5,7⟩:Qa)]:List Qa),(⟨0,0⟩:Qb),0⟩:Ql),0,(⟨0,false⟩:Yv),0⟩:Qy),(⟨2,1,(⟨0,0,0,([]:List Qa),(⟨0,0⟩:Qb),0⟩:Ql),5,(⟨7,true⟩:Yv),0⟩:Qy),(⟨2,1,(⟨0,0,0,([]:List Qa),(⟨0,0⟩:Qb),0⟩:Ql),5,(⟨7,true⟩:Yv),4⟩:Qy)]:List Qy)).bind fun v1=>
 if (0:Int)<=2/\2 < (([(⟨1,1,(⟨1,1,1,([(⟨5,7⟩:Qa)]:List Qa),(⟨0,0⟩:Qb),0⟩:Ql),0,(⟨0,false⟩:Yv),0⟩:Qy),(⟨2,1,(⟨0,0,0,([]:List Qa),(⟨0,0⟩:Qb),0⟩:Ql),5,(⟨7,true⟩:Yv),0⟩:Qy),(⟨2,1,(⟨0,0,0,([]:List Qa),(⟨0,0⟩:Qb),0⟩:Ql),5,(⟨7,true⟩:Yv),4⟩:Qy)]:List Qy).length:Int) then
  (Jy ([(⟨(⟨1,1,1,([(⟨5,7⟩:Qa)]:List Qa),(⟨0,0⟩:Qb),0⟩:Ql),3,true⟩:Qd)]:List Qd) (([(⟨1,1,(⟨1,1,1,([(⟨5,7⟩:Qa)]:List Qa),(⟨0,0⟩:Qb),0⟩:Ql),0,(⟨0,false⟩:Yv),0⟩:Qy),(⟨2,1,(⟨0,0,0,([]:List Qa),(⟨0,0⟩:Qb),0⟩:Ql),5,(⟨7,true⟩:Yv),0⟩:Qy),(⟨2,1,(⟨0,0,0,([]:List Qa),(⟨0,0⟩:Qb),0⟩:Ql),5,(⟨7,true⟩:Yv),4⟩:Qy)]:List Qy).set 2 (⟨(([(⟨1,1,(⟨1,1,1,([(⟨5,7⟩:Qa)]:List Qa),(⟨0,0⟩:Qb),0⟩:Ql),0,(⟨0,false⟩:Yv),0⟩:Qy),(⟨2,1,(⟨0,0,0,([]:List Qa),(⟨0,0⟩:Qb),0⟩:Ql),5,(⟨7,true⟩:Yv),0⟩:Qy),(⟨2,1,(⟨0,0,0,([]:List Qa),(⟨0,0⟩:Qb),0⟩:Ql),5,(⟨7,true⟩:Yv),4⟩:Qy)]:List Qy).getD 2 Qy.z).Kind,(([(⟨1,1,(⟨1,1,1,([(⟨5,7⟩:Qa)]:List Qa),(⟨0,0⟩:Qb),0⟩:Ql),0,(⟨0,false⟩:Yv),0⟩:Qy),(⟨2,1,(⟨0,0,0,([]:List Qa),(⟨0,0⟩:Qb),0⟩:Ql),5,(⟨7,true⟩:Yv),0⟩:Qy),(⟨2,1,(⟨0,0,0,([]:List Qa),(⟨0,0⟩:Qb),0⟩:Ql),5,(⟨7,true⟩:Yv),4⟩:Qy)]:List Qy).getD 2 Qy.z).Client,((([(⟨1,1,(⟨1,1,1,([(⟨5,7⟩:Qa)]:List Qa),(⟨0,0⟩:Qb),0⟩:Ql),0,(⟨0,false⟩:Yv),0⟩:Qy),(⟨2,1,(⟨0,0,0,([]:List Qa),(⟨0,0⟩:Qb),0⟩:Ql),5,(⟨7,true⟩:Yv),0⟩:Qy),(⟨2,1,(⟨0,0,0,([]:List Qa),(⟨0,0⟩:Qb),0⟩:Ql),5,(⟨7,true⟩:Yv),4⟩:Qy)]:List Qy).getD 2 Qy.z).M),(([(⟨1,1,(⟨1,1,1,([(⟨5,7⟩:Qa)]:List Qa),(⟨0,0⟩:Qb),0⟩:Ql),0,(⟨0,false⟩:Yv),0⟩:Qy),(⟨2,1,(⟨0,0,0,([]:List Qa),(⟨0,0⟩:Qb),0⟩:Ql),5,(⟨7,true⟩:Yv),0⟩:Qy),(⟨2,1,(⟨0,0,0,([]:List Qa),(⟨0,0⟩:Qb),0⟩:Ql),5,(⟨7,true⟩:Yv),4⟩:Qy)]:List Qy).getD 2 Qy.z).Key,(⟨8,((([(⟨1,1,(⟨1,1,1,([(⟨5,7⟩:Qa)]:List Qa),(⟨0,0⟩:Qb),0⟩:Ql),0,(⟨0,false⟩:Yv),0⟩:Qy),(⟨2,1,(⟨0,0,0,([]:List Qa),(⟨0,0⟩:Qb),0⟩:Ql),5,(⟨7,true⟩:Yv),0⟩:Qy),(⟨2,1,(⟨0,0,0,([]:List Qa),(⟨0,0⟩:Qb),0⟩:Ql),5,(⟨7,true⟩:Yv),4⟩:Qy)]:List Qy).getD 2 Qy.z).Cell).Some⟩:Yv),(([(⟨1,1,(⟨1,1,1,([(⟨5,7⟩:Qa)]:List Qa),(⟨0,0⟩:Qb),0⟩:Ql),0,(⟨0,false⟩:Yv),0⟩:Qy),(⟨2,1,(⟨0,0,0,([]:List Qa),(⟨0,0⟩:Qb),0⟩:Ql),5,(⟨7,true⟩:Yv),0⟩:Qy),(⟨2,1,(⟨0,0,0,([]:List Qa),(⟨0,0⟩:Qb),0⟩:Ql),5,(⟨7,true⟩:Yv),4⟩:Qy)]:List Qy).getD 2 Qy.z).Mark⟩:Qy))).bind fun v2=>
  if v1.2=0 then
   if (v1.1.length:Int)=0 then
    if v2.2=0 then
     if (v2.1.length:Int)=1 then
      if (0:Int)<=0/\0 < (v2.1.length:Int) then
       Qm.j1 ((((v2.1.getD 0 Ym.z).At) == 2) && (((v2.1.getD 0 Ym.z).Why) == 4))
      else none
     else
      Qm.j1 false
    else
     Qm.j1 false
   else
    Qm.j1 false
  else
   Qm.j1 false
 else none
inductive Wy.S where
 | l1 (We:Int)
def Wy.j2 (We:Int) (Qfp:Bool):Option (Wy.S ⊕ Bool):=
 if Qfp=true then
  some (.inr false)
 else
  some (.inl (.l1 (IntKind.wrap .i64 (We+1))))
def Wy.j1 (a0:List Qc) (We:Int) (Qqt:Bool):Option (Wy.S ⊕ Bool):=
 if Qqt=true then
  some (.inr false)
 else
  if We > 0 then
   if 0<=(IntKind.wrap .i64 (We - 1))/\(IntKind.wrap .i64 (We - 1)) < (a0.length:Int) then
    Wy.j2 We (decide (((a0.getD We.toNat Qc.z).Key)<=((a0.getD ((IntKind.wrap .i64 (We - 1)).toNat) Qc.z).Key)))
   else none
  else
   Wy.j2 We false
def Wy.l1 (a0:List Qc) (We:Int):Option (Wy.S ⊕ Bool):=
 if We < (a0.length:Int) then
  if 0<=We/\We < (a0.length:Int) then
   if ((a0.getD We.toNat Qc.z).Key) < 0 then
    Wy.j1 a0 We true
   else
    if ((a0.getD We.toNat Qc.z).Key) > 4095 then
     Wy.j1 a0 We true
    else
     if ((a0.getD We.toNat Qc.z).Val) < (-1099511627776) then
      Wy.j1 a0 We true
     else
      Wy.j1 a0 We (decide (((a0.getD We.toNat Qc.z).Val) > 1099511627776))
  else none
 else
  some (.inr true)
def Wy.step (a0:List Qc):Wy.S->Option (Wy.S ⊕ Bool)
 | .l1 We=>Wy.l1 a0 We
def Wy (a0:List Qc):Option Bool:=
 Yb (Wy.step a0) (.l1 0)
inductive Wn.S where
 | l1 (Zx:Bool) (Qq:Int) (Qj:List Int)
def Wn.j4 (a0:List Int) (Qq:Int) (Ql4:Bool) (Qfd:List Int):Option (Wn.S ⊕ (List Int)):=
 if (Qfd.length+1) * 8<=140737488355328 then
  some (.inl (.l1 Ql4 (IntKind.wrap .i64 (Qq+1)) (Qfd ++ [a0.getD Qq.toNat 0])))
 else none
def Wn.j3 (a0:List Int) (a1:Int) (Qq:Int) (Qj:List Int) (Qr5:Bool) (Qq3:Bool):Option (Wn.S ⊕ (List Int)):=
 if Qq3=true then
  if (Qj.length+1) * 8<=140737488355328 then
   Wn.j4 a0 Qq true (Qj ++ [a1])
  else none
 else
  Wn.j4 a0 Qq Qr5 Qj
def Wn.j2 (a0:List Int) (a1:Int) (Qq:Int) (Qj:List Int) (Qpt:Bool):Option (Wn.S ⊕ (List Int)):=
 if Qpt=true then
  Wn.j3 a0 a1 Qq Qj true false
 else
  Wn.j3 a0 a1 Qq Qj false (decide ((a0.getD Qq.toNat 0) > a1))
def Wn.j1 (Qds:List Int):Option (Wn.S ⊕ (List Int)):=
 some (.inr Qds)
def Wn.l1 (a0:List Int) (a1:Int) (Zx:Bool) (Qq:Int) (Qj:List Int):Option (Wn.S ⊕ (List Int)):=
 if Qq < (a0.length:Int) then
  if 0<=Qq/\Qq < (a0.length:Int) then
   if (a0.getD Qq.toNat 0)=a1 then
    Wn.j2 a0 a1 Qq Qj true
   else
    Wn.j2 a0 a1 Qq Qj Zx
  else none
 else
  if Zx=true then
   Wn.j1 Qj
  else
   if (Qj.length+1) * 8<=140737488355328 then
    Wn.j1 (Qj ++ [a1])
   else none
def Wn.step (a0:List Int) (a1:Int):Wn.S->Option (Wn.S ⊕ (List Int))
 | .l1 Zx Qq Qj=>Wn.l1 a0 a1 Zx Qq Qj
def Wn (a0:List Int) (a1:Int):Option (List Int):=
 Yb (Wn.step a0 a1) (.l1 false 0 ([]:List Int))
inductive Yh.S where
 | l1 (Zx:Int) (Wl:List Int)
 | l2 (Yq:Int) (Jj:List Int)
def Yh.l1 (a0:List Qc) (Zx:Int) (Wl:List Int):Option (Yh.S ⊕ (List Int)):=
 if Zx < (a0.length:Int) then
  if 0<=Zx/\Zx < (a0.length:Int) then
   (Wn Wl ((a0.getD Zx.toNat Qc.z).Key)).bind fun v1=>
   some (.inl (.l1 (IntKind.wrap .i64 (Zx+1)) v1))
  else none
 else
  some (.inl (.l2 0 Wl))
def Yh.l2 (a1:Qk) (Yq:Int) (Jj:List Int):Option (Yh.S ⊕ (List Int)):=
 if Yq < (a1.Pairs.length:Int) then
  if 0<=Yq/\Yq < (a1.Pairs.length:Int) then
   (Wn Jj ((a1.Pairs.getD Yq.toNat Qc.z).Key)).bind fun v2=>
   some (.inl (.l2 (IntKind.wrap .i64 (Yq+1)) v2))
  else none
 else
  some (.inr Jj)
def Yh.step (a0:List Qc) (a1:Qk):Yh.S->Option (Yh.S ⊕ (List Int))
 | .l1 Zx Wl=>Yh.l1 a0 Zx Wl
 | .l2 Yq Jj=>Yh.l2 a1 Yq Jj
def Yh (a0:List Qc) (a1:Qk):Option (List Int):=
 Yb (Yh.step a0 a1) (.l1 0 ([]:List Int))
inductive Zi.S where
 | l1 (Xb:Int)
def Zi.l1 (a0:List Qc) (a1:Int) (Xb:Int):Option (Zi.S ⊕ Xf):=
 if Xb < (a0.length:Int) then
  if 0<=Xb/\Xb < (a0.length:Int) then
   if ((a0.getD Xb.toNat Qc.z).Key)=a1 then
    some (.inr (⟨(a0.getD Xb.toNat Qc.z).Val,true⟩:Xf))
   else
    some (.inl (.l1 (IntKind.wrap .i64 (Xb+1))))
  else none
 else
  some (.inr (⟨0,false⟩:Xf))
def Zi.step (a0:List Qc) (a1:Int):Zi.S->Option (Zi.S ⊕ Xf)
 | .l1 Xb=>Zi.l1 a0 a1 Xb
def Zi (a0:List Qc) (a1:Int):Option Xf:=
 Yb (Zi.step a0 a1) (.l1 0)
inductive Xv.S where
 | l1 (Xb:Int)
def Xv.j1 (Xb:Int) (Qfo:Bool):Option (Xv.S ⊕ Bool):=
 if Qfo=true then
  some (.inr true)
 else
  some (.inl (.l1 (IntKind.wrap .i64 (Xb+1))))
def Xv.l1 (a0:List Qi) (a1:Int) (Xb:Int):Option (Xv.S ⊕ Bool):=
 if Xb < (a0.length:Int) then
  if 0<=Xb/\Xb < (a0.length:Int) then
   if (Ja (a0.getD Xb.toNat Qi.z))=true then
    if a1>=((a0.getD Xb.toNat Qi.z).Lo) then
     Xv.j1 Xb (decide (a1 < ((a0.getD Xb.toNat Qi.z).Hi)))
    else
     Xv.j1 Xb false
   else
    Xv.j1 Xb false
  else none
 else
  some (.inr false)
def Xv.step (a0:List Qi) (a1:Int):Xv.S->Option (Xv.S ⊕ Bool)
 | .l1 Xb=>Xv.l1 a0 a1 Xb
def Xv (a0:List Qi) (a1:Int):Option Bool:=
 Yb (Xv.step a0 a1) (.l1 0)
inductive Qt.S where
 | l1 (Qs:Int) (Xz:List Qc)
def Qt.j4 (Qs:Int) (Qlc:List Qc):Option (Qt.S ⊕ ((List Qc) × Bool)):=
 some (.inl (.l1 (IntKind.wrap .i64 (Qs+1)) Qlc))
def Qt.j3 (v4:List Int) (Qs:Int) (Xz:List Qc) (Qdf:Int) (Qi7:Bool):Option (Qt.S ⊕ ((List Qc) × Bool)):=
 if Qi7=true then
  if (Xz.length+1) * 16<=140737488355328 then
   Qt.j4 Qs (Xz ++ [(⟨v4.getD Qs.toNat 0,Qdf⟩:Qc)])
  else none
 else
  Qt.j4 Qs Xz
def Qt.j2 (a0:List Qc) (a1:Qk) (v4:List Int) (Qs:Int) (Xz:List Qc) (v5:Xf) (Qfp:Bool):Option (Qt.S ⊕ ((List Qc) × Bool)):=
 if Qfp=true then
  (Qv v5 a1 (v4.getD Qs.toNat 0)).bind fun v8=>
  if v8.2=true then
   Qt.j3 v4 Qs Xz v8.1.Val v8.1.Some
  else
   some (.inr (a0,false))
 else
  Qt.j3 v4 Qs Xz v5.Val v5.Some
def Qt.l1 (a0:List Qc) (a1:Qk) (a2:List Qi) (v4:List Int) (Qs:Int) (Xz:List Qc):Option (Qt.S ⊕ ((List Qc) × Bool)):=
 if Qs < (v4.length:Int) then
  if 0<=Qs/\Qs < (v4.length:Int) then
   (Zi a0 (v4.getD Qs.toNat 0)).bind fun v5=>
   (Xl a1 (v4.getD Qs.toNat 0)).bind fun v6=>
   if v6=true then
    (Xv a2 (v4.getD Qs.toNat 0)).bind fun v7=>
    Qt.j2 a0 a1 v4 Qs Xz v5 v7
   else
    Qt.j2 a0 a1 v4 Qs Xz v5 false
  else none
 else
  some (.inr (Xz,true))
def Qt.step (a0:List Qc) (a1:Qk) (a2:List Qi) (v4:List Int):Qt.S->Option (Qt.S ⊕ ((List Qc) × Bool))
 | .l1 Qs Xz=>Qt.l1 a0 a1 a2 v4 Qs Xz
def Qt.j1 (a0:List Qc) (a1:Qk) (a2:List Qi) (Qmp:Bool):Option ((List Qc) × Bool):=
 if Qmp=true then
  some (([]:List Qc),false)
 else
  (Yh a0 a1).bind fun v4=>
  Yb (Qt.step a0 a1 a2 v4) (.l1 0 ([]:List Qc))
def Qt (a0:List Qc) (a1:Qk) (a2:List Qi):Option ((List Qc) × Bool):=
 (Wy a0).bind fun v1=>
 if v1=true then
  (Qo a1).bind fun v2=>
  if v2=true then
   (Yd a2).bind fun v3=>
   Qt.j1 a0 a1 a2 (!v3)
  else
   Qt.j1 a0 a1 a2 true
 else
  Qt.j1 a0 a1 a2 true
inductive Qu.S where
 | l1 (Wi:Int)
 | l2 (Yq:List Qc) (Jv:Int)
def Qu.j3 (Jv:Int) (Ql3:List Qc):Option (Qu.S ⊕ (List Qc)):=
 some (.inl (.l2 Ql3 (IntKind.wrap .i64 (Jv+1))))
def Qu.j2 (a0:List Qe) (a1:List Qi) (Yq:List Qc) (Jv:Int) (Qq1:Bool):Option (Qu.S ⊕ (List Qc)):=
 if Qq1=true then
  (Qt Yq ((a0.getD Jv.toNat Qe.z).M) a1).bind fun v3=>
  Qu.j3 Jv v3.1
 else
  Qu.j3 Jv Yq
def Qu.j1 (a0:List Qe) (a1:List Qi) (a2:Int) (Yq:List Qc) (Jv:Int) (Qqq:Bool):Option (Qu.S ⊕ (List Qc)):=
 if Qqq=true then
  if 0<=Jv/\Jv < (a0.length:Int) then
   if ((a0.getD Jv.toNat Qe.z).Jt)=true then
    Qu.j2 a0 a1 Yq Jv (decide (((a0.getD Jv.toNat Qe.z).Time)<=a2))
   else
    Qu.j2 a0 a1 Yq Jv false
  else none
 else
  some (.inr Yq)
def Qu.l1 (a0:List Qe) (Wi:Int):Option (Qu.S ⊕ (List Qc)):=
 if Wi < (a0.length:Int) then
  if 0<=Wi/\Wi < (a0.length:Int) then
   (Qo ((a0.getD Wi.toNat Qe.z).M)).bind fun v1=>
   if v1=true then
    some (.inl (.l1 (IntKind.wrap .i64 (Wi+1))))
   else
    some (.inr ([]:List Qc))
  else none
 else
  some (.inl (.l2 ([]:List Qc) 0))
def Qu.l2 (a0:List Qe) (a1:List Qi) (a2:Int) (Yq:List Qc) (Jv:Int):Option (Qu.S ⊕ (List Qc)):=
 if Jv < (a0.length:Int) then
  (Yd a1).bind fun v2=>
  Qu.j1 a0 a1 a2 Yq Jv v2
 else
  Qu.j1 a0 a1 a2 Yq Jv false
def Qu.step (a0:List Qe) (a1:List Qi) (a2:Int):Qu.S->Option (Qu.S ⊕ (List Qc))
 | .l1 Wi=>Qu.l1 a0 Wi
 | .l2 Yq Jv=>Qu.l2 a0 a1 a2 Yq Jv
def Qu (a0:List Qe) (a1:List Qi) (a2:Int):Option (List Qc):=
 Yb (Qu.step a0 a1 a2) (.l1 0)
inductive Zp.S where
 | l1 (Qs:Int) (Qj:List Qe)
 | l2 (Qeo:Int) (Qbw:Int) (Qgi:Int) (Qam:List Qe)
def Zp.j4 (Qeo:Int) (Qgi:Int) (Qam:List Qe) (Wjn:Int):Option (Zp.S ⊕ ((List Qe) × Int)):=
 some (.inl (.l2 Qeo Wjn (IntKind.wrap .i64 (Qgi+1)) Qam))
def Zp.j3 (Qeo:Int) (Qbw:Int) (Qgi:Int) (Qam:List Qe) (Wjl:Bool):Option (Zp.S ⊕ ((List Qe) × Int)):=
 if Wjl=true then
  Zp.j4 Qeo Qgi Qam Qgi
 else
  Zp.j4 Qeo Qgi Qam Qbw
def Zp.j2 (Qeo:Int) (Wjk:List Qe):Option (Zp.S ⊕ ((List Qe) × Int)):=
 some (.inl (.l1 (IntKind.wrap .i64 (Qeo+1)) Wjk))
def Zp.l1 (v3:List Qc) (Qs:Int) (Qj:List Qe):Option (Zp.S ⊕ ((List Qe) × Int)):=
 if Qs < (v3.length:Int) then
  some (.inl (.l2 Qs (-1) 0 Qj))
 else
  some (.inr (Qj,0))
def Zp.l2 (a0:List Qe) (a2:Int) (v3:List Qc) (Qeo:Int) (Qbw:Int) (Qgi:Int) (Qam:List Qe):Option (Zp.S ⊕ ((List Qe) × Int)):=
 if Qgi < (a0.length:Int) then
  if 0<=Qgi/\Qgi < (a0.length:Int) then
   if ((a0.getD Qgi.toNat Qe.z).Jt)=true then
    if ((a0.getD Qgi.toNat Qe.z).Time)<=a2 then
     if 0<=Qeo/\Qeo < (v3.length:Int) then
      (Xl ((a0.getD Qgi.toNat Qe.z).M) ((v3.getD Qeo.toNat Qc.z).Key)).bind fun v4=>
      Zp.j3 Qeo Qbw Qgi Qam v4
     else none
    else
     Zp.j3 Qeo Qbw Qgi Qam false
   else
    Zp.j3 Qeo Qbw Qgi Qam false
  else none
 else
  if Qbw>=0 then
   if 0<=Qbw/\Qbw < (a0.length:Int) then
    if (Qam.length+1) * 88<=140737488355328 then
     Zp.j2 Qeo (Qam ++ [a0.getD Qbw.toNat Qe.z])
    else none
   else none
  else
   Zp.j2 Qeo Qam
def Zp.step (a0:List Qe) (a2:Int) (v3:List Qc):Zp.S->Option (Zp.S ⊕ ((List Qe) × Int))
 | .l1 Qs Qj=>Zp.l1 v3 Qs Qj
 | .l2 Qeo Qbw Qgi Qam=>Zp.l2 a0 a2 v3 Qeo Qbw Qgi Qam
def Zp.j1 (a0:List Qe) (a1:List Qi) (a2:Int) (Wje:Bool):Option ((List Qe) × Int):=
 if Wje=true then
  some (([]:List Qe),1)
 else
  (Qu a0 a1 a2).bind fun v3=>
  Yb (Zp.step a0 a2 v3) (.l1 0 ([]:List Qe))
def Zp (a0:List Qe) (a1:List Qi) (a2:Int):Option ((List Qe) × Int):=
 (Yj a0).bind fun v1=>
 if v1=true then
  (Yd a1).bind fun v2=>
  Zp.j1 a0 a1 a2 (!v2)
 else
  Zp.j1 a0 a1 a2 true
inductive Xt.S where
 | l1 (Qcr:Int)
 | l2 (v8:(List Qe) × Int) (v9:List Qe) (Qjk:Int)
def Xt.j4 (Qcr:Int) (Wi2:Bool):Option (Xt.S ⊕ Bool):=
 if Wi2=true then
  some (.inr false)
 else
  some (.inl (.l1 (IntKind.wrap .i64 (Qcr+1))))
def Xt.j3 (v6:(List Qd) × Int) (v8:(List Qe) × Int) (Wi1:Bool):Option (Xt.S ⊕ Bool):=
 if Wi1=true then
  some (.inr false)
 else
  (Qa2 v6.1).bind fun v9=>
  some (.inl (.l2 v8 v9 0))
def Xt.j5 (Wj1:Bool):Option (Xt.S ⊕ Bool):=
 some (.inr Wj1)
def Xt.l1 (a0:List Qd) (a1:List Qb) (a2:Qjq) (v3:List Qe) (v4:(List Wq) × Int) (v5:(List Zo) × Int) (Qcr:Int):Option (Xt.S ⊕ Bool):=
 if Qcr < (v4.1.length:Int) then
  if 0<=Qcr/\Qcr < (v4.1.length:Int) then
   (Qa2 ([(v4.1.getD Qcr.toNat Wq.z).E]:List Qd)).bind fun v10=>
   if (0:Int)<=0/\0 < (v10.length:Int) then
    if 0<=Qcr/\Qcr < (v5.1.length:Int) then
     (Qbr (v10.getD 0 Qe.z) ((v5.1.getD Qcr.toNat Zo.z).E)).bind fun v11=>
     if v11=true then
      if (((v4.1.getD Qcr.toNat Wq.z).Was).Val)=(((v5.1.getD Qcr.toNat Zo.z).Was).Val) then
       if (((v4.1.getD Qcr.toNat Wq.z).Was).Some)=true then
        if (((v5.1.getD Qcr.toNat Zo.z).Was).Some)=true then
         Xt.j4 Qcr (!(((((v4.1.getD Qcr.toNat Wq.z).Is).Val) == (((v5.1.getD Qcr.toNat Zo.z).Is).Val)) && ((((v4.1.getD Qcr.toNat Wq.z).Is).Some) == (((v5.1.getD Qcr.toNat Zo.z).Is).Some))))
        else
         Xt.j4 Qcr true
       else
        if (((v5.1.getD Qcr.toNat Zo.z).Was).Some)=true then
         Xt.j4 Qcr true
        else
         Xt.j4 Qcr (!(((((v4.1.getD Qcr.toNat Wq.z).Is).Val) == (((v5.1.getD Qcr.toNat Zo.z).Is).Val)) && ((((v4.1.getD Qcr.toNat Wq.z).Is).Some) == (((v5.1.getD Qcr.toNat Zo.z).Is).Some))))
      else
       if (((v4.1.getD Qcr.toNat Wq.z).Was).Some)=true then
        if (((v5.1.getD Qcr.toNat Zo.z).Was).Some)=true then
         Xt.j4 Qcr true
        else
         Xt.j4 Qcr true
       else
        if (((v5.1.getD Qcr.toNat Zo.z).Was).Some)=true then
         Xt.j4 Qcr true
        else
         Xt.j4 Qcr true
     else
      Xt.j4 Qcr true
    else none
   else none
  else none
 else
  (Zj a0 a1 a2.i1).bind fun v6=>
  (Qc0 a1).bind fun v7=>
  (Zp v3 v7 a2.i1).bind fun v8=>
  if v6.2=v8.2 then
   Xt.j3 v6 v8 ((v6.1.length:Int) != (v8.1.length:Int))
  else
   Xt.j3 v6 v8 true
def Xt.l2 (a0:List Qd) (a1:List Qb) (a2:Qjq) (v3:List Qe) (v8:(List Qe) × Int) (v9:List Qe) (Qjk:Int):Option (Xt.S ⊕ Bool):=
 if Qjk < (v9.length:Int) then
  if 0<=Qjk/\Qjk < (v9.length:Int) then
   if 0<=Qjk/\Qjk < (v8.1.length:Int) then
    (Qbr (v9.getD Qjk.toNat Qe.z) (v8.1.getD Qjk.toNat Qe.z)).bind fun v16=>
    if v16=true then
     some (.inl (.l2 v8 v9 (IntKind.wrap .i64 (Qjk+1))))
    else
     some (.inr false)
   else none
  else none
 else
  (Qm).bind fun v12=>
  if v12=true then
   (Qcs a0 a1 a2.i1).bind fun v13=>
   (Qc0 a1).bind fun v14=>
   (Zl v3 v14 a2.i1).bind fun v15=>
   Xt.j5 (v13 == v15)
  else
   Xt.j5 false
def Xt.step (a0:List Qd) (a1:List Qb) (a2:Qjq) (v3:List Qe) (v4:(List Wq) × Int) (v5:(List Zo) × Int):Xt.S->Option (Xt.S ⊕ Bool)
 | .l1 Qcr=>Xt.l1 a0 a1 a2 v3 v4 v5 Qcr
 | .l2 v8 v9 Qjk=>Xt.l2 a0 a1 a2 v3 v8 v9 Qjk
def Xt.j2 (a0:List Qd) (a1:List Qb) (a2:Qjq) (v3:List Qe) (v4:(List Wq) × Int) (v5:(List Zo) × Int) (Wji:Bool):Option Bool:=
 if Wji=true then
  some false
 else
  Yb (Xt.step a0 a1 a2 v3 v4 v5) (.l1 0)
def Xt.j1 (a0:List Qd) (a1:List Qb) (a2:Qjq) (Qmp:Bool):Option Bool:=
 if Qmp=true then
  (Qm).bind fun v2=>
  some v2
 else
  (Qa2 a0).bind fun v3=>
  (Wt a0 a2.i0).bind fun v4=>
  (Zy v3 a2.i0).bind fun v5=>
  if v4.2=v5.2 then
   Xt.j2 a0 a1 a2 v3 v4 v5 ((v4.1.length:Int) != (v5.1.length:Int))
  else
   Xt.j2 a0 a1 a2 v3 v4 v5 true
def Xt (a0:List Qd) (a1:List Qb) (a2:Qjq):Option Bool:=
 (Xm a0 ([]:List Qy)).bind fun v1=>
 if v1=true then
  Xt.j1 a0 a1 a2 (decide ((a1.length:Int) > 60))
 else
  Xt.j1 a0 a1 a2 true
def Qb9:List Qi:=
 ([(⟨0,4096⟩:Qi)]:List Qi)
def Wx.j1 (Qa8:Bool):Option Bool:=
 some Qa8
def Wx.j3 (Qj6:Bool):Option Bool:=
 some Qj6
def Wx.j2 (a0:Xc) (Qq2:Bool):Option Bool:=
 if Qq2=true then
  some false
 else
  if a0.Cell.Some=true then
   if a0.Cell.Val>=(-1099511627776) then
    Wx.j3 (decide (a0.Cell.Val<=1099511627776))
   else
    Wx.j3 false
  else
   if a0.Cell.Val=0 then
    Wx.j3 true
   else
    Wx.j3 false
def Wx (a0:Xc):Option Bool:=
 if a0.Kind=1 then
  (Qo a0.M).bind fun v1=>
  if v1=true then
   if a0.M.Client=a0.Client then
    if a0.Key=0 then
     if a0.Cell.Some=true then
      Wx.j1 false
     else
      if a0.Cell.Val=0 then
       Wx.j1 (a0.Mark == 0)
      else
       Wx.j1 false
    else
     Wx.j1 false
   else
    Wx.j1 false
  else
   Wx.j1 false
 else
  if a0.Kind=2 then
   (Xh a0.M (⟨0,0,0,[],(⟨0,0⟩:Qi),0⟩:Qk)).bind fun v2=>
   if v2=true then
    if a0.Client < 1 then
     Wx.j2 a0 true
    else
     if a0.Client > 1048576 then
      Wx.j2 a0 true
     else
      if a0.Key < 0 then
       Wx.j2 a0 true
      else
       if a0.Key>=4096 then
        Wx.j2 a0 true
       else
        Wx.j2 a0 (decide (a0.Mark < 0))
   else
    Wx.j2 a0 true
  else
   Wx.j2 a0 true
inductive Wh.S where
 | l1 (Wi:Int) (Qj:List Qk)
def Wh.j3 (Wi:Int) (Qf0:List Qk):Option (Wh.S ⊕ (List Qk)):=
 some (.inl (.l1 (IntKind.wrap .i64 (Wi+1)) Qf0))
def Wh.j2 (a0:List Xc) (Wi:Int) (Qj:List Qk) (Qic:Bool):Option (Wh.S ⊕ (List Qk)):=
 if Qic=true then
  if (Qj.length+1) * 72<=140737488355328 then
   Wh.j3 Wi (Qj ++ [((a0.getD Wi.toNat Xc.z).M)])
  else none
 else
  Wh.j3 Wi Qj
def Wh.j1 (a0:List Xc) (a2:Int) (Wi:Int) (Qj:List Qk) (Qqi:Bool):Option (Wh.S ⊕ (List Qk)):=
 if Qqi=true then
  if 0<=Wi/\Wi < (a0.length:Int) then
   if ((a0.getD Wi.toNat Xc.z).Kind)=1 then
    if ((a0.getD Wi.toNat Xc.z).Client)=a2 then
     (Wx (a0.getD Wi.toNat Xc.z)).bind fun v1=>
     if v1=true then
      Wh.j2 a0 Wi Qj ((((a0.getD Wi.toNat Xc.z).M).Seq) == (IntKind.wrap .i64 ((Qj.length:Int)+1)))
     else
      Wh.j2 a0 Wi Qj false
    else
     Wh.j2 a0 Wi Qj false
   else
    Wh.j2 a0 Wi Qj false
  else none
 else
  some (.inr Qj)
def Wh.l1 (a0:List Xc) (a1:Int) (a2:Int) (Wi:Int) (Qj:List Qk):Option (Wh.S ⊕ (List Qk)):=
 if Wi < a1 then
  Wh.j1 a0 a2 Wi Qj (decide (Wi < (a0.length:Int)))
 else
  Wh.j1 a0 a2 Wi Qj false
def Wh.step (a0:List Xc) (a1:Int) (a2:Int):Wh.S->Option (Wh.S ⊕ (List Qk))
 | .l1 Wi Qj=>Wh.l1 a0 a1 a2 Wi Qj
def Wh (a0:List Xc) (a1:Int) (a2:Int):Option (List Qk):=
 Yb (Wh.step a0 a1 a2) (.l1 0 ([]:List Qk))
inductive Qw.S where
 | l1 (Zt:Int) (Wl:List Qk)
 | l2 (Zk:Int) (Qfx:Bool) (Qad:Int) (Jj:List Qk)
def Qw.j2 (Zk:Int) (Qad:Int) (Jj:List Qk) (Qof:Bool):Option (Qw.S ⊕ (List Qk)):=
 some (.inl (.l2 Zk Qof (IntKind.wrap .i64 (Qad+1)) Jj))
def Qw.j1 (Zk:Int) (Qfz:List Qk):Option (Qw.S ⊕ (List Qk)):=
 some (.inl (.l1 (IntKind.wrap .i64 (Zk+1)) Qfz))
def Qw.l1 (v2:List Qk) (Zt:Int) (Wl:List Qk):Option (Qw.S ⊕ (List Qk)):=
 if Zt < (v2.length:Int) then
  some (.inl (.l2 Zt false 0 Wl))
 else
  some (.inr Wl)
def Qw.l2 (a0:List Qe) (a3:Int) (a4:Int) (v2:List Qk) (Zk:Int) (Qfx:Bool) (Qad:Int) (Jj:List Qk):Option (Qw.S ⊕ (List Qk)):=
 if Qad < (a0.length:Int) then
  if Qfx=true then
   Qw.j2 Zk Qad Jj true
  else
   if 0<=Qad/\Qad < (a0.length:Int) then
    if (((a0.getD Qad.toNat Qe.z).M).Client)=a3 then
     if 0<=Zk/\Zk < (v2.length:Int) then
      if (((a0.getD Qad.toNat Qe.z).M).Seq)=((v2.getD Zk.toNat Qk.z).Seq) then
       Qw.j2 Zk Qad Jj (decide (((a0.getD Qad.toNat Qe.z).Time)<=a4))
      else
       Qw.j2 Zk Qad Jj false
     else none
    else
     Qw.j2 Zk Qad Jj false
   else none
 else
  if Qfx=true then
   Qw.j1 Zk Jj
  else
   if 0<=Zk/\Zk < (v2.length:Int) then
    if (Jj.length+1) * 72<=140737488355328 then
     Qw.j1 Zk (Jj ++ [v2.getD Zk.toNat Qk.z])
    else none
   else none
def Qw.step (a0:List Qe) (a3:Int) (a4:Int) (v2:List Qk):Qw.S->Option (Qw.S ⊕ (List Qk))
 | .l1 Zt Wl=>Qw.l1 v2 Zt Wl
 | .l2 Zk Qfx Qad Jj=>Qw.l2 a0 a3 a4 v2 Zk Qfx Qad Jj
def Qw (a0:List Qe) (a1:List Xc) (a2:Int) (a3:Int) (a4:Int):Option (List Qk):=
 (Yj a0).bind fun v1=>
 if v1=true then
  (Wh a1 a2 a3).bind fun v2=>
  Yb (Qw.step a0 a3 a4 v2) (.l1 0 ([]:List Qk))
 else
  some ([]:List Qk)
inductive Xi.S where
 | l1 (Qq:Int)
 | l2 (Qea:List Qc) (Jv:Int)
def Xi.l1 (a0:List Qc) (a1:List Qk) (Qq:Int):Option (Xi.S ⊕ (List Qc)):=
 if Qq < (a1.length:Int) then
  if 0<=Qq/\Qq < (a1.length:Int) then
   (Qo (a1.getD Qq.toNat Qk.z)).bind fun v3=>
   if v3=true then
    some (.inl (.l1 (IntKind.wrap .i64 (Qq+1))))
   else
    some (.inr ([]:List Qc))
  else none
 else
  some (.inl (.l2 a0 0))
def Xi.l2 (a1:List Qk) (a2:List Qi) (Qea:List Qc) (Jv:Int):Option (Xi.S ⊕ (List Qc)):=
 if Jv < (a1.length:Int) then
  if 0<=Jv/\Jv < (a1.length:Int) then
   (Qt Qea (a1.getD Jv.toNat Qk.z) a2).bind fun v4=>
   some (.inl (.l2 v4.1 (IntKind.wrap .i64 (Jv+1))))
  else none
 else
  some (.inr Qea)
def Xi.step (a0:List Qc) (a1:List Qk) (a2:List Qi):Xi.S->Option (Xi.S ⊕ (List Qc))
 | .l1 Qq=>Xi.l1 a0 a1 Qq
 | .l2 Qea Jv=>Xi.l2 a1 a2 Qea Jv
def Xi.j1 (a0:List Qc) (a1:List Qk) (a2:List Qi) (Qqj:Bool):Option (List Qc):=
 if Qqj=true then
  some ([]:List Qc)
 else
  Yb (Xi.step a0 a1 a2) (.l1 0)
def Xi (a0:List Qc) (a1:List Qk) (a2:List Qi):Option (List Qc):=
 (Wy a0).bind fun v1=>
 if v1=true then
  (Yd a2).bind fun v2=>
  Xi.j1 a0 a1 a2 (!v2)
 else
  Xi.j1 a0 a1 a2 true
def Qe9 (a0:List Qe) (a1:List Xc) (a2:Int) (a3:Int) (a4:Int) (a5:Int):Option Xf:=
 bnd (Qb9) fun (v1:List Qi)=>
 (Qu a0 v1 a5).bind fun v2=>
 (Qw a0 a1 a2 a3 a5).bind fun v3=>
 bnd (Qb9) fun (v4:List Qi)=>
 (Xi v2 v3 v4).bind fun v5=>
 (Zi v5 a4).bind fun v6=>
 some v6
inductive Qf.S where
 | l1 (Qs:Int) (Qaa:Int) (Je:Bool)
 | l2 (Qbw:Int) (Qal:Int) (Qca:Bool)
def Qf.j3 (v5:(List Wq) × Int) (Qs:Int) (Qq5:Bool):Option (Qf.S ⊕ Bool):=
 if Qq5=true then
  some (.inr false)
 else
  some (.inl (.l1 (IntKind.wrap .i64 (Qs+1)) (((v5.1.getD Qs.toNat Wq.z).Is).Val) (((v5.1.getD Qs.toNat Wq.z).Is).Some)))
def Qf.j5 (Qtx:Bool):Option (Qf.S ⊕ Bool):=
 some (.inr Qtx)
def Qf.j4 (v5:(List Wq) × Int) (v6:(List Qd) × Int) (Qnc:Bool) (Qdo:Bool):Option (Qf.S ⊕ Bool):=
 if Qnc=true then
  some (.inr false)
 else
  (Qm).bind fun v13=>
  if v13=true then
   if Qdo=true then
    (Qa2 v6.1).bind fun v14=>
    if (0:Int)<=0/\0 < (v14.length:Int) then
     if 0<=(IntKind.wrap .i64 ((v5.1.length:Int) - 1))/\(IntKind.wrap .i64 ((v5.1.length:Int) - 1)) < (v5.1.length:Int) then
      (Qa2 ([(v5.1.getD ((IntKind.wrap .i64 ((v5.1.length:Int) - 1)).toNat) Wq.z).E]:List Qd)).bind fun v15=>
      if (0:Int)<=0/\0 < (v15.length:Int) then
       (Qbr (v14.getD 0 Qe.z) (v15.getD 0 Qe.z)).bind fun v16=>
       if v16=true then
        (Yd ([]:List Qi)).bind fun v17=>
        Qf.j5 v17
       else
        Qf.j5 false
      else none
     else none
    else none
   else
    (Yd ([]:List Qi)).bind fun v18=>
    Qf.j5 v18
  else
   Qf.j5 false
def Qf.l1 (v1:Int) (v5:(List Wq) × Int) (Qs:Int) (Qaa:Int) (Je:Bool):Option (Qf.S ⊕ Bool):=
 if Qs < (v5.1.length:Int) then
  if 0<=Qs/\Qs < (v5.1.length:Int) then
   if (((v5.1.getD Qs.toNat Wq.z).Was).Val)=Qaa then
    if (((v5.1.getD Qs.toNat Wq.z).Was).Some)=true then
     if Je=true then
      (Xa (((v5.1.getD Qs.toNat Wq.z).E).M)).bind fun v7=>
      (Xl v7 v1).bind fun v8=>
      if v8=true then
       Qf.j3 v5 Qs (!(((v5.1.getD Qs.toNat Wq.z).E).Jt))
      else
       Qf.j3 v5 Qs true
     else
      Qf.j3 v5 Qs true
    else
     if Je=true then
      Qf.j3 v5 Qs true
     else
      (Xa (((v5.1.getD Qs.toNat Wq.z).E).M)).bind fun v9=>
      (Xl v9 v1).bind fun v10=>
      if v10=true then
       Qf.j3 v5 Qs (!(((v5.1.getD Qs.toNat Wq.z).E).Jt))
      else
       Qf.j3 v5 Qs true
   else
    if (((v5.1.getD Qs.toNat Wq.z).Was).Some)=true then
     if Je=true then
      Qf.j3 v5 Qs true
     else
      Qf.j3 v5 Qs true
    else
     if Je=true then
      Qf.j3 v5 Qs true
     else
      Qf.j3 v5 Qs true
  else none
 else
  some (.inl (.l2 0 Qaa Je))
def Qf.l2 (a0:List Qd) (v1:Int) (v5:(List Wq) × Int) (v6:(List Qd) × Int) (Qbw:Int) (Qal:Int) (Qca:Bool):Option (Qf.S ⊕ Bool):=
 if Qbw < (a0.length:Int) then
  if 0<=Qbw/\Qbw < (a0.length:Int) then
   if ((a0.getD Qbw.toNat Qd.z).Time) > 1099511627775 then
    (Qm).bind fun v19=>
    some (.inr v19)
   else
    some (.inl (.l2 (IntKind.wrap .i64 (Qbw+1)) Qal Qca))
  else none
 else
  (Qa2 a0).bind fun v11=>
  (Qe9 v11 ([]:List Xc) 0 1 v1 1099511627775).bind fun v12=>
  if Qal=v12.Val then
   if Qca=true then
    if v12.Some=true then
     Qf.j4 v5 v6 (!(true == ((v6.1.length:Int) == 1))) true
    else
     Qf.j4 v5 v6 true true
   else
    if v12.Some=true then
     Qf.j4 v5 v6 true false
    else
     Qf.j4 v5 v6 (!(false == ((v6.1.length:Int) == 1))) false
  else
   if Qca=true then
    if v12.Some=true then
     Qf.j4 v5 v6 true true
    else
     Qf.j4 v5 v6 true true
   else
    if v12.Some=true then
     Qf.j4 v5 v6 true false
    else
     Qf.j4 v5 v6 true false
def Qf.step (a0:List Qd) (v1:Int) (v5:(List Wq) × Int) (v6:(List Qd) × Int):Qf.S->Option (Qf.S ⊕ Bool)
 | .l1 Qs Qaa Je=>Qf.l1 v1 v5 Qs Qaa Je
 | .l2 Qbw Qal Qca=>Qf.l2 a0 v1 v5 v6 Qbw Qal Qca
def Qf.j2 (a0:List Qd) (v1:Int) (v5:(List Wq) × Int) (v6:(List Qd) × Int) (Qq0:Bool):Option Bool:=
 if Qq0=true then
  some false
 else
  Yb (Qf.step a0 v1 v5 v6) (.l1 0 0 false)
def Qf.j1 (a0:List Qd) (v1:Int) (Qhk:Bool):Option Bool:=
 if Qhk=true then
  (Qm).bind fun v4=>
  some v4
 else
  (Wt a0 v1).bind fun v5=>
  (Zj a0 ([(⟨v1,IntKind.wrap .i64 (v1+1)⟩:Qb)]:List Qb) 1099511627775).bind fun v6=>
  if v5.2=0 then
   Qf.j2 a0 v1 v5 v6 (v6.2 != 0)
  else
   Qf.j2 a0 v1 v5 v6 true
def Qf (a0:List Qd) (a1:Int):Option Bool:=
 bnd (Int.tmod (IntKind.wrap .i64 ((Int.tmod a1 4096)+4096)) 4096) fun (v1:Int)=>
 (Xm a0 ([]:List Qy)).bind fun v2=>
 if v2=true then
  (Zb a0).bind fun v3=>
  Qf.j1 a0 v1 (!v3)
 else
  Qf.j1 a0 v1 true
end
end Go.SyP
