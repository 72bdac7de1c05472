/- Plain functions, printed by gen.py. -/
import Derived.Test.YticmlllaimjdcaaGreatSyObj
set_option linter.unusedVariables false
namespace Go.SyP
open Go Go.Sy
noncomputable section
structure Qa5 where
 l:List Nat
structure Xu where
 h:Qa5
structure Qa where
 Key:Int
 Val:Int
def Qa.z:Qa:=⟨0,0⟩
structure Qb where
 Lo:Int
 Hi:Int
def Qb.z:Qb:=⟨0,0⟩
structure Qu where
 Client:Int
 Seq:Int
 Kind:Int
 Pairs:List Qa
 Over:Qb
 Old:Int
def Qu.z:Qu:=⟨0,0,0,[],Qb.z,0⟩
structure Yo where
 M:Qu
 Time:Int
 Qda:Bool
def Yo.z:Yo:=⟨Qu.z,0,false⟩
structure Qd where
 h:Yo
 at_:Int
def Qd.z:Qd:=⟨Yo.z,0⟩
structure Jh where
 Time:Int
 Client:Int
 Seq:Int
structure Qc where
 M:Qu
 Time:Int
 Jc:Bool
def Qc.z:Qc:=⟨Qu.z,0,false⟩
structure Qcf where
 Qqr:Int
 Time:Int
def Qcf.z:Qcf:=⟨0,0⟩
structure Qr where
 M:Qu
 Time:Int
 Qda:Bool
 Qep:List Qcf
def Qr.z:Qr:=⟨Qu.z,0,false,[]⟩
structure Ql where
 Client:Int
 Seq:Int
 Time:Int
 Jc:Bool
def Ql.z:Ql:=⟨0,0,0,false⟩
structure Qf where
 ID:Int
 Keys:Qb
 Clock:Int
 Qdd:Bool
 Qb6:Bool
 Held:List Qr
 Base:List Qa
 Log:List Qc
 Qw:List Ql
def Qf.z:Qf:=⟨0,Qb.z,0,false,false,[],[],[],[]⟩
structure Qj where
 Key:Int
 Val:Int
def Qj.z:Qj:=⟨0,0⟩
structure Qx where
 Lo:Int
 Hi:Int
def Qx.z:Qx:=⟨0,0⟩
structure Xq where
 Client:Int
 Seq:Int
 Kind:Int
 Pairs:List Qj
 Over:Qx
 Old:Int
def Xq.z:Xq:=⟨0,0,0,[],Qx.z,0⟩
structure Qa3 where
 Qqr:Int
 Time:Int
def Qa3.z:Qa3:=⟨0,0⟩
structure Xo where
 M:Xq
 Time:Int
 Qda:Bool
 Qep:List Qa3
def Xo.z:Xo:=⟨Xq.z,0,false,[]⟩
structure Qe where
 M:Xq
 Time:Int
 Jc:Bool
def Qe.z:Qe:=⟨Xq.z,0,false⟩
structure Yg where
 Client:Int
 Seq:Int
 Time:Int
 Jc:Bool
def Yg.z:Yg:=⟨0,0,0,false⟩
structure Qt where
 ID:Int
 Keys:Qx
 Clock:Int
 Qdd:Bool
 Qb6:Bool
 Held:List Xo
 Base:List Qj
 Log:List Qe
 Qw:List Yg
def Qt.z:Qt:=⟨0,Qx.z,0,false,false,[],[],[],[]⟩
structure Qe9 where
 Time:Int
 Client:Int
 Seq:Int
inductive Za.S where
 | l1 (Qa4:Int)
def Za.j1 (a0:Xu) (Qa4:Int) (Qnf:Bool):Option (Za.S ⊕ ((Option Nat) × Xu)):=
 if Qnf=true then
  some (.inr (some (a0.h.l.getD Qa4.toNat 0),(⟨(⟨a0.h.l⟩:Qa5)⟩:Xu)))
 else
  some (.inl (.l1 (IntKind.wrap .i64 (Qa4+1))))
def Za.l1 (a0:Xu) (a1:Int) (a2:Int) (dom:List Nat) (M:Nat->Qd) (Qa4:Int):Option (Za.S ⊕ ((Option Nat) × Xu)):=
 if Qa4 < (a0.h.l.length:Int) then
  if 0<=Qa4/\Qa4 < (a0.h.l.length:Int) then
   if (a0.h.l.getD Qa4.toNat 0)∈dom then
    if ((((M (a0.h.l.getD Qa4.toNat 0)).h).M).Client)=a1 then
     Za.j1 a0 Qa4 (((((M (a0.h.l.getD Qa4.toNat 0)).h).M).Seq) == a2)
    else
     Za.j1 a0 Qa4 false
   else none
  else none
 else
  some (.inr (none,(⟨(⟨a0.h.l⟩:Qa5)⟩:Xu)))
def Za.step (a0:Xu) (a1:Int) (a2:Int) (dom:List Nat) (M:Nat->Qd):Za.S->Option (Za.S ⊕ ((Option Nat) × Xu))
 | .l1 Qa4=>Za.l1 a0 a1 a2 dom M Qa4
def Za (a0:Xu) (a1:Int) (a2:Int) (dom:List Nat) (M:Nat->Qd):Option ((Option Nat) × Xu):=
 Xb (Za.step a0 a1 a2 dom M) (.l1 0)
def Qcv (a0:Xu) (dom:List Nat) (M:Nat->Qd):Int × Xu:=
 ((a0.h.l.length:Int),(⟨(⟨a0.h.l⟩:Qa5)⟩:Xu))
def Qgd (a0:Xu) (a1:Int) (dom:List Nat) (M:Nat->Qd):Option (Int × Xu):=
 bnd (Qcv (⟨(⟨a0.h.l⟩:Qa5)⟩:Xu) dom M) fun (v1:Int × Xu)=>
 if v1.1=0 then
  some (a1,(⟨(⟨((v1.2).h).l⟩:Qa5)⟩:Xu))
 else
  if (0:Int)<=0/\0 < ((((v1.2).h).l).length:Int) then
   if ((((v1.2).h).l).getD 0 0)∈dom then
    bnd (IntKind.wrap .i64 ((((M ((((v1.2).h).l).getD 0 0)).h).Time) - 1)) fun (v2:Int)=>
    some (v2,(⟨(⟨((v1.2).h).l⟩:Qa5)⟩:Xu))
   else none
  else none
def Qe5 (a0:Xu) (a1:Nat) (dom:List Nat) (M:Nat->Qd):Option (Xu × (Nat->Qd)):=
 if a1∈dom then
  bnd (upd M a1 (⟨(⟨(⟨(((M a1).h).M).Client,(((M a1).h).M).Seq,(((M a1).h).M).Kind,(((M a1).h).M).Pairs,(⟨((((M a1).h).M).Over).Lo,((((M a1).h).M).Over).Hi⟩:Qb),(((M a1).h).M).Old⟩:Qu),((M a1).h).Time,((M a1).h).Qda⟩:Yo),(a0.h.l.length:Int)⟩:Qd)) fun (v1:Nat->Qd)=>
  if (a0.h.l.length+1) * 8<=140737488355328 then
   some ((⟨(⟨a0.h.l ++ [a1]⟩:Qa5)⟩:Xu),v1)
  else none
 else none
def Qde (a0:Xu) (dom:List Nat) (M:Nat->Qd):Int × Xu:=
 ((a0.h.l.length:Int),(⟨(⟨a0.h.l⟩:Qa5)⟩:Xu))
def Qbg (a0:Int) (a1:Qu):Jh:=
 (⟨a0,a1.Client,a1.Seq⟩:Jh)
def Qej (a0:Nat) (dom:List Nat) (M:Nat->Qd):Option Jh:=
 if a0∈dom then
  bnd (Qbg (((M a0).h).Time) (⟨(((M a0).h).M).Client,(((M a0).h).M).Seq,(((M a0).h).M).Kind,(((M a0).h).M).Pairs,(⟨((((M a0).h).M).Over).Lo,((((M a0).h).M).Over).Hi⟩:Qb),(((M a0).h).M).Old⟩:Qu)) fun (v1:Jh)=>
  some v1
 else none
def cmp_isNaN_int (a0:Int):Bool:=
 (a0 != a0)
def Yf (a0:Int) (a1:Int):Int:=
 if (cmp_isNaN_int a0)=true then
  if (cmp_isNaN_int a1)=true then
   0
  else
   (-1)
 else
  if (cmp_isNaN_int a1)=true then
   1
  else
   if a0 < a1 then
    (-1)
   else
    if a0 > a1 then
     1
    else
     0
inductive Jt.S where
 | l1 (Qy:Int)
def Jt.l1 (a0:List Int) (Qy:Int):Option (Jt.S ⊕ Int):=
 if Qy < (a0.length:Int) then
  if 0<=Qy/\Qy < (a0.length:Int) then
   if (a0.getD Qy.toNat 0)=0 then
    some (.inl (.l1 (IntKind.wrap .i64 (Qy+1))))
   else
    some (.inr (a0.getD Qy.toNat 0))
  else none
 else
  some (.inr 0)
def Jt.step (a0:List Int):Jt.S->Option (Jt.S ⊕ Int)
 | .l1 Qy=>Jt.l1 a0 Qy
def Jt (a0:List Int):Option Int:=
 Xb (Jt.step a0) (.l1 0)
def Qbs (a0:Jh) (a1:Jh):Option Int:=
 (Jt ([Yf a0.Time a1.Time,Yf a0.Client a1.Client,Yf a0.Seq a1.Seq]:List Int)).bind fun v1=>
 some v1
def Qfv (a0:Xu) (a1:Int) (a2:Int) (dom:List Nat) (M:Nat->Qd):Option (Bool × Xu):=
 if 0<=a1/\a1 < (a0.h.l.length:Int) then
  (Qej (a0.h.l.getD a1.toNat 0) dom M).bind fun v1=>
  if 0<=a2/\a2 < (a0.h.l.length:Int) then
   (Qej (a0.h.l.getD a2.toNat 0) dom M).bind fun v2=>
   (Qbs v1 v2).bind fun v3=>
   some (decide (v3 < 0),(⟨(⟨a0.h.l⟩:Qa5)⟩:Xu))
  else none
 else none
def Wm (a0:Xu) (a1:Int) (a2:Int) (dom:List Nat) (M:Nat->Qd):Option (Xu × (Nat->Qd)):=
 if 0<=a2/\a2 < (a0.h.l.length:Int) then
  if 0<=a1/\a1 < (a0.h.l.length:Int) then
   bnd (a0.h.l.set a1.toNat (a0.h.l.getD a2.toNat 0)) fun (v1:List Nat)=>
   if 0<=a2/\a2 < (v1.length:Int) then
    if 0<=a1/\a1 < ((v1.set a2.toNat (a0.h.l.getD a1.toNat 0)).length:Int) then
     if 0<=a2/\a2 < ((v1.set a2.toNat (a0.h.l.getD a1.toNat 0)).length:Int) then
      if ((v1.set a2.toNat (a0.h.l.getD a1.toNat 0)).getD a1.toNat 0)∈dom then
       bnd (upd M ((v1.set a2.toNat (a0.h.l.getD a1.toNat 0)).getD a1.toNat 0) (⟨(⟨(⟨(((M ((v1.set a2.toNat (a0.h.l.getD a1.toNat 0)).getD a1.toNat 0)).h).M).Client,(((M ((v1.set a2.toNat (a0.h.l.getD a1.toNat 0)).getD a1.toNat 0)).h).M).Seq,(((M ((v1.set a2.toNat (a0.h.l.getD a1.toNat 0)).getD a1.toNat 0)).h).M).Kind,(((M ((v1.set a2.toNat (a0.h.l.getD a1.toNat 0)).getD a1.toNat 0)).h).M).Pairs,(⟨((((M ((v1.set a2.toNat (a0.h.l.getD a1.toNat 0)).getD a1.toNat 0)).h).M).Over).Lo,((((M ((v1.set a2.toNat (a0.h.l.getD a1.toNat 0)).getD a1.toNat 0)).h).M).Over).Hi⟩:Qb),(((M ((v1.set a2.toNat (a0.h.l.getD a1.toNat 0)).getD a1.toNat 0)).h).M).Old⟩:Qu),((M ((v1.set a2.toNat (a0.h.l.getD a1.toNat 0)).getD a1.toNat 0)).h).Time,((M ((v1.set a2.toNat (a0.h.l.getD a1.toNat 0)).getD a1.toNat 0)).h).Qda⟩:Yo),a1⟩:Qd)) fun (v2:Nat->Qd)=>
       if ((v1.set a2.toNat (a0.h.l.getD a1.toNat 0)).getD a2.toNat 0)∈dom then
        bnd (upd v2 ((v1.set a2.toNat (a0.h.l.getD a1.toNat 0)).getD a2.toNat 0) (⟨(⟨(⟨(((v2 ((v1.set a2.toNat (a0.h.l.getD a1.toNat 0)).getD a2.toNat 0)).h).M).Client,(((v2 ((v1.set a2.toNat (a0.h.l.getD a1.toNat 0)).getD a2.toNat 0)).h).M).Seq,(((v2 ((v1.set a2.toNat (a0.h.l.getD a1.toNat 0)).getD a2.toNat 0)).h).M).Kind,(((v2 ((v1.set a2.toNat (a0.h.l.getD a1.toNat 0)).getD a2.toNat 0)).h).M).Pairs,(⟨((((v2 ((v1.set a2.toNat (a0.h.l.getD a1.toNat 0)).getD a2.toNat 0)).h).M).Over).Lo,((((v2 ((v1.set a2.toNat (a0.h.l.getD a1.toNat 0)).getD a2.toNat 0)).h).M).Over).Hi⟩:Qb),(((v2 ((v1.set a2.toNat (a0.h.l.getD a1.toNat 0)).getD a2.toNat 0)).h).M).Old⟩:Qu),((v2 ((v1.set a2.toNat (a0.h.l.getD a1.toNat 0)).getD a2.toNat 0)).h).Time,((v2 ((v1.set a2.toNat (a0.h.l.getD a1.toNat 0)).getD a2.toNat 0)).h).Qda⟩:Yo),a2⟩:Qd)) fun (v3:Nat->Qd)=>
        some ((⟨(⟨v1.set a2.toNat (a0.h.l.getD a1.toNat 0)⟩:Qa5)⟩:Xu),v3)
       else none
      else none
     else none
    else none
   else none
  else none
 else none
inductive Zo.S where
 | l1 (Qef:Int) (Qd9:Nat->Qd) (Jw:List Nat)
def Zo.j1 (dom:List Nat) (Qef:Int) (Qd9:Nat->Qd) (v1:Int) (Qnd:Bool) (Qh8:List Nat):Option (Zo.S ⊕ (Xu × (Nat->Qd))):=
 if Qnd=true then
  some (.inr ((⟨(⟨Qh8⟩:Qa5)⟩:Xu),Qd9))
 else
  (Wm (⟨(⟨Qh8⟩:Qa5)⟩:Xu) v1 Qef dom Qd9).bind fun v3=>
  some (.inl (.l1 v1 v3.2 v3.1.h.l))
def Zo.l1 (dom:List Nat) (Qef:Int) (Qd9:Nat->Qd) (Jw:List Nat):Option (Zo.S ⊕ (Xu × (Nat->Qd))):=
 bnd (IntKind.wrap .i64 (Int.tdiv (IntKind.wrap .i64 (Qef - 1)) 2)) fun (v1:Int)=>
 if v1=Qef then
  Zo.j1 dom Qef Qd9 v1 true Jw
 else
  (Qfv (⟨(⟨Jw⟩:Qa5)⟩:Xu) Qef v1 dom Qd9).bind fun v2=>
  Zo.j1 dom Qef Qd9 v1 (!v2.1) v2.2.h.l
def Zo.step (dom:List Nat):Zo.S->Option (Zo.S ⊕ (Xu × (Nat->Qd)))
 | .l1 Qef Qd9 Jw=>Zo.l1 dom Qef Qd9 Jw
def Zo (a0:Xu) (a1:Int) (dom:List Nat) (M:Nat->Qd):Option (Xu × (Nat->Qd)):=
 Xb (Zo.step dom) (.l1 a1 M a0.h.l)
def Qem (a0:Xu) (a1:Nat) (dom:List Nat) (M:Nat->Qd):Option (Xu × (Nat->Qd)):=
 (Qe5 (⟨(⟨a0.h.l⟩:Qa5)⟩:Xu) a1 dom M).bind fun v1=>
 bnd (Qde (⟨(⟨v1.1.h.l⟩:Qa5)⟩:Xu) dom v1.2) fun (v2:Int × Xu)=>
 (Zo (⟨(⟨((v2.2).h).l⟩:Qa5)⟩:Xu) (IntKind.wrap .i64 (v2.1 - 1)) dom v1.2).bind fun v3=>
 some ((⟨(⟨v3.1.h.l⟩:Qa5)⟩:Xu),v3.2)
inductive Zj.S where
 | l1 (Qy:Int)
def Zj.l1 (a0:List Qa) (p1:Qa->Option Bool) (Qy:Int):Option (Zj.S ⊕ Int):=
 if Qy < (a0.length:Int) then
  if 0<=Qy/\Qy < (a0.length:Int) then
   (p1 (a0.getD Qy.toNat Qa.z)).bind fun v1=>
   if v1=true then
    some (.inr Qy)
   else
    some (.inl (.l1 (IntKind.wrap .i64 (Qy+1))))
  else none
 else
  some (.inr (-1))
def Zj.step (a0:List Qa) (p1:Qa->Option Bool):Zj.S->Option (Zj.S ⊕ Int)
 | .l1 Qy=>Zj.l1 a0 p1 Qy
def Zj (a0:List Qa) (p1:Qa->Option Bool):Option Int:=
 Xb (Zj.step a0 p1) (.l1 0)
def Qcl (a0:List Qa) (p1:Qa->Option Bool):Option Bool:=
 (Zj a0 p1).bind fun v1=>
 some (decide (v1>=0))
def Qcs.j1 (Qcq:Bool):Bool:=
 Qcq
def Qcs (a0:Int):Bool:=
 if a0>=(-1099511627776) then
  Qcs.j1 (decide (a0<=1099511627776))
 else
  Qcs.j1 false
def Qed.j1 (Qcq:Bool):Bool:=
 Qcq
def Qed (a0:Qa):Bool:=
 if a0.Key>=0 then
  if a0.Key < 4096 then
   Qed.j1 (Qcs a0.Val)
  else
   Qed.j1 false
 else
  Qed.j1 false
def Qga (a0:Qa):Bool:=
 (!(Qed a0))
def Qci.j1 (Qjl:Bool):Option Bool:=
 some Qjl
def Qci (a0:Qu) (a1:Int) (a2:Int):Option Bool:=
 if (a0.Pairs.length:Int)>=a1 then
  if (a0.Pairs.length:Int)<=a2 then
   (Qcl a0.Pairs (fun z0=>some (Qga z0))).bind fun v1=>
   Qci.j1 (!v1)
  else
   Qci.j1 false
 else
  Qci.j1 false
inductive Qb2.S where
 | l1 (Xe:Int)
def Qb2.l1 (a0:List Qa) (Xe:Int):Option (Qb2.S ⊕ Bool):=
 if Xe < (a0.length:Int) then
  if 0<=(IntKind.wrap .i64 (Xe - 1))/\(IntKind.wrap .i64 (Xe - 1)) < (a0.length:Int) then
   if 0<=Xe/\Xe < (a0.length:Int) then
    if ((a0.getD ((IntKind.wrap .i64 (Xe - 1)).toNat) Qa.z).Key)>=((a0.getD Xe.toNat Qa.z).Key) then
     some (.inr false)
    else
     some (.inl (.l1 (IntKind.wrap .i64 (Xe+1))))
   else none
  else none
 else
  some (.inr true)
def Qb2.step (a0:List Qa):Qb2.S->Option (Qb2.S ⊕ Bool)
 | .l1 Xe=>Qb2.l1 a0 Xe
def Qb2 (a0:List Qa):Option Bool:=
 Xb (Qb2.step a0) (.l1 1)
def Qbc.j1 (Qcq:Bool):Bool:=
 Qcq
def Qbc (a0:Qb):Bool:=
 if a0.Lo>=0 then
  if a0.Lo < a0.Hi then
   Qbc.j1 (decide (a0.Hi<=4096))
  else
   Qbc.j1 false
 else
  Qbc.j1 false
def Zh.j2 (Qqo:Bool):Option Bool:=
 some Qqo
def Zh.j3 (Qg7:Bool):Option Bool:=
 some Qg7
def Zh.j4 (Qnm:Bool):Option Bool:=
 some Qnm
def Zh.j5 (Qqp:Bool):Option Bool:=
 some Qqp
def Zh.j1 (a0:Qu) (Qre:Bool):Option Bool:=
 if Qre=true then
  some false
 else
  if a0.Kind=1 then
   (Qci a0 1 8).bind fun v1=>
   if v1=true then
    (Qb2 a0.Pairs).bind fun v2=>
    Zh.j2 v2
   else
    Zh.j2 false
  else
   if a0.Kind=2 then
    if (a0.Pairs.length:Int)=0 then
     Zh.j3 (Qbc a0.Over)
    else
     Zh.j3 false
   else
    if a0.Kind=3 then
     (Qci a0 1 1).bind fun v3=>
     some v3
    else
     if a0.Kind=4 then
      (Qci a0 1 1).bind fun v4=>
      if v4=true then
       if (Qcs a0.Old)=true then
        Zh.j4 true
       else
        Zh.j4 (a0.Old == 1099511627777)
      else
       Zh.j4 false
     else
      if a0.Kind=5 then
       (Qci a0 2 2).bind fun v5=>
       if v5=true then
        if (0:Int)<=0/\0 < (a0.Pairs.length:Int) then
         if (0:Int)<=1/\1 < (a0.Pairs.length:Int) then
          if ((a0.Pairs.getD 0 Qa.z).Key)=((a0.Pairs.getD 1 Qa.z).Key) then
           Zh.j5 false
          else
           if ((a0.Pairs.getD 0 Qa.z).Val)=((a0.Pairs.getD 1 Qa.z).Val) then
            Zh.j5 (decide (((a0.Pairs.getD 0 Qa.z).Val)>=0))
           else
            Zh.j5 false
         else none
        else none
       else
        Zh.j5 false
      else
       some false
def Zh (a0:Qu):Option Bool:=
 if a0.Kind=2 then
  if a0.Kind=4 then
   Zh.j1 a0 false
  else
   Zh.j1 a0 (a0.Old != 0)
 else
  if a0.Over.Lo=0 then
   if a0.Over.Hi=0 then
    if a0.Kind=4 then
     Zh.j1 a0 false
    else
     Zh.j1 a0 (a0.Old != 0)
   else
    Zh.j1 a0 true
  else
   if a0.Over.Hi=0 then
    Zh.j1 a0 true
   else
    Zh.j1 a0 true
def Qbn.j1 (Qcq:Bool):Option Bool:=
 some Qcq
def Qbn (a0:Qu):Option Bool:=
 if a0.Client>=1 then
  if a0.Client<=1048576 then
   if a0.Seq>=1 then
    if a0.Seq<=1073741824 then
     (Zh a0).bind fun v1=>
     Qbn.j1 v1
    else
     Qbn.j1 false
   else
    Qbn.j1 false
  else
   Qbn.j1 false
 else
  Qbn.j1 false
def Qdp.j1 (Qcq:Bool):Bool:=
 Qcq
def Qdp (a0:Int):Bool:=
 if a0>=0 then
  Qdp.j1 (decide (a0<=1099511627775))
 else
  Qdp.j1 false
def Qdo (a0:Yo):Option Yo:=
 if a0.M.Pairs.length * 16<=140737488355328 then
  some a0
 else none
def Qdr (a0:Qc):Jh:=
 bnd (Qbg a0.Time a0.M) fun (v1:Jh)=>
 v1
def Qhr (a0:Qc) (a1:Qc):Option Int:=
 bnd (Qdr a1) fun (v1:Jh)=>
 (Qbs (Qdr a0) v1).bind fun v2=>
 some v2
inductive Zr.S where
 | l1 (Qy:Int)
def Zr.l1 (a0:List Qb) (p1:Qb->Option Bool) (Qy:Int):Option (Zr.S ⊕ Int):=
 if Qy < (a0.length:Int) then
  if 0<=Qy/\Qy < (a0.length:Int) then
   (p1 (a0.getD Qy.toNat Qb.z)).bind fun v1=>
   if v1=true then
    some (.inr Qy)
   else
    some (.inl (.l1 (IntKind.wrap .i64 (Qy+1))))
  else none
 else
  some (.inr (-1))
def Zr.step (a0:List Qb) (p1:Qb->Option Bool):Zr.S->Option (Zr.S ⊕ Int)
 | .l1 Qy=>Zr.l1 a0 p1 Qy
def Zr (a0:List Qb) (p1:Qb->Option Bool):Option Int:=
 Xb (Zr.step a0 p1) (.l1 0)
def Qbq (a0:List Qb) (p1:Qb->Option Bool):Option Bool:=
 (Zr a0 p1).bind fun v1=>
 some (decide (v1>=0))
def Qgt (a0:Qb):Bool:=
 (!(Qbc a0))
def Yw (a0:Qb) (a1:Qb):Int:=
 Yf a0.Lo a1.Lo
def Qe7 (a0:List Qb):(List Qb) × Int:=
 if (a0.length:Int) > 64 then
  (([]:List Qb),2)
 else
  (a0,0)
inductive Qv.S where
 | l1 (Ji:Int) (Qh:List Qb)
def Qv.j1 (a0:List Qb) (Ji:Int) (Qh:List Qb) (Qgr:Bool):Option (Qv.S ⊕ ((List Qb) × Int)):=
 if Qgr=true then
  if 0<=(IntKind.wrap .i64 ((Qh.length:Int) - 1))/\(IntKind.wrap .i64 ((Qh.length:Int) - 1)) < (Qh.length:Int) then
   some (.inl (.l1 (IntKind.wrap .i64 (Ji+1)) (Qh.set ((IntKind.wrap .i64 ((Qh.length:Int) - 1)).toNat) (⟨(Qh.getD ((IntKind.wrap .i64 ((Qh.length:Int) - 1)).toNat) Qb.z).Lo,Qeo ((Qh.getD ((IntKind.wrap .i64 ((Qh.length:Int) - 1)).toNat) Qb.z).Hi) (((Jr Qb.z Yw a0).getD Ji.toNat Qb.z).Hi)⟩:Qb))))
  else none
 else
  if (Qh.length+1) * 16<=140737488355328 then
   some (.inl (.l1 (IntKind.wrap .i64 (Ji+1)) (Qh ++ [((Jr Qb.z Yw a0).getD Ji.toNat Qb.z)])))
  else none
def Qv.l1 (a0:List Qb) (Ji:Int) (Qh:List Qb):Option (Qv.S ⊕ ((List Qb) × Int)):=
 if Ji < ((Jr Qb.z Yw a0).length:Int) then
  if 0<=Ji/\Ji < ((Jr Qb.z Yw a0).length:Int) then
   if (IntKind.wrap .i64 ((Qh.length:Int) - 1))>=0 then
    if 0<=(IntKind.wrap .i64 ((Qh.length:Int) - 1))/\(IntKind.wrap .i64 ((Qh.length:Int) - 1)) < (Qh.length:Int) then
     Qv.j1 a0 Ji Qh (decide ((((Jr Qb.z Yw a0).getD Ji.toNat Qb.z).Lo)<=((Qh.getD ((IntKind.wrap .i64 ((Qh.length:Int) - 1)).toNat) Qb.z).Hi)))
    else none
   else
    Qv.j1 a0 Ji Qh false
  else none
 else
  bnd (Qe7 Qh) fun (v2:(List Qb) × Int)=>
  some (.inr (v2.1,v2.2))
def Qv.step (a0:List Qb):Qv.S->Option (Qv.S ⊕ ((List Qb) × Int))
 | .l1 Ji Qh=>Qv.l1 a0 Ji Qh
def Qv (a0:List Qb):Option ((List Qb) × Int):=
 (Qbq a0 (fun z0=>some (Qgt z0))).bind fun v1=>
 if v1=true then
  some (([]:List Qb),1)
 else
  if a0.length * 16<=140737488355328 then
   Xb (Qv.step a0) (.l1 0 ([]:List Qb))
  else none
end
end Go.SyP
