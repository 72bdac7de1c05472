/- Plain functions, printed by gen.py. -/
import Derived.Test.YticmlllaimjdcaaGreatSyObj
set_option linter.unusedVariables false
namespace Go.SyP
open Go Go.Sy
noncomputable section
structure Qbc where
 l:List Nat
structure Xv where
 h:Qbc
structure Qa where
 Key:Int
 Val:Int
def Qa.z:Qa:=⟨0,0⟩
structure Qb where
 Lo:Int
 Hi:Int
def Qb.z:Qb:=⟨0,0⟩
structure We where
 Client:Int
 Seq:Int
 Kind:Int
 Pairs:List Qa
 Over:Qb
 Old:Int
def We.z:We:=⟨0,0,0,[],Qb.z,0⟩
structure Yl where
 M:We
 Time:Int
 Qcq:Bool
def Yl.z:Yl:=⟨We.z,0,false⟩
structure Qh where
 h:Yl
 at_:Int
def Qh.z:Qh:=⟨Yl.z,0⟩
structure Jk where
 Time:Int
 Client:Int
 Seq:Int
structure Qc where
 M:We
 Time:Int
 Zw:Bool
def Qc.z:Qc:=⟨We.z,0,false⟩
structure Qbb where
 Qo8:Int
 Time:Int
def Qbb.z:Qbb:=⟨0,0⟩
structure Qr where
 M:We
 Time:Int
 Qcq:Bool
 Qdk:List Qbb
def Qr.z:Qr:=⟨We.z,0,false,[]⟩
structure Qo where
 Client:Int
 Seq:Int
 Time:Int
 Zw:Bool
def Qo.z:Qo:=⟨0,0,0,false⟩
structure Qm where
 ID:Int
 Keys:Qb
 Clock:Int
 Qa1:Bool
 Qag:Bool
 Held:List Qr
 Base:List Qa
 Log:List Qc
 Qs:List Qo
def Qm.z:Qm:=⟨0,Qb.z,0,false,false,[],[],[],[]⟩
structure Qg where
 Key:Int
 Val:Int
def Qg.z:Qg:=⟨0,0⟩
structure Qi where
 Lo:Int
 Hi:Int
def Qi.z:Qi:=⟨0,0⟩
structure Xe where
 Client:Int
 Seq:Int
 Kind:Int
 Pairs:List Qg
 Over:Qi
 Old:Int
def Xe.z:Xe:=⟨0,0,0,[],Qi.z,0⟩
structure Yh where
 Qo8:Int
 Time:Int
def Yh.z:Yh:=⟨0,0⟩
structure Qz where
 M:Xe
 Time:Int
 Qcq:Bool
 Qdk:List Yh
def Qz.z:Qz:=⟨Xe.z,0,false,[]⟩
structure Qd where
 M:Xe
 Time:Int
 Zw:Bool
def Qd.z:Qd:=⟨Xe.z,0,false⟩
structure Wh where
 Client:Int
 Seq:Int
 Time:Int
 Zw:Bool
def Wh.z:Wh:=⟨0,0,0,false⟩
structure Ql where
 ID:Int
 Keys:Qi
 Clock:Int
 Qa1:Bool
 Qag:Bool
 Held:List Qz
 Base:List Qg
 Log:List Qd
 Qs:List Wh
def Ql.z:Ql:=⟨0,Qi.z,0,false,false,[],[],[],[]⟩
structure Qa7 where
 Time:Int
 Client:Int
 Seq:Int
inductive Zi.S where
 | l1 (Qb2:Int)
def Zi.j1 (a0:Xv) (Qb2:Int) (Qj1:Bool):Option (Zi.S ⊕ ((Option Nat) × Xv)):=
 if Qj1=true then
  some (.inr (some (a0.h.l.getD Qb2.toNat 0),(⟨(⟨a0.h.l⟩:Qbc)⟩:Xv)))
 else
  some (.inl (.l1 (IntKind.wrap .i64 (Qb2+1))))
def Zi.l1 (a0:Xv) (a1:Int) (a2:Int) (dom:List Nat) (M:Nat->Qh) (Qb2:Int):Option (Zi.S ⊕ ((Option Nat) × Xv)):=
 if Qb2 < (a0.h.l.length:Int) then
  if 0<=Qb2/\Qb2 < (a0.h.l.length:Int) then
   if (a0.h.l.getD Qb2.toNat 0)∈dom then
    if ((((M (a0.h.l.getD Qb2.toNat 0)).h).M).Client)=a1 then
     Zi.j1 a0 Qb2 (((((M (a0.h.l.getD Qb2.toNat 0)).h).M).Seq) == a2)
    else
     Zi.j1 a0 Qb2 false
   else none
  else none
 else
  some (.inr (none,(⟨(⟨a0.h.l⟩:Qbc)⟩:Xv)))
def Zi.step (a0:Xv) (a1:Int) (a2:Int) (dom:List Nat) (M:Nat->Qh):Zi.S->Option (Zi.S ⊕ ((Option Nat) × Xv))
 | .l1 Qb2=>Zi.l1 a0 a1 a2 dom M Qb2
def Zi (a0:Xv) (a1:Int) (a2:Int) (dom:List Nat) (M:Nat->Qh):Option ((Option Nat) × Xv):=
 Xf (Zi.step a0 a1 a2 dom M) (.l1 0)
def Qdo (a0:Xv) (dom:List Nat) (M:Nat->Qh):Int × Xv:=
 ((a0.h.l.length:Int),(⟨(⟨a0.h.l⟩:Qbc)⟩:Xv))
def Qg6 (a0:Xv) (a1:Int) (dom:List Nat) (M:Nat->Qh):Option (Int × Xv):=
 bnd (Qdo (⟨(⟨a0.h.l⟩:Qbc)⟩:Xv) dom M) fun (v1:Int × Xv)=>
 if v1.1=0 then
  some (a1,(⟨(⟨((v1.2).h).l⟩:Qbc)⟩:Xv))
 else
  if (0:Int)<=0/\0 < ((((v1.2).h).l).length:Int) then
   if ((((v1.2).h).l).getD 0 0)∈dom then
    bnd (IntKind.wrap .i64 ((((M ((((v1.2).h).l).getD 0 0)).h).Time) - 1)) fun (v2:Int)=>
    some (v2,(⟨(⟨((v1.2).h).l⟩:Qbc)⟩:Xv))
   else none
  else none
def Qfv (a0:Xv) (a1:Nat) (dom:List Nat) (M:Nat->Qh):Option (Xv × (Nat->Qh)):=
 if a1∈dom then
  bnd (upd M a1 (⟨(⟨(⟨(((M a1).h).M).Client,(((M a1).h).M).Seq,(((M a1).h).M).Kind,(((M a1).h).M).Pairs,(⟨((((M a1).h).M).Over).Lo,((((M a1).h).M).Over).Hi⟩:Qb),(((M a1).h).M).Old⟩:We),((M a1).h).Time,((M a1).h).Qcq⟩:Yl),(a0.h.l.length:Int)⟩:Qh)) fun (v1:Nat->Qh)=>
  if (a0.h.l.length+1) * 8<=140737488355328 then
   some ((⟨(⟨a0.h.l ++ [a1]⟩:Qbc)⟩:Xv),v1)
  else none
 else none
def Qdz (a0:Xv) (dom:List Nat) (M:Nat->Qh):Int × Xv:=
 ((a0.h.l.length:Int),(⟨(⟨a0.h.l⟩:Qbc)⟩:Xv))
def Qbr (a0:Int) (a1:We):Jk:=
 (⟨a0,a1.Client,a1.Seq⟩:Jk)
def Qe5 (a0:Nat) (dom:List Nat) (M:Nat->Qh):Option Jk:=
 if a0∈dom then
  bnd (Qbr (((M a0).h).Time) (⟨(((M a0).h).M).Client,(((M a0).h).M).Seq,(((M a0).h).M).Kind,(((M a0).h).M).Pairs,(⟨((((M a0).h).M).Over).Lo,((((M a0).h).M).Over).Hi⟩:Qb),(((M a0).h).M).Old⟩:We)) fun (v1:Jk)=>
  some v1
 else none
def cmp_isNaN_int (a0:Int):Bool:=
 (a0 != a0)
def Zt (a0:Int) (a1:Int):Int:=
 if (cmp_isNaN_int a0)=true then
  if (cmp_isNaN_int a1)=true then
   0
  else
   (-1)
 else
  if (cmp_isNaN_int a1)=true then
   1
  else
   if a0 < a1 then
    (-1)
   else
    if a0 > a1 then
     1
    else
     0
inductive Qa8.S where
 | l1 (Xd:Int)
def Qa8.l1 (a0:List Int) (Xd:Int):Option (Qa8.S ⊕ Int):=
 if Xd < (a0.length:Int) then
  if 0<=Xd/\Xd < (a0.length:Int) then
   if (a0.getD Xd.toNat 0)=0 then
    some (.inl (.l1 (IntKind.wrap .i64 (Xd+1))))
   else
    some (.inr (a0.getD Xd.toNat 0))
  else none
 else
  some (.inr 0)
def Qa8.step (a0:List Int):Qa8.S->Option (Qa8.S ⊕ Int)
 | .l1 Xd=>Qa8.l1 a0 Xd
def Qa8 (a0:List Int):Option Int:=
 Xf (Qa8.step a0) (.l1 0)
def Qcw (a0:Jk) (a1:Jk):Option Int:=
 (Qa8 ([Zt a0.Time a1.Time,Zt a0.Client a1.Client,Zt a0.Seq a1.Seq]:List Int)).bind fun v1=>
 some v1
def Qgk (a0:Xv) (a1:Int) (a2:Int) (dom:List Nat) (M:Nat->Qh):Option (Bool × Xv):=
 if 0<=a1/\a1 < (a0.h.l.length:Int) then
  (Qe5 (a0.h.l.getD a1.toNat 0) dom M).bind fun v1=>
  if 0<=a2/\a2 < (a0.h.l.length:Int) then
   (Qe5 (a0.h.l.getD a2.toNat 0) dom M).bind fun v2=>
   (Qcw v1 v2).bind fun v3=>
   some (decide (v3 < 0),(⟨(⟨a0.h.l⟩:Qbc)⟩:Xv))
  else none
 else none
def Wl (a0:Xv) (a1:Int) (a2:Int) (dom:List Nat) (M:Nat->Qh):Option (Xv × (Nat->Qh)):=
 if 0<=a2/\a2 < (a0.h.l.length:Int) then
  if 0<=a1/\a1 < (a0.h.l.length:Int) then
   bnd (a0.h.l.set a1.toNat (a0.h.l.getD a2.toNat 0)) fun (v1:List Nat)=>
   if 0<=a2/\a2 < (v1.length:Int) then
    if 0<=a1/\a1 < ((v1.set a2.toNat (a0.h.l.getD a1.toNat 0)).length:Int) then
     if 0<=a2/\a2 < ((v1.set a2.toNat (a0.h.l.getD a1.toNat 0)).length:Int) then
      if ((v1.set a2.toNat (a0.h.l.getD a1.toNat 0)).getD a1.toNat 0)∈dom then
       bnd (upd M ((v1.set a2.toNat (a0.h.l.getD a1.toNat 0)).getD a1.toNat 0) (⟨(⟨(⟨(((M ((v1.set a2.toNat (a0.h.l.getD a1.toNat 0)).getD a1.toNat 0)).h).M).Client,(((M ((v1.set a2.toNat (a0.h.l.getD a1.toNat 0)).getD a1.toNat 0)).h).M).Seq,(((M ((v1.set a2.toNat (a0.h.l.getD a1.toNat 0)).getD a1.toNat 0)).h).M).Kind,(((M ((v1.set a2.toNat (a0.h.l.getD a1.toNat 0)).getD a1.toNat 0)).h).M).Pairs,(⟨((((M ((v1.set a2.toNat (a0.h.l.getD a1.toNat 0)).getD a1.toNat 0)).h).M).Over).Lo,((((M ((v1.set a2.toNat (a0.h.l.getD a1.toNat 0)).getD a1.toNat 0)).h).M).Over).Hi⟩:Qb),(((M ((v1.set a2.toNat (a0.h.l.getD a1.toNat 0)).getD a1.toNat 0)).h).M).Old⟩:We),((M ((v1.set a2.toNat (a0.h.l.getD a1.toNat 0)).getD a1.toNat 0)).h).Time,((M ((v1.set a2.toNat (a0.h.l.getD a1.toNat 0)).getD a1.toNat 0)).h).Qcq⟩:Yl),a1⟩:Qh)) fun (v2:Nat->Qh)=>
       if ((v1.set a2.toNat (a0.h.l.getD a1.toNat 0)).getD a2.toNat 0)∈dom then
        bnd (upd v2 ((v1.set a2.toNat (a0.h.l.getD a1.toNat 0)).getD a2.toNat 0) (⟨(⟨(⟨(((v2 ((v1.set a2.toNat (a0.h.l.getD a1.toNat 0)).getD a2.toNat 0)).h).M).Client,(((v2 ((v1.set a2.toNat (a0.h.l.getD a1.toNat 0)).getD a2.toNat 0)).h).M).Seq,(((v2 ((v1.set a2.toNat (a0.h.l.getD a1.toNat 0)).getD a2.toNat 0)).h).M).Kind,(((v2 ((v1.set a2.toNat (a0.h.l.getD a1.toNat 0)).getD a2.toNat 0)).h).M).Pairs,(⟨((((v2 ((v1.set a2.toNat (a0.h.l.getD a1.toNat 0)).getD a2.toNat 0)).h).M).Over).Lo,((((v2 ((v1.set a2.toNat (a0.h.l.getD a1.toNat 0)).getD a2.toNat 0)).h).M).Over).Hi⟩:Qb),(((v2 ((v1.set a2.toNat (a0.h.l.getD a1.toNat 0)).getD a2.toNat 0)).h).M).Old⟩:We),((v2 ((v1.set a2.toNat (a0.h.l.getD a1.toNat 0)).getD a2.toNat 0)).h).Time,((v2 ((v1.set a2.toNat (a0.h.l.getD a1.toNat 0)).getD a2.toNat 0)).h).Qcq⟩:Yl),a2⟩:Qh)) fun (v3:Nat->Qh)=>
        some ((⟨(⟨v1.set a2.toNat (a0.h.l.getD a1.toNat 0)⟩:Qbc)⟩:Xv),v3)
       else none
      else none
     else none
    else none
   else none
  else none
 else none
inductive Jb.S where
 | l1 (Qfq:Int) (Qfn:Nat->Qh) (Zx:List Nat)
def Jb.j1 (dom:List Nat) (Qfq:Int) (Qfn:Nat->Qh) (v1:Int) (Qjy:Bool) (Qki:List Nat):Option (Jb.S ⊕ (Xv × (Nat->Qh))):=
 if Qjy=true then
  some (.inr ((⟨(⟨Qki⟩:Qbc)⟩:Xv),Qfn))
 else
  (Wl (⟨(⟨Qki⟩:Qbc)⟩:Xv) v1 Qfq dom Qfn).bind fun v3=>
  some (.inl (.l1 v1 v3.2 v3.1.h.l))
def Jb.l1 (dom:List Nat) (Qfq:Int) (Qfn:Nat->Qh) (Zx:List Nat):Option (Jb.S ⊕ (Xv × (Nat->Qh))):=
 bnd (IntKind.wrap .i64 (Int.tdiv (IntKind.wrap .i64 (Qfq - 1)) 2)) fun (v1:Int)=>
 if v1=Qfq then
  Jb.j1 dom Qfq Qfn v1 true Zx
 else
  (Qgk (⟨(⟨Zx⟩:Qbc)⟩:Xv) Qfq v1 dom Qfn).bind fun v2=>
  Jb.j1 dom Qfq Qfn v1 (!v2.1) v2.2.h.l
def Jb.step (dom:List Nat):Jb.S->Option (Jb.S ⊕ (Xv × (Nat->Qh)))
 | .l1 Qfq Qfn Zx=>Jb.l1 dom Qfq Qfn Zx
def Jb (a0:Xv) (a1:Int) (dom:List Nat) (M:Nat->Qh):Option (Xv × (Nat->Qh)):=
 Xf (Jb.step dom) (.l1 a1 M a0.h.l)
def Qe7 (a0:Xv) (a1:Nat) (dom:List Nat) (M:Nat->Qh):Option (Xv × (Nat->Qh)):=
 (Qfv (⟨(⟨a0.h.l⟩:Qbc)⟩:Xv) a1 dom M).bind fun v1=>
 bnd (Qdz (⟨(⟨v1.1.h.l⟩:Qbc)⟩:Xv) dom v1.2) fun (v2:Int × Xv)=>
 (Jb (⟨(⟨((v2.2).h).l⟩:Qbc)⟩:Xv) (IntKind.wrap .i64 (v2.1 - 1)) dom v1.2).bind fun v3=>
 some ((⟨(⟨v3.1.h.l⟩:Qbc)⟩:Xv),v3.2)
inductive Zd.S where
 | l1 (Xd:Int)
def Zd.l1 (a0:List Qa) (p1:Qa->Option Bool) (Xd:Int):Option (Zd.S ⊕ Int):=
 if Xd < (a0.length:Int) then
  if 0<=Xd/\Xd < (a0.length:Int) then
   (p1 (a0.getD Xd.toNat Qa.z)).bind fun v1=>
   if v1=true then
    some (.inr Xd)
   else
    some (.inl (.l1 (IntKind.wrap .i64 (Xd+1))))
  else none
 else
  some (.inr (-1))
def Zd.step (a0:List Qa) (p1:Qa->Option Bool):Zd.S->Option (Zd.S ⊕ Int)
 | .l1 Xd=>Zd.l1 a0 p1 Xd
def Zd (a0:List Qa) (p1:Qa->Option Bool):Option Int:=
 Xf (Zd.step a0 p1) (.l1 0)
def Qc6 (a0:List Qa) (p1:Qa->Option Bool):Option Bool:=
 (Zd a0 p1).bind fun v1=>
 some (decide (v1>=0))
def Qeo.j1 (Qb4:Bool):Bool:=
 Qb4
def Qeo (a0:Int):Bool:=
 if a0>=(-1099511627776) then
  Qeo.j1 (decide (a0<=1099511627776))
 else
  Qeo.j1 false
def Qf7.j1 (Qb4:Bool):Bool:=
 Qb4
def Qf7 (a0:Qa):Bool:=
 if a0.Key>=0 then
  if a0.Key < 4096 then
   Qf7.j1 (Qeo a0.Val)
  else
   Qf7.j1 false
 else
  Qf7.j1 false
def Qg1 (a0:Qa):Bool:=
 (!(Qf7 a0))
def Qc3.j1 (Qh9:Bool):Option Bool:=
 some Qh9
def Qc3 (a0:We) (a1:Int) (a2:Int):Option Bool:=
 if (a0.Pairs.length:Int)>=a1 then
  if (a0.Pairs.length:Int)<=a2 then
   (Qc6 a0.Pairs (fun z0=>some (Qg1 z0))).bind fun v1=>
   Qc3.j1 (!v1)
  else
   Qc3.j1 false
 else
  Qc3.j1 false
inductive Qck.S where
 | l1 (Qq:Int)
def Qck.l1 (a0:List Qa) (Qq:Int):Option (Qck.S ⊕ Bool):=
 if Qq < (a0.length:Int) then
  if 0<=(IntKind.wrap .i64 (Qq - 1))/\(IntKind.wrap .i64 (Qq - 1)) < (a0.length:Int) then
   if 0<=Qq/\Qq < (a0.length:Int) then
    if ((a0.getD ((IntKind.wrap .i64 (Qq - 1)).toNat) Qa.z).Key)>=((a0.getD Qq.toNat Qa.z).Key) then
     some (.inr false)
    else
     some (.inl (.l1 (IntKind.wrap .i64 (Qq+1))))
   else none
  else none
 else
  some (.inr true)
def Qck.step (a0:List Qa):Qck.S->Option (Qck.S ⊕ Bool)
 | .l1 Qq=>Qck.l1 a0 Qq
def Qck (a0:List Qa):Option Bool:=
 Xf (Qck.step a0) (.l1 1)
def Qcd.j1 (Qb4:Bool):Bool:=
 Qb4
def Qcd (a0:Qb):Bool:=
 if a0.Lo>=0 then
  if a0.Lo < a0.Hi then
   Qcd.j1 (decide (a0.Hi<=4096))
  else
   Qcd.j1 false
 else
  Qcd.j1 false
def Ji.j2 (Qlq:Bool):Option Bool:=
 some Qlq
def Ji.j3 (Qkn:Bool):Option Bool:=
 some Qkn
def Ji.j4 (Qia:Bool):Option Bool:=
 some Qia
def Ji.j5 (Qls:Bool):Option Bool:=
 some Qls
def Ji.j1 (a0:We) (Qr1:Bool):Option Bool:=
 if Qr1=true then
  some false
 else
  if a0.Kind=1 then
   (Qc3 a0 1 8).bind fun v1=>
   if v1=true then
    (Qck a0.Pairs).bind fun v2=>
    Ji.j2 v2
   else
    Ji.j2 false
  else
   if a0.Kind=2 then
    if (a0.Pairs.length:Int)=0 then
     Ji.j3 (Qcd a0.Over)
    else
     Ji.j3 false
   else
    if a0.Kind=3 then
     (Qc3 a0 1 1).bind fun v3=>
     some v3
    else
     if a0.Kind=4 then
      (Qc3 a0 1 1).bind fun v4=>
      if v4=true then
       if (Qeo a0.Old)=true then
        Ji.j4 true
       else
        Ji.j4 (a0.Old == 1099511627777)
      else
       Ji.j4 false
     else
      if a0.Kind=5 then
       (Qc3 a0 2 2).bind fun v5=>
       if v5=true then
        if (0:Int)<=0/\0 < (a0.Pairs.length:Int) then
         if (0:Int)<=1/\1 < (a0.Pairs.length:Int) then
          if ((a0.Pairs.getD 0 Qa.z).Key)=((a0.Pairs.getD 1 Qa.z).Key) then
           Ji.j5 false
          else
           if ((a0.Pairs.getD 0 Qa.z).Val)=((a0.Pairs.getD 1 Qa.z).Val) then
            Ji.j5 (decide (((a0.Pairs.getD 0 Qa.z).Val)>=0))
           else
            Ji.j5 false
         else none
        else none
       else
        Ji.j5 false
      else
       some false
def Ji (a0:We):Option Bool:=
 if a0.Kind=2 then
  if a0.Kind=4 then
   Ji.j1 a0 false
  else
   Ji.j1 a0 (a0.Old != 0)
 else
  if a0.Over.Lo=0 then
   if a0.Over.Hi=0 then
    if a0.Kind=4 then
     Ji.j1 a0 false
    else
     Ji.j1 a0 (a0.Old != 0)
   else
    Ji.j1 a0 true
  else
   if a0.Over.Hi=0 then
    Ji.j1 a0 true
   else
    Ji.j1 a0 true
def Qbx.j1 (Qb4:Bool):Option Bool:=
 some Qb4
def Qbx (a0:We):Option Bool:=
 if a0.Client>=1 then
  if a0.Client<=1048576 then
   if a0.Seq>=1 then
    if a0.Seq<=1073741824 then
     (Ji a0).bind fun v1=>
     Qbx.j1 v1
    else
     Qbx.j1 false
   else
    Qbx.j1 false
  else
   Qbx.j1 false
 else
  Qbx.j1 false
def Qee.j1 (Qb4:Bool):Bool:=
 Qb4
def Qee (a0:Int):Bool:=
 if a0>=0 then
  Qee.j1 (decide (a0<=1099511627775))
 else
  Qee.j1 false
def Qew (a0:Yl):Option Yl:=
 if a0.M.Pairs.length * 16<=140737488355328 then
  some a0
 else none
def Qez (a0:Qc):Jk:=
 bnd (Qbr a0.Time a0.M) fun (v1:Jk)=>
 v1
def Qiu (a0:Qc) (a1:Qc):Option Int:=
 bnd (Qez a1) fun (v1:Jk)=>
 (Qcw (Qez a0) v1).bind fun v2=>
 some v2
inductive Zu.S where
 | l1 (Xd:Int)
def Zu.l1 (a0:List Qb) (p1:Qb->Option Bool) (Xd:Int):Option (Zu.S ⊕ Int):=
 if Xd < (a0.length:Int) then
  if 0<=Xd/\Xd < (a0.length:Int) then
   (p1 (a0.getD Xd.toNat Qb.z)).bind fun v1=>
   if v1=true then
    some (.inr Xd)
   else
    some (.inl (.l1 (IntKind.wrap .i64 (Xd+1))))
  else none
 else
  some (.inr (-1))
def Zu.step (a0:List Qb) (p1:Qb->Option Bool):Zu.S->Option (Zu.S ⊕ Int)
 | .l1 Xd=>Zu.l1 a0 p1 Xd
def Zu (a0:List Qb) (p1:Qb->Option Bool):Option Int:=
 Xf (Zu.step a0 p1) (.l1 0)
def Qb3 (a0:List Qb) (p1:Qb->Option Bool):Option Bool:=
 (Zu a0 p1).bind fun v1=>
 some (decide (v1>=0))
def Qhs (a0:Qb):Bool:=
 (!(Qcd a0))
def Ze (a0:Qb) (a1:Qb):Int:=
 Zt a0.Lo a1.Lo
def Qfx (a0:List Qb):(List Qb) × Int:=
 if (a0.length:Int) > 64 then
  (([]:List Qb),2)
 else
  (a0,0)
inductive Wx.S where
 | l1 (Qav:Int) (Qx:List Qb)
def Wx.j1 (a0:List Qb) (Qav:Int) (Qx:List Qb) (Qe4:Bool):Option (Wx.S ⊕ ((List Qb) × Int)):=
 if Qe4=true then
  if 0<=(IntKind.wrap .i64 ((Qx.length:Int) - 1))/\(IntKind.wrap .i64 ((Qx.length:Int) - 1)) < (Qx.length:Int) then
   some (.inl (.l1 (IntKind.wrap .i64 (Qav+1)) (Qx.set ((IntKind.wrap .i64 ((Qx.length:Int) - 1)).toNat) (⟨(Qx.getD ((IntKind.wrap .i64 ((Qx.length:Int) - 1)).toNat) Qb.z).Lo,Qf6 ((Qx.getD ((IntKind.wrap .i64 ((Qx.length:Int) - 1)).toNat) Qb.z).Hi) (((Qai Qb.z Ze a0).getD Qav.toNat Qb.z).Hi)⟩:Qb))))
  else none
 else
  if (Qx.length+1) * 16<=140737488355328 then
   some (.inl (.l1 (IntKind.wrap .i64 (Qav+1)) (Qx ++ [((Qai Qb.z Ze a0).getD Qav.toNat Qb.z)])))
  else none
def Wx.l1 (a0:List Qb) (Qav:Int) (Qx:List Qb):Option (Wx.S ⊕ ((List Qb) × Int)):=
 if Qav < ((Qai Qb.z Ze a0).length:Int) then
  if 0<=Qav/\Qav < ((Qai Qb.z Ze a0).length:Int) then
   if (IntKind.wrap .i64 ((Qx.length:Int) - 1))>=0 then
    if 0<=(IntKind.wrap .i64 ((Qx.length:Int) - 1))/\(IntKind.wrap .i64 ((Qx.length:Int) - 1)) < (Qx.length:Int) then
     Wx.j1 a0 Qav Qx (decide ((((Qai Qb.z Ze a0).getD Qav.toNat Qb.z).Lo)<=((Qx.getD ((IntKind.wrap .i64 ((Qx.length:Int) - 1)).toNat) Qb.z).Hi)))
    else none
   else
    Wx.j1 a0 Qav Qx false
  else none
 else
  bnd (Qfx Qx) fun (v2:(List Qb) × Int)=>
  some (.inr (v2.1,v2.2))
def Wx.step (a0:List Qb):Wx.S->Option (Wx.S ⊕ ((List Qb) × Int))
 | .l1 Qav Qx=>Wx.l1 a0 Qav Qx
def Wx (a0:List Qb):Option ((List Qb) × Int):=
 (Qb3 a0 (fun z0=>some (Qhs z0))).bind fun v1=>
 if v1=true then
  some (([]:List Qb),1)
 else
  if a0.length * 16<=140737488355328 then
   Xf (Wx.step a0) (.l1 0 ([]:List Qb))
  else none
end
end Go.SyP
