/- Plain functions, printed by gen.py. -/
import Derived.Test.YticmlllaimjdcaaGreatG15zA
set_option linter.unusedVariables false
namespace Go.SyP
open Go Go.Sy
noncomputable section
def Qbk (a0:Int) (a1:Int) (a2:Int):Qu:=
 (⟨1,a0,a0,([(⟨a1,a2⟩:Qa)]:List Qa),(⟨0,0⟩:Qb),0⟩:Qu)
inductive Zg.S where
 | l1 (Wq:Int)
def Zg.j1 (Wq:Int) (Qrg:Bool):Option (Zg.S ⊕ Bool):=
 if Qrg=true then
  some (.inr false)
 else
  some (.inl (.l1 (IntKind.wrap .i64 (Wq+1))))
def Zg.l1 (a0:List Qb) (Wq:Int):Option (Zg.S ⊕ Bool):=
 if Wq < (a0.length:Int) then
  if 0<=Wq/\Wq < (a0.length:Int) then
   if (Qbc (a0.getD Wq.toNat Qb.z))=true then
    if Wq > 0 then
     if 0<=(IntKind.wrap .i64 (Wq - 1))/\(IntKind.wrap .i64 (Wq - 1)) < (a0.length:Int) then
      Zg.j1 Wq (decide (((a0.getD Wq.toNat Qb.z).Lo)<=((a0.getD ((IntKind.wrap .i64 (Wq - 1)).toNat) Qb.z).Hi)))
     else none
    else
     Zg.j1 Wq false
   else
    Zg.j1 Wq true
  else none
 else
  some (.inr (decide ((a0.length:Int)<=64)))
def Zg.step (a0:List Qb):Zg.S->Option (Zg.S ⊕ Bool)
 | .l1 Wq=>Zg.l1 a0 Wq
def Zg (a0:List Qb):Option Bool:=
 Xb (Zg.step a0) (.l1 0)
inductive Zc.S where
 | l1 (Qy:Int)
def Zc.l1 (a0:List Qc) (p1:Qc->Option Bool) (Qy:Int):Option (Zc.S ⊕ Int):=
 if Qy < (a0.length:Int) then
  if 0<=Qy/\Qy < (a0.length:Int) then
   (p1 (a0.getD Qy.toNat Qc.z)).bind fun v1=>
   if v1=true then
    some (.inr Qy)
   else
    some (.inl (.l1 (IntKind.wrap .i64 (Qy+1))))
  else none
 else
  some (.inr (-1))
def Zc.step (a0:List Qc) (p1:Qc->Option Bool):Zc.S->Option (Zc.S ⊕ Int)
 | .l1 Qy=>Zc.l1 a0 p1 Qy
def Zc (a0:List Qc) (p1:Qc->Option Bool):Option Int:=
 Xb (Zc.step a0 p1) (.l1 0)
def Qbe (a0:List Qc) (p1:Qc->Option Bool):Option Bool:=
 (Zc a0 p1).bind fun v1=>
 some (decide (v1>=0))
def Qgg (a0:Qc):Option Bool:=
 (Qbn a0.M).bind fun v1=>
 some (!v1)
inductive Xc.S where
 | l1 (Wq:Int)
def Xc.j1 (Wq:Int) (Qrj:Bool):Option (Xc.S ⊕ Bool):=
 if Qrj=true then
  some (.inr false)
 else
  some (.inl (.l1 (IntKind.wrap .i64 (Wq+1))))
def Xc.l1 (a0:List Qa) (Wq:Int):Option (Xc.S ⊕ Bool):=
 if Wq < (a0.length:Int) then
  if 0<=Wq/\Wq < (a0.length:Int) then
   if ((a0.getD Wq.toNat Qa.z).Key) < 0 then
    Xc.j1 Wq true
   else
    if ((a0.getD Wq.toNat Qa.z).Key)>=4096 then
     Xc.j1 Wq true
    else
     if ((a0.getD Wq.toNat Qa.z).Val) < (-1099511627776) then
      Xc.j1 Wq true
     else
      if ((a0.getD Wq.toNat Qa.z).Val) > 1099511627776 then
       Xc.j1 Wq true
      else
       if Wq > 0 then
        if 0<=(IntKind.wrap .i64 (Wq - 1))/\(IntKind.wrap .i64 (Wq - 1)) < (a0.length:Int) then
         Xc.j1 Wq (decide (((a0.getD ((IntKind.wrap .i64 (Wq - 1)).toNat) Qa.z).Key)>=((a0.getD Wq.toNat Qa.z).Key)))
        else none
       else
        Xc.j1 Wq false
  else none
 else
  some (.inr true)
def Xc.step (a0:List Qa):Xc.S->Option (Xc.S ⊕ Bool)
 | .l1 Wq=>Xc.l1 a0 Wq
def Xc (a0:List Qa):Option Bool:=
 Xb (Xc.step a0) (.l1 0)
inductive Xv.S where
 | l1 (Wy:Int) (Qab:Int) (Xi:List Qa)
def Xv.j1 (Qab:Int) (Qln:Int) (Qkf:List Qa):Option (Xv.S ⊕ (List Qa)):=
 some (.inl (.l1 Qln (IntKind.wrap .i64 (Qab+1)) Qkf))
def Xv.l1 (p1:Qa->Option Bool) (Wy:Int) (Qab:Int) (Xi:List Qa):Option (Xv.S ⊕ (List Qa)):=
 if Qab < (Xi.length:Int) then
  if 0<=Qab/\Qab < (Xi.length:Int) then
   (p1 (Xi.getD Qab.toNat Qa.z)).bind fun v2=>
   if v2=true then
    Xv.j1 Qab Wy Xi
   else
    if 0<=Wy/\Wy < (Xi.length:Int) then
     Xv.j1 Qab (IntKind.wrap .i64 (Wy+1)) (Xi.set Wy.toNat (Xi.getD Qab.toNat Qa.z))
    else none
  else none
 else
  if 0<=Wy/\Wy<=(Xi.length:Int) then
   some (.inr (Xi.take Wy.toNat))
  else none
def Xv.step (p1:Qa->Option Bool):Xv.S->Option (Xv.S ⊕ (List Qa))
 | .l1 Wy Qab Xi=>Xv.l1 p1 Wy Qab Xi
def Xv (a0:List Qa) (p1:Qa->Option Bool):Option (List Qa):=
 (Zj a0 p1).bind fun v1=>
 if v1=(-1) then
  some a0
 else
  Xb (Xv.step p1) (.l1 v1 (IntKind.wrap .i64 (v1+1)) a0)
def Qcr.j1 (Qg6:Bool):Bool:=
 Qg6
def Qcr (a0:Qb) (k0:Int):Bool:=
 if (Qbc a0)=true then
  if k0>=a0.Lo then
   Qcr.j1 (decide (k0 < a0.Hi))
  else
   Qcr.j1 false
 else
  Qcr.j1 false
def Qfm (a0:List Qb) (a1:Int):Option Bool:=
 (Qbq a0 (fun z0=>some (Qcr z0 a1))).bind fun v1=>
 some v1
def Qds.j1 (Qdj:Bool):Option Bool:=
 some Qdj
def Qds (a0:Qa) (k0:Qb) (k1:List Qb):Option Bool:=
 if a0.Key>=k0.Lo then
  if a0.Key < k0.Hi then
   (Qfm k1 a0.Key).bind fun v1=>
   Qds.j1 v1
  else
   Qds.j1 false
 else
  Qds.j1 false
def Qjw (a0:List Qa) (a1:Qb) (a2:List Qb):Option (List Qa):=
 (Xv a0 (fun z0=>Qds z0 a1 a2)).bind fun v1=>
 some v1
def Qfa.j1 (Qcq:Bool):Option Bool:=
 some Qcq
def Qfa (a0:Qu):Option Bool:=
 (Qbn a0).bind fun v1=>
 if v1=true then
  if a0.Kind=3 then
   Qfa.j1 true
  else
   Qfa.j1 (a0.Kind == 4)
 else
  Qfa.j1 false
inductive Wv.S where
 | l1 (Jy:Int) (Wu:Int)
def Wv.j1 (Jy:Int) (Qky:Bool):Option (Wv.S ⊕ (Int × Bool)):=
 some (.inr (Jy,Qky))
def Wv.l1 (a0:List Qa) (a1:Int) (p2:Qa->Int->Option Int) (Jy:Int) (Wu:Int):Option (Wv.S ⊕ (Int × Bool)):=
 if Jy < Wu then
  bnd (IntKind.wrap .i64 (Int.fdiv (IntKind.wrap .u64 (IntKind.wrap .i64 (Jy+Wu))) 2)) fun (v2:Int)=>
  if 0<=v2/\v2 < (a0.length:Int) then
   (p2 (a0.getD v2.toNat Qa.z) a1).bind fun v3=>
   if v3 < 0 then
    some (.inl (.l1 (IntKind.wrap .i64 (v2+1)) Wu))
   else
    some (.inl (.l1 Jy v2))
  else none
 else
  if Jy < (a0.length:Int) then
   if 0<=Jy/\Jy < (a0.length:Int) then
    (p2 (a0.getD Jy.toNat Qa.z) a1).bind fun v1=>
    Wv.j1 Jy (v1 == 0)
   else none
  else
   Wv.j1 Jy false
def Wv.step (a0:List Qa) (a1:Int) (p2:Qa->Int->Option Int):Wv.S->Option (Wv.S ⊕ (Int × Bool))
 | .l1 Jy Wu=>Wv.l1 a0 a1 p2 Jy Wu
def Wv (a0:List Qa) (a1:Int) (p2:Qa->Int->Option Int):Option (Int × Bool):=
 Xb (Wv.step a0 a1 p2) (.l1 0 (a0.length:Int))
def Qfu (a0:Qa) (a1:Int):Int:=
 Yf a0.Key a1
def Qgp (a0:List Qa) (a1:Int):Option (Int × Bool):=
 (Wv a0 a1 (fun z0 z1=>some (Qfu z0 z1))).bind fun v1=>
 some (v1.1,v1.2)
def Qhf (a0:List Qa) (a1:Int):Option (Int × Bool):=
 (Qgp a0 a1).bind fun v1=>
 if v1.2=true then
  if 0<=v1.1/\v1.1 < (a0.length:Int) then
   some ((a0.getD v1.1.toNat Qa.z).Val,true)
  else none
 else
  some (0,false)
def Qel (a0:List Qa) (a1:Int) (a2:Int):Option (List Qa):=
 (Qgp a0 a1).bind fun v1=>
 if v1.2=true then
  if 0<=v1.1/\v1.1 < (a0.length:Int) then
   some (a0.set v1.1.toNat (⟨(a0.getD v1.1.toNat Qa.z).Key,a2⟩:Qa))
  else none
 else
  if (0<=v1.1/\v1.1<=(a0.length:Int))/\(a0.length+1) * 16<=140737488355328 then
   some (a0.take v1.1.toNat ++ (⟨a1,a2⟩:Qa) :: a0.drop v1.1.toNat)
  else none
def Jp.j1 (a0:List Qa) (a1:Qu) (v1:Int × Bool) (Qgr:Bool):Option ((List Qa) × Bool):=
 if Qgr=true then
  some (a0,false)
 else
  (Qel a0 ((a1.Pairs.getD 0 Qa.z).Key) (IntKind.wrap .i64 (v1.1+((a1.Pairs.getD 0 Qa.z).Val)))).bind fun v2=>
  some (v2,true)
def Jp.j2 (a0:List Qa) (a1:Qu) (Qsu:Int):Option ((List Qa) × Bool):=
 if Qsu=a1.Old then
  (Qel a0 ((a1.Pairs.getD 0 Qa.z).Key) ((a1.Pairs.getD 0 Qa.z).Val)).bind fun v3=>
  some (v3,true)
 else
  some (a0,false)
def Jp (a0:List Qa) (a1:Qu):Option ((List Qa) × Bool):=
 if (0:Int)<=0/\0 < (a1.Pairs.length:Int) then
  (Qhf a0 ((a1.Pairs.getD 0 Qa.z).Key)).bind fun v1=>
  if a1.Kind=3 then
   if (IntKind.wrap .i64 (v1.1+((a1.Pairs.getD 0 Qa.z).Val))) < 0 then
    Jp.j1 a0 a1 v1 true
   else
    Jp.j1 a0 a1 v1 (decide ((IntKind.wrap .i64 (v1.1+((a1.Pairs.getD 0 Qa.z).Val))) > 1099511627776))
  else
   if v1.2=true then
    Jp.j2 a0 a1 v1.1
   else
    Jp.j2 a0 a1 1099511627777
 else none
def Qf7 (a0:List Qa) (a1:Int) (a2:Int):Option (List Qa):=
 (Qhf a0 a1).bind fun v1=>
 (Qel a0 a1 (Qgf (Qeo (IntKind.wrap .i64 (v1.1+a2)) (-1099511627776)) 1099511627776)).bind fun v2=>
 some v2
inductive Wi.S where
 | l1 (Jg:Int) (Xi:List Qa)
def Wi.j2 (Jg:Int) (Qlw:List Qa):Option (Wi.S ⊕ ((List Qa) × Bool)):=
 some (.inl (.l1 (IntKind.wrap .i64 (Jg+1)) Qlw))
def Wi.l1 (a1:Qu) (a2:List Qb) (Jg:Int) (Xi:List Qa):Option (Wi.S ⊕ ((List Qa) × Bool)):=
 if Jg < (a1.Pairs.length:Int) then
  if 0<=Jg/\Jg < (a1.Pairs.length:Int) then
   (Qfm a2 ((a1.Pairs.getD Jg.toNat Qa.z).Key)).bind fun v8=>
   if v8=true then
    if a1.Kind=1 then
     (Qel Xi ((a1.Pairs.getD Jg.toNat Qa.z).Key) ((a1.Pairs.getD Jg.toNat Qa.z).Val)).bind fun v9=>
     Wi.j2 Jg v9
    else
     if Jg=0 then
      (Qf7 Xi ((a1.Pairs.getD Jg.toNat Qa.z).Key) (IntKind.wrap .i64 (0 - ((a1.Pairs.getD Jg.toNat Qa.z).Val)))).bind fun v10=>
      Wi.j2 Jg v10
     else
      (Qf7 Xi ((a1.Pairs.getD Jg.toNat Qa.z).Key) ((a1.Pairs.getD Jg.toNat Qa.z).Val)).bind fun v11=>
      Wi.j2 Jg v11
   else
    Wi.j2 Jg Xi
  else none
 else
  some (.inr (Xi,true))
def Wi.step (a1:Qu) (a2:List Qb):Wi.S->Option (Wi.S ⊕ ((List Qa) × Bool))
 | .l1 Jg Xi=>Wi.l1 a1 a2 Jg Xi
def Wi.j1 (a0:List Qa) (a1:Qu) (a2:List Qb) (Qrd:Bool):Option ((List Qa) × Bool):=
 if Qrd=true then
  some (([]:List Qa),false)
 else
  if a0.length * 16<=140737488355328 then
   if a1.Kind=2 then
    (Qjw a0 a1.Over a2).bind fun v4=>
    some (v4,true)
   else
    (Qfa a1).bind fun v5=>
    if v5=true then
     if (0:Int)<=0/\0 < (a1.Pairs.length:Int) then
      (Qfm a2 ((a1.Pairs.getD 0 Qa.z).Key)).bind fun v6=>
      if v6=true then
       (Jp a0 a1).bind fun v7=>
       some (v7.1,v7.2)
      else
       some (a0,true)
     else none
    else
     Xb (Wi.step a1 a2) (.l1 0 a0)
  else none
def Wi (a0:List Qa) (a1:Qu) (a2:List Qb):Option ((List Qa) × Bool):=
 (Xc a0).bind fun v1=>
 if v1=true then
  (Qbn a1).bind fun v2=>
  if v2=true then
   (Zg a2).bind fun v3=>
   Wi.j1 a0 a1 a2 (!v3)
  else
   Wi.j1 a0 a1 a2 true
 else
  Wi.j1 a0 a1 a2 true
inductive Yu.S where
 | l1 (Qbi:Int) (Qh:List Qa)
def Yu.j3 (Qbi:Int) (Qlx:List Qa):Option (Yu.S ⊕ (List Qa)):=
 some (.inl (.l1 (IntKind.wrap .i64 (Qbi+1)) Qlx))
def Yu.j2 (a0:List Qc) (a1:List Qb) (Qbi:Int) (Qh:List Qa) (Qrp:Bool):Option (Yu.S ⊕ (List Qa)):=
 if Qrp=true then
  (Wi Qh ((a0.getD Qbi.toNat Qc.z).M) a1).bind fun v3=>
  Yu.j3 Qbi v3.1
 else
  Yu.j3 Qbi Qh
def Yu.l1 (a0:List Qc) (a1:List Qb) (a2:Int) (Qbi:Int) (Qh:List Qa):Option (Yu.S ⊕ (List Qa)):=
 if Qbi < (a0.length:Int) then
  if 0<=Qbi/\Qbi < (a0.length:Int) then
   if ((a0.getD Qbi.toNat Qc.z).Jc)=true then
    Yu.j2 a0 a1 Qbi Qh (decide (((a0.getD Qbi.toNat Qc.z).Time)<=a2))
   else
    Yu.j2 a0 a1 Qbi Qh false
  else none
 else
  some (.inr Qh)
def Yu.step (a0:List Qc) (a1:List Qb) (a2:Int):Yu.S->Option (Yu.S ⊕ (List Qa))
 | .l1 Qbi Qh=>Yu.l1 a0 a1 a2 Qbi Qh
def Yu.j1 (a0:List Qc) (a1:List Qb) (a2:Int) (Qra:Bool):Option (List Qa):=
 if Qra=true then
  some ([]:List Qa)
 else
  Xb (Yu.step a0 a1 a2) (.l1 0 ([]:List Qa))
def Yu (a0:List Qc) (a1:List Qb) (a2:Int):Option (List Qa):=
 (Zg a1).bind fun v1=>
 if v1=true then
  (Qbe a0 (fun z0=>Qgg z0)).bind fun v2=>
  Yu.j1 a0 a1 a2 v2
 else
  Yu.j1 a0 a1 a2 true
inductive Zx.S where
 | l1 (Qy:Int)
def Zx.l1 (a0:List Qu) (p1:Qu->Option Bool) (Qy:Int):Option (Zx.S ⊕ Int):=
 if Qy < (a0.length:Int) then
  if 0<=Qy/\Qy < (a0.length:Int) then
   (p1 (a0.getD Qy.toNat Qu.z)).bind fun v1=>
   if v1=true then
    some (.inr Qy)
   else
    some (.inl (.l1 (IntKind.wrap .i64 (Qy+1))))
  else none
 else
  some (.inr (-1))
def Zx.step (a0:List Qu) (p1:Qu->Option Bool):Zx.S->Option (Zx.S ⊕ Int)
 | .l1 Qy=>Zx.l1 a0 p1 Qy
def Zx (a0:List Qu) (p1:Qu->Option Bool):Option Int:=
 Xb (Zx.step a0 p1) (.l1 0)
def Qb8 (a0:List Qu) (p1:Qu->Option Bool):Option Bool:=
 (Zx a0 p1).bind fun v1=>
 some (decide (v1>=0))
def Qgh (a0:Qu):Option Bool:=
 (Qbn a0).bind fun v1=>
 some (!v1)
inductive Jn.S where
 | l1 (Qdy:Int) (Qh:List Qa)
def Jn.l1 (a1:List Qu) (a2:List Qb) (Qdy:Int) (Qh:List Qa):Option (Jn.S ⊕ (List Qa)):=
 if Qdy < (a1.length:Int) then
  if 0<=Qdy/\Qdy < (a1.length:Int) then
   (Wi Qh (a1.getD Qdy.toNat Qu.z) a2).bind fun v4=>
   some (.inl (.l1 (IntKind.wrap .i64 (Qdy+1)) v4.1))
  else none
 else
  some (.inr Qh)
def Jn.step (a1:List Qu) (a2:List Qb):Jn.S->Option (Jn.S ⊕ (List Qa))
 | .l1 Qdy Qh=>Jn.l1 a1 a2 Qdy Qh
def Jn.j1 (a0:List Qa) (a1:List Qu) (a2:List Qb) (Qk6:Bool):Option (List Qa):=
 if Qk6=true then
  some ([]:List Qa)
 else
  if a0.length * 16<=140737488355328 then
   Xb (Jn.step a1 a2) (.l1 0 a0)
  else none
def Jn (a0:List Qa) (a1:List Qu) (a2:List Qb):Option (List Qa):=
 (Xc a0).bind fun v1=>
 if v1=true then
  (Zg a2).bind fun v2=>
  if v2=true then
   (Qb8 a1 (fun z0=>Qgh z0)).bind fun v3=>
   Jn.j1 a0 a1 a2 v3
  else
   Jn.j1 a0 a1 a2 true
 else
  Jn.j1 a0 a1 a2 true
def Qcb.j1 (Qg6:Bool):Bool:=
 Qg6
def Qcb (a0:Qc) (k0:Qc):Bool:=
 if a0.M.Client=k0.M.Client then
  Qcb.j1 (decide (a0.M.Seq>=k0.M.Seq))
 else
  Qcb.j1 false
inductive Jo.S where
 | l1 (Wq:Int)
def Jo.l1 (a0:List Qc) (Wq:Int):Option (Jo.S ⊕ Bool):=
 if Wq < (a0.length:Int) then
  if 0<=Wq/\Wq < (a0.length:Int) then
   if 0<=(0:Int)/\(0:Int)<=Wq/\Wq<=(a0.length:Int) then
    (Qbe ((a0.drop 0).take (Wq.toNat - 0)) (fun z0=>some (Qcb z0 (a0.getD Wq.toNat Qc.z)))).bind fun v1=>
    if v1=true then
     some (.inr false)
    else
     some (.inl (.l1 (IntKind.wrap .i64 (Wq+1))))
   else none
  else none
 else
  some (.inr true)
def Jo.step (a0:List Qc):Jo.S->Option (Jo.S ⊕ Bool)
 | .l1 Wq=>Jo.l1 a0 Wq
def Jo (a0:List Qc):Option Bool:=
 Xb (Jo.step a0) (.l1 0)
def Qk.j1 (Quq:Bool):Option Bool:=
 some Quq
def Qk:Option Bool:=
 bnd (Qbk 1 5 1) fun (v1:Qu)=>
 bnd (Qbk 3 5 2) fun (v2:Qu)=>
 (Yu ([(⟨(⟨v1.Client,v1.Seq,v1.Kind,v1.Pairs,(v1.Over),v1.Old⟩:Qu),3,true⟩:Qc),(⟨(⟨v2.Client,v2.Seq,v2.Kind,v2.Pairs,(v2.Over),v2.Old⟩:Qu),4,true⟩:Qc)]:List Qc) ([(⟨0,9⟩:Qb)]:List Qb) 3).bind fun v3=>
 (Yu ([(⟨(⟨v1.Client,v1.Seq,v1.Kind,v1.Pairs,(v1.Over),v1.Old⟩:Qu),3,true⟩:Qc),(⟨(⟨v2.Client,v2.Seq,v2.Kind,v2.Pairs,(v2.Over),v2.Old⟩:Qu),4,true⟩:Qc)]:List Qc) ([(⟨0,9⟩:Qb)]:List Qb) 9).bind fun v4=>
 bnd (Qbk 3 5 4) fun (v5:Qu)=>
 (Jn v4 ([v5]:List Qu) ([(⟨0,9⟩:Qb)]:List Qb)).bind fun v6=>
 if (v3.length:Int)=1 then
  if (0:Int)<=0/\0 < (v3.length:Int) then
   if ((v3.getD 0 Qa.z).Val)=1 then
    if (v4.length:Int)=1 then
     if (0:Int)<=0/\0 < (v4.length:Int) then
      if ((v4.getD 0 Qa.z).Val)=3 then
       if (v6.length:Int)=1 then
        if (0:Int)<=0/\0 < (v6.length:Int) then
         if ((v6.getD 0 Qa.z).Val)=7 then
          (Jo ([(⟨(⟨v1.Client,v1.Seq,v1.Kind,v1.Pairs,(v1.Over),v1.Old⟩:Qu),3,true⟩:Qc),(⟨(⟨v2.Client,v2.Seq,v2.Kind,v2.Pairs,(v2.Over),v2.Old⟩:Qu),4,true⟩:Qc)]:List Qc)).bind fun v7=>
          Qk.j1 v7
         else
          Qk.j1 false
        else none
       else
        Qk.j1 false
      else
       Qk.j1 false
     else none
    else
     Qk.j1 false
   else
    Qk.j1 false
  else none
 else
  Qk.j1 false
inductive Wt.S where
 | l1 (Xe:Int)
 | l2 (Qby:Int)
def Wt.j2 (Xe:Int) (Qrq:Bool):Option (Wt.S ⊕ Bool):=
 if Qrq=true then
  some (.inr false)
 else
  some (.inl (.l1 (IntKind.wrap .i64 (Xe+1))))
def Wt.l1 (a0:Qf) (Xe:Int):Option (Wt.S ⊕ Bool):=
 if Xe < (a0.Held.length:Int) then
  if 0<=Xe/\Xe < (a0.Held.length:Int) then
   if ((((a0.Held.getD Xe.toNat Qr.z).M).Pairs).length:Int) > 20 then
    Wt.j2 Xe true
   else
    Wt.j2 Xe (decide ((((a0.Held.getD Xe.toNat Qr.z).Qep).length:Int) > 30))
  else none
 else
  some (.inl (.l2 0))
def Wt.l2 (a0:Qf) (Qby:Int):Option (Wt.S ⊕ Bool):=
 if Qby < (a0.Log.length:Int) then
  if 0<=Qby/\Qby < (a0.Log.length:Int) then
   if ((((a0.Log.getD Qby.toNat Qc.z).M).Pairs).length:Int) > 20 then
    some (.inr false)
   else
    some (.inl (.l2 (IntKind.wrap .i64 (Qby+1))))
  else none
 else
  some (.inr true)
def Wt.step (a0:Qf):Wt.S->Option (Wt.S ⊕ Bool)
 | .l1 Xe=>Wt.l1 a0 Xe
 | .l2 Qby=>Wt.l2 a0 Qby
def Wt.j1 (a0:Qf) (Qne:Bool):Option Bool:=
 if Qne=true then
  some false
 else
  Xb (Wt.step a0) (.l1 0)
def Wt (a0:Qf):Option Bool:=
 if (a0.Held.length:Int) > 30 then
  Wt.j1 a0 true
 else
  if (a0.Log.length:Int) > 40 then
   Wt.j1 a0 true
  else
   if (a0.Qw.length:Int) > 60 then
    Wt.j1 a0 true
   else
    Wt.j1 a0 (decide ((a0.Base.length:Int) > 60))
inductive Jm.S where
 | l1 (Xe:Int)
def Jm.j1 (Xe:Int) (Qrc:Bool):Option (Jm.S ⊕ Bool):=
 if Qrc=true then
  some (.inr false)
 else
  some (.inl (.l1 (IntKind.wrap .i64 (Xe+1))))
def Jm.l1 (a0:List Qf) (Xe:Int):Option (Jm.S ⊕ Bool):=
 if Xe < (a0.length:Int) then
  if Xe > 6 then
   Jm.j1 Xe true
  else
   if 0<=Xe/\Xe < (a0.length:Int) then
    (Wt (a0.getD Xe.toNat Qf.z)).bind fun v1=>
    Jm.j1 Xe (!v1)
   else none
 else
  some (.inr true)
def Jm.step (a0:List Qf):Jm.S->Option (Jm.S ⊕ Bool)
 | .l1 Xe=>Jm.l1 a0 Xe
def Jm (a0:List Qf):Option Bool:=
 Xb (Jm.step a0) (.l1 0)
def Qav.j1 (Qjl:Bool):Bool:=
 Qjl
def Qav (a0:Int) (a1:Int) (a2:Int):Bool:=
 if a0>=a1 then
  Qav.j1 (decide (a0<=a2))
 else
  Qav.j1 false
def Qdn (a0:Int):Bool:=
 Qav a0 0 1099511627775
def Qay (a0:Qf):List Qb:=
 ([a0.Keys]:List Qb)
inductive Jf.S where
 | l1 (Qbo:Int) (Qh:List Qa)
def Jf.j2 (Qbo:Int) (Qfo:List Qa):Option (Jf.S ⊕ (List Qa)):=
 some (.inl (.l1 (IntKind.wrap .i64 (Qbo+1)) Qfo))
def Jf.l1 (a0:List Qa) (a1:List Qb) (Qbo:Int) (Qh:List Qa):Option (Jf.S ⊕ (List Qa)):=
 if Qbo < (a0.length:Int) then
  if 0<=Qbo/\Qbo < (a0.length:Int) then
   (Qfm a1 ((a0.getD Qbo.toNat Qa.z).Key)).bind fun v3=>
   if v3=true then
    if (Qh.length+1) * 16<=140737488355328 then
     Jf.j2 Qbo (Qh ++ [(a0.getD Qbo.toNat Qa.z)])
    else none
   else
    Jf.j2 Qbo Qh
  else none
 else
  some (.inr Qh)
def Jf.step (a0:List Qa) (a1:List Qb):Jf.S->Option (Jf.S ⊕ (List Qa))
 | .l1 Qbo Qh=>Jf.l1 a0 a1 Qbo Qh
def Jf.j1 (a0:List Qa) (a1:List Qb) (Qq9:Bool):Option (List Qa):=
 if Qq9=true then
  some ([]:List Qa)
 else
  Xb (Jf.step a0 a1) (.l1 0 ([]:List Qa))
def Jf (a0:List Qa) (a1:List Qb):Option (List Qa):=
 (Xc a0).bind fun v1=>
 if v1=true then
  (Zg a1).bind fun v2=>
  Jf.j1 a0 a1 (!v2)
 else
  Jf.j1 a0 a1 true
def Qc9 (a0:Ql) (a1:Ql):Option Int:=
 (Jt ([Yf a0.Client a1.Client,Yf a0.Seq a1.Seq]:List Int)).bind fun v1=>
 some v1
inductive Xm.S where
 | l1 (Qy:Int)
def Xm.j1 (Qy:Int) (Qri:Bool):Option (Xm.S ⊕ Bool):=
 if Qri=true then
  some (.inr false)
 else
  some (.inl (.l1 (IntKind.wrap .i64 (Qy+1))))
def Xm.l1 (a0:Qf) (Qy:Int):Option (Xm.S ⊕ Bool):=
 if Qy < (a0.Qw.length:Int) then
  if 0<=Qy/\Qy < (a0.Qw.length:Int) then
   if (Qav ((a0.Qw.getD Qy.toNat Ql.z).Client) 1 1048576)=true then
    if (Qav ((a0.Qw.getD Qy.toNat Ql.z).Seq) 1 1073741824)=true then
     if (Qdn ((a0.Qw.getD Qy.toNat Ql.z).Time))=true then
      if Qy > 0 then
       if 0<=(IntKind.wrap .i64 (Qy - 1))/\(IntKind.wrap .i64 (Qy - 1)) < (a0.Qw.length:Int) then
        (Qc9 (a0.Qw.getD ((IntKind.wrap .i64 (Qy - 1)).toNat) Ql.z) (a0.Qw.getD Qy.toNat Ql.z)).bind fun v1=>
        Xm.j1 Qy (decide (v1>=0))
       else none
      else
       Xm.j1 Qy false
     else
      Xm.j1 Qy true
    else
     Xm.j1 Qy true
   else
    Xm.j1 Qy true
  else none
 else
  some (.inr true)
def Xm.step (a0:Qf):Xm.S->Option (Xm.S ⊕ Bool)
 | .l1 Qy=>Xm.l1 a0 Qy
def Xm (a0:Qf):Option Bool:=
 Xb (Xm.step a0) (.l1 0)
inductive Qa0.S where
 | l1 (Zw:Int) (Qh:List Qb)
def Qa0.l1 (a0:Qu) (Zw:Int) (Qh:List Qb):Option (Qa0.S ⊕ (List Qb)):=
 if Zw < (a0.Pairs.length:Int) then
  if 0<=Zw/\Zw < (a0.Pairs.length:Int) then
   if (Qh.length+1) * 16<=140737488355328 then
    some (.inl (.l1 (IntKind.wrap .i64 (Zw+1)) (Qh ++ [(⟨(a0.Pairs.getD Zw.toNat Qa.z).Key,IntKind.wrap .i64 (((a0.Pairs.getD Zw.toNat Qa.z).Key)+1)⟩:Qb)])))
   else none
  else none
 else
  (Qv Qh).bind fun v2=>
  some (.inr v2.1)
def Qa0.step (a0:Qu):Qa0.S->Option (Qa0.S ⊕ (List Qb))
 | .l1 Zw Qh=>Qa0.l1 a0 Zw Qh
def Qa0 (a0:Qu):Option (List Qb):=
 (Qbn a0).bind fun v1=>
 if v1=true then
  if a0.Kind=2 then
   some ([a0.Over]:List Qb)
  else
   Xb (Qa0.step a0) (.l1 0 ([]:List Qb))
 else
  some ([]:List Qb)
inductive Qak.S where
 | l1 (Yv:Int) (Qh:List Qb)
 | l2 (Qea:Int) (Qax:Int) (Ja:List Qb) (Yq:Int) (Xx:Int)
def Qak.j1 (Qea:Int) (Qax:Int) (Yq:Int) (Xx:Int) (Qlv:List Qb):Option (Qak.S ⊕ (List Qb)):=
 some (.inl (.l2 Qea (IntKind.wrap .i64 (Qax+1)) Qlv Yq Xx))
def Qak.l1 (a0:List Qb) (Yv:Int) (Qh:List Qb):Option (Qak.S ⊕ (List Qb)):=
 if Yv < (a0.length:Int) then
  if 0<=Yv/\Yv < (a0.length:Int) then
   some (.inl (.l2 Yv 0 Qh ((a0.getD Yv.toNat Qb.z).Lo) ((a0.getD Yv.toNat Qb.z).Hi)))
  else none
 else
  some (.inr Qh)
def Qak.l2 (a1:List Qb) (Qea:Int) (Qax:Int) (Ja:List Qb) (Yq:Int) (Xx:Int):Option (Qak.S ⊕ (List Qb)):=
 if Qax < (a1.length:Int) then
  if 0<=Qax/\Qax < (a1.length:Int) then
   if (Qeo Yq ((a1.getD Qax.toNat Qb.z).Lo)) < (Qgf Xx ((a1.getD Qax.toNat Qb.z).Hi)) then
    if (Ja.length+1) * 16<=140737488355328 then
     Qak.j1 Qea Qax Yq Xx (Ja ++ [(⟨Qeo Yq ((a1.getD Qax.toNat Qb.z).Lo),Qgf Xx ((a1.getD Qax.toNat Qb.z).Hi)⟩:Qb)])
    else none
   else
    Qak.j1 Qea Qax Yq Xx Ja
  else none
 else
  some (.inl (.l1 (IntKind.wrap .i64 (Qea+1)) Ja))
def Qak.step (a0:List Qb) (a1:List Qb):Qak.S->Option (Qak.S ⊕ (List Qb))
 | .l1 Yv Qh=>Qak.l1 a0 Yv Qh
 | .l2 Qea Qax Ja Yq Xx=>Qak.l2 a1 Qea Qax Ja Yq Xx
def Qak (a0:List Qb) (a1:List Qb):Option (List Qb):=
 Xb (Qak.step a0 a1) (.l1 0 ([]:List Qb))
def Qdc.j1 (Qdj:Bool):Option Bool:=
 some Qdj
def Qdc (a0:List Qb) (a1:List Qb):Option Bool:=
 (Zg a0).bind fun v1=>
 if v1=true then
  (Zg a1).bind fun v2=>
  if v2=true then
   (Qak a0 a1).bind fun v3=>
   Qdc.j1 (decide ((v3.length:Int) > 0))
  else
   Qdc.j1 false
 else
  Qdc.j1 false
def Qfp (a0:Qf) (a1:Qu):Option Bool:=
 (Qa0 a1).bind fun v1=>
 bnd (Qay a0) fun (v2:List Qb)=>
 (Qdc v1 v2).bind fun v3=>
 some v3
inductive Xk.S where
 | l1 (Jy:Int) (Wu:Int)
def Xk.j1 (Jy:Int) (Qky:Bool):Option (Xk.S ⊕ (Int × Bool)):=
 some (.inr (Jy,Qky))
def Xk.l1 (a0:List Ql) (a1:Ql) (p2:Ql->Ql->Option Int) (Jy:Int) (Wu:Int):Option (Xk.S ⊕ (Int × Bool)):=
 if Jy < Wu then
  bnd (IntKind.wrap .i64 (Int.fdiv (IntKind.wrap .u64 (IntKind.wrap .i64 (Jy+Wu))) 2)) fun (v2:Int)=>
  if 0<=v2/\v2 < (a0.length:Int) then
   (p2 (a0.getD v2.toNat Ql.z) a1).bind fun v3=>
   if v3 < 0 then
    some (.inl (.l1 (IntKind.wrap .i64 (v2+1)) Wu))
   else
    some (.inl (.l1 Jy v2))
  else none
 else
  if Jy < (a0.length:Int) then
   if 0<=Jy/\Jy < (a0.length:Int) then
    (p2 (a0.getD Jy.toNat Ql.z) a1).bind fun v1=>
    Xk.j1 Jy (v1 == 0)
   else none
  else
   Xk.j1 Jy false
def Xk.step (a0:List Ql) (a1:Ql) (p2:Ql->Ql->Option Int):Xk.S->Option (Xk.S ⊕ (Int × Bool))
 | .l1 Jy Wu=>Xk.l1 a0 a1 p2 Jy Wu
def Xk (a0:List Ql) (a1:Ql) (p2:Ql->Ql->Option Int):Option (Int × Bool):=
 Xb (Xk.step a0 a1 p2) (.l1 0 (a0.length:Int))
def Qg9 (a0:Qf) (a1:Int) (a2:Int):Option (Int × Bool):=
 (Xk a0.Qw (⟨a1,a2,0,false⟩:Ql) (fun z0 z1=>Qc9 z0 z1)).bind fun v1=>
 some (v1.1,v1.2)
inductive Wn.S where
 | l1 (Wu:Int)
def Wn.j3 (Wu:Int) (Qnh:Bool):Option (Wn.S ⊕ Bool):=
 if Qnh=true then
  some (.inr false)
 else
  some (.inl (.l1 (IntKind.wrap .i64 (Wu+1))))
def Wn.j2 (a0:Qf) (Wu:Int) (Qi3:Bool):Option (Wn.S ⊕ Bool):=
 if Qi3=true then
  some (.inr false)
 else
  (Qg9 a0 (((a0.Log.getD Wu.toNat Qc.z).M).Client) (((a0.Log.getD Wu.toNat Qc.z).M).Seq)).bind fun v4=>
  if v4.2=true then
   if 0<=v4.1/\v4.1 < (a0.Qw.length:Int) then
    if ((a0.Qw.getD v4.1.toNat Ql.z).Time)=((a0.Log.getD Wu.toNat Qc.z).Time) then
     Wn.j3 Wu (!(((a0.Qw.getD v4.1.toNat Ql.z).Jc) == ((a0.Log.getD Wu.toNat Qc.z).Jc)))
    else
     Wn.j3 Wu true
   else none
  else
   Wn.j3 Wu true
def Wn.j1 (a0:Qf) (Wu:Int) (Qrh:Bool):Option (Wn.S ⊕ Bool):=
 if Qrh=true then
  some (.inr false)
 else
  if Wu > 0 then
   if 0<=(IntKind.wrap .i64 (Wu - 1))/\(IntKind.wrap .i64 (Wu - 1)) < (a0.Log.length:Int) then
    (Qbs (Qbg ((a0.Log.getD ((IntKind.wrap .i64 (Wu - 1)).toNat) Qc.z).Time) ((a0.Log.getD ((IntKind.wrap .i64 (Wu - 1)).toNat) Qc.z).M)) (Qbg ((a0.Log.getD Wu.toNat Qc.z).Time) ((a0.Log.getD Wu.toNat Qc.z).M))).bind fun v3=>
    Wn.j2 a0 Wu (decide (v3>=0))
   else none
  else
   Wn.j2 a0 Wu false
def Wn.l1 (a0:Qf) (Wu:Int):Option (Wn.S ⊕ Bool):=
 if Wu < (a0.Log.length:Int) then
  if 0<=Wu/\Wu < (a0.Log.length:Int) then
   (Qbn ((a0.Log.getD Wu.toNat Qc.z).M)).bind fun v1=>
   if v1=true then
    (Qfp a0 ((a0.Log.getD Wu.toNat Qc.z).M)).bind fun v2=>
    if v2=true then
     Wn.j1 a0 Wu (!(Qav ((a0.Log.getD Wu.toNat Qc.z).Time) 0 a0.Clock))
    else
     Wn.j1 a0 Wu true
   else
    Wn.j1 a0 Wu true
  else none
 else
  some (.inr (decide ((a0.Log.length:Int)<=(a0.Qw.length:Int))))
def Wn.step (a0:Qf):Wn.S->Option (Wn.S ⊕ Bool)
 | .l1 Wu=>Wn.l1 a0 Wu
def Wn (a0:Qf):Option Bool:=
 Xb (Wn.step a0) (.l1 0)
inductive Zt.S where
 | l1 (Qy:Int)
def Zt.l1 (a0:List Qr) (p1:Qr->Option Bool) (Qy:Int):Option (Zt.S ⊕ Int):=
 if Qy < (a0.length:Int) then
  if 0<=Qy/\Qy < (a0.length:Int) then
   (p1 (a0.getD Qy.toNat Qr.z)).bind fun v1=>
   if v1=true then
    some (.inr Qy)
   else
    some (.inl (.l1 (IntKind.wrap .i64 (Qy+1))))
  else none
 else
  some (.inr (-1))
def Zt.step (a0:List Qr) (p1:Qr->Option Bool):Zt.S->Option (Zt.S ⊕ Int)
 | .l1 Qy=>Zt.l1 a0 p1 Qy
def Zt (a0:List Qr) (p1:Qr->Option Bool):Option Int:=
 Xb (Zt.step a0 p1) (.l1 0)
def Qdk.j1 (Qdj:Bool):Bool:=
 Qdj
def Qdk (a0:Qr) (k0:Int) (k1:Int):Bool:=
 if a0.M.Client=k0 then
  Qdk.j1 (a0.M.Seq == k1)
 else
  Qdk.j1 false
def Qjo (a0:Qf) (a1:Int) (a2:Int):Option Int:=
 (Zt a0.Held (fun z0=>some (Qdk z0 a1 a2))).bind fun v1=>
 some v1
def Qf3 (a0:Qr):Jh:=
 bnd (Qbg a0.Time a0.M) fun (v1:Jh)=>
 v1
inductive We.S where
 | l1 (Yj:Int)
def We.j2 (Yj:Int) (Qrr:Bool):Option (We.S ⊕ Bool):=
 if Qrr=true then
  some (.inr false)
 else
  some (.inl (.l1 (IntKind.wrap .i64 (Yj+1))))
def We.j1 (a0:Qf) (Yj:Int) (Qrk:Bool):Option (We.S ⊕ Bool):=
 if Qrk=true then
  some (.inr false)
 else
  (Qg9 a0 (((a0.Held.getD Yj.toNat Qr.z).M).Client) (((a0.Held.getD Yj.toNat Qr.z).M).Seq)).bind fun v4=>
  if v4.2=true then
   some (.inr false)
  else
   if (IntKind.wrap .i64 ((a0.Log.length:Int) - 1))>=0 then
    if 0<=(IntKind.wrap .i64 ((a0.Log.length:Int) - 1))/\(IntKind.wrap .i64 ((a0.Log.length:Int) - 1)) < (a0.Log.length:Int) then
     (Qbs (Qf3 (a0.Held.getD Yj.toNat Qr.z)) (Qbg ((a0.Log.getD ((IntKind.wrap .i64 ((a0.Log.length:Int) - 1)).toNat) Qc.z).Time) ((a0.Log.getD ((IntKind.wrap .i64 ((a0.Log.length:Int) - 1)).toNat) Qc.z).M))).bind fun v5=>
     We.j2 Yj (decide (v5 < 0))
    else none
   else
    We.j2 Yj false
def We.l1 (a0:Qf) (Yj:Int):Option (We.S ⊕ Bool):=
 if Yj < (a0.Held.length:Int) then
  if 0<=Yj/\Yj < (a0.Held.length:Int) then
   (Qbn ((a0.Held.getD Yj.toNat Qr.z).M)).bind fun v1=>
   if v1=true then
    (Qfp a0 ((a0.Held.getD Yj.toNat Qr.z).M)).bind fun v2=>
    if v2=true then
     if (Qav ((a0.Held.getD Yj.toNat Qr.z).Time) 1 a0.Clock)=true then
      (Qjo a0 (((a0.Held.getD Yj.toNat Qr.z).M).Client) (((a0.Held.getD Yj.toNat Qr.z).M).Seq)).bind fun v3=>
      We.j1 a0 Yj (v3 != Yj)
     else
      We.j1 a0 Yj true
    else
     We.j1 a0 Yj true
   else
    We.j1 a0 Yj true
  else none
 else
  some (.inr true)
def We.step (a0:Qf):We.S->Option (We.S ⊕ Bool)
 | .l1 Yj=>We.l1 a0 Yj
def We (a0:Qf):Option Bool:=
 Xb (We.step a0) (.l1 0)
def Yx.j3 (Qg7:Bool):Option Bool:=
 some Qg7
def Yx.j2 (a0:Qf) (Qi3:Bool):Option Bool:=
 if Qi3=true then
  some false
 else
  (Xm a0).bind fun v3=>
  if v3=true then
   (Wn a0).bind fun v4=>
   if v4=true then
    (We a0).bind fun v5=>
    Yx.j3 v5
   else
    Yx.j3 false
  else
   Yx.j3 false
def Yx.j1 (a0:Qf) (Qrf:Bool):Option Bool:=
 if Qrf=true then
  some false
 else
  (Xc a0.Base).bind fun v1=>
  if v1=true then
   (Jf a0.Base (Qay a0)).bind fun v2=>
   if (v2.length:Int)=(a0.Base.length:Int) then
    if a0.Qb6=true then
     if a0.Qdd=true then
      Yx.j2 a0 (decide ((a0.Held.length:Int) > 0))
     else
      Yx.j2 a0 true
    else
     Yx.j2 a0 false
   else
    Yx.j2 a0 true
  else
   Yx.j2 a0 true
def Yx (a0:Qf):Option Bool:=
 if (Qav a0.ID 1 65536)=true then
  if (Qbc a0.Keys)=true then
   if (Qdn a0.Clock)=true then
    Yx.j1 a0 (decide ((IntKind.wrap .i64 ((a0.Held.length:Int)+(a0.Qw.length:Int))) > 1000))
   else
    Yx.j1 a0 true
  else
   Yx.j1 a0 true
 else
  Yx.j1 a0 true
def Qek.j1 (Qdj:Bool):Bool:=
 Qdj
def Qek (a0:Qc) (a1:Qc):Bool:=
 if a0.M.Client=a1.M.Client then
  Qek.j1 (a0.M.Seq == a1.M.Seq)
 else
  Qek.j1 false
def Qer (a0:Qc) (k0:Qc):Bool:=
 Qek a0 k0
inductive Yz.S where
 | l1 (Yv:Int)
def Yz.l1 (a0:List Qa) (a1:List Qa) (Yv:Int):Option (Yz.S ⊕ Bool):=
 if Yv < (a0.length:Int) then
  if 0<=Yv/\Yv < (a0.length:Int) then
   if 0<=Yv/\Yv < (a1.length:Int) then
    if ((a0.getD Yv.toNat Qa.z).Key)=((a1.getD Yv.toNat Qa.z).Key) then
     if ((a0.getD Yv.toNat Qa.z).Val)=((a1.getD Yv.toNat Qa.z).Val) then
      some (.inl (.l1 (IntKind.wrap .i64 (Yv+1))))
     else
      some (.inr false)
    else
     if ((a0.getD Yv.toNat Qa.z).Val)=((a1.getD Yv.toNat Qa.z).Val) then
      some (.inr false)
     else
      some (.inr false)
   else none
  else none
 else
  some (.inr true)
def Yz.step (a0:List Qa) (a1:List Qa):Yz.S->Option (Yz.S ⊕ Bool)
 | .l1 Yv=>Yz.l1 a0 a1 Yv
def Yz (a0:List Qa) (a1:List Qa):Option Bool:=
 if (a0.length:Int)=(a1.length:Int) then
  Xb (Yz.step a0 a1) (.l1 0)
 else
  some false
def Qco.j1 (Qdj:Bool):Option Bool:=
 some Qdj
def Qco (a0:Qu) (a1:Qu):Option Bool:=
 if a0.Client=a1.Client then
  if a0.Seq=a1.Seq then
   if a0.Kind=a1.Kind then
    if a0.Over.Lo=a1.Over.Lo then
     if a0.Over.Hi=a1.Over.Hi then
      if a0.Old=a1.Old then
       (Yz a0.Pairs a1.Pairs).bind fun v1=>
       Qco.j1 v1
      else
       Qco.j1 false
     else
      Qco.j1 false
    else
     if a0.Over.Hi=a1.Over.Hi then
      Qco.j1 false
     else
      Qco.j1 false
   else
    Qco.j1 false
  else
   Qco.j1 false
 else
  Qco.j1 false
def Qd7.j1 (Qdj:Bool):Option Bool:=
 some Qdj
def Qd7 (a0:Qc) (a1:Qc):Option Bool:=
 (Qco a0.M a1.M).bind fun v1=>
 if v1=true then
  if a0.Time=a1.Time then
   Qd7.j1 (a0.Jc == a1.Jc)
  else
   Qd7.j1 false
 else
  Qd7.j1 false
inductive Qm.S where
 | l1 (Qc2:Int)
 | l2 (Qeb:Int) (Ja:List Qc)
 | l3 (Qb4:Int) (Yc:List Qc) (Qb5:Int) (Xy:Int) (Yt:List Qc)
def Qm.j2 (Qb4:Int) (Yc:List Qc) (Qb5:Int) (Xy:Int) (Qfo:List Qc):Option (Qm.S ⊕ ((List Qc) × Int)):=
 some (.inl (.l3 Qb4 Yc Qb5 (IntKind.wrap .i64 (Xy+1)) Qfo))
def Qm.j1 (Qb4:Int) (Yc:List Qc) (Qb5:Int) (Xy:Int) (Yt:List Qc) (v2:Int) (Qrm:Bool):Option (Qm.S ⊕ ((List Qc) × Int)):=
 if Qrm=true then
  some (.inr (([]:List Qc),3))
 else
  if v2 < 0 then
   if (((Yc.getD Xy.toNat Qc.z).M).Pairs).length * 16<=140737488355328 then
    if (Yt.length+1) * 88<=140737488355328 then
     Qm.j2 Qb4 Yc Qb5 Xy (Yt ++ [(Yc.getD Xy.toNat Qc.z)])
    else none
   else none
  else
   Qm.j2 Qb4 Yc Qb5 Xy Yt
def Qm.l1 (a0:List Qf) (Qc2:Int):Option (Qm.S ⊕ ((List Qc) × Int)):=
 if Qc2 < (a0.length:Int) then
  if 0<=Qc2/\Qc2 < (a0.length:Int) then
   (Yx (a0.getD Qc2.toNat Qf.z)).bind fun v1=>
   if v1=true then
    some (.inl (.l1 (IntKind.wrap .i64 (Qc2+1))))
   else
    some (.inr (([]:List Qc),1))
  else none
 else
  some (.inl (.l2 0 ([]:List Qc)))
def Qm.l2 (a0:List Qf) (Qeb:Int) (Ja:List Qc):Option (Qm.S ⊕ ((List Qc) × Int)):=
 if Qeb < (a0.length:Int) then
  if 0<=Qeb/\Qeb < (a0.length:Int) then
   some (.inl (.l3 Qeb ((a0.getD Qeb.toNat Qf.z).Log) (((a0.getD Qeb.toNat Qf.z).Log).length:Int) 0 Ja))
  else none
 else
  if Ja.length * 88<=140737488355328 then
   some (.inr (Qd8 Qc.z Qbu Ja,0))
  else none
def Qm.l3 (Qb4:Int) (Yc:List Qc) (Qb5:Int) (Xy:Int) (Yt:List Qc):Option (Qm.S ⊕ ((List Qc) × Int)):=
 if Xy < Qb5 then
  if 0<=Xy/\Xy < (Yc.length:Int) then
   (Zc Yt (fun z0=>some (Qer z0 (Yc.getD Xy.toNat Qc.z)))).bind fun v2=>
   if v2>=0 then
    if 0<=v2/\v2 < (Yt.length:Int) then
     (Qd7 (Yt.getD v2.toNat Qc.z) (Yc.getD Xy.toNat Qc.z)).bind fun v3=>
     Qm.j1 Qb4 Yc Qb5 Xy Yt v2 (!v3)
    else none
   else
    Qm.j1 Qb4 Yc Qb5 Xy Yt v2 false
  else none
 else
  some (.inl (.l2 (IntKind.wrap .i64 (Qb4+1)) Yt))
def Qm.step (a0:List Qf):Qm.S->Option (Qm.S ⊕ ((List Qc) × Int))
 | .l1 Qc2=>Qm.l1 a0 Qc2
 | .l2 Qeb Ja=>Qm.l2 a0 Qeb Ja
 | .l3 Qb4 Yc Qb5 Xy Yt=>Qm.l3 Qb4 Yc Qb5 Xy Yt
def Qm (a0:List Qf):Option ((List Qc) × Int):=
 Xb (Qm.step a0) (.l1 0)
inductive Jd.S where
 | l1 (Yb:Int) (Qh:List Qj)
def Jd.l1 (a0:List Qa) (Yb:Int) (Qh:List Qj):Option (Jd.S ⊕ (List Qj)):=
 if Yb < (a0.length:Int) then
  if 0<=Yb/\Yb < (a0.length:Int) then
   if (Qh.length+1) * 16<=140737488355328 then
    some (.inl (.l1 (IntKind.wrap .i64 (Yb+1)) (Qh ++ [(⟨(a0.getD Yb.toNat Qa.z).Key,(a0.getD Yb.toNat Qa.z).Val⟩:Qj)])))
   else none
  else none
 else
  some (.inr Qh)
def Jd.step (a0:List Qa):Jd.S->Option (Jd.S ⊕ (List Qj))
 | .l1 Yb Qh=>Jd.l1 a0 Yb Qh
def Jd (a0:List Qa):Option (List Qj):=
 Xb (Jd.step a0) (.l1 0 ([]:List Qj))
inductive Wz.S where
 | l1 (Yb:Int) (Jw:List Qj)
def Wz.l1 (a0:Qu) (Yb:Int) (Jw:List Qj):Option (Wz.S ⊕ Xq):=
 if Yb < (a0.Pairs.length:Int) then
  if 0<=Yb/\Yb < (a0.Pairs.length:Int) then
   if (Jw.length+1) * 16<=140737488355328 then
    some (.inl (.l1 (IntKind.wrap .i64 (Yb+1)) (Jw ++ [(⟨(a0.Pairs.getD Yb.toNat Qa.z).Key,(a0.Pairs.getD Yb.toNat Qa.z).Val⟩:Qj)])))
   else none
  else none
 else
  some (.inr (⟨a0.Client,a0.Seq,a0.Kind,Jw,(⟨a0.Over.Lo,a0.Over.Hi⟩:Qx),a0.Old⟩:Xq))
def Wz.step (a0:Qu):Wz.S->Option (Wz.S ⊕ Xq)
 | .l1 Yb Jw=>Wz.l1 a0 Yb Jw
def Wz (a0:Qu):Option Xq:=
 Xb (Wz.step a0) (.l1 0 ([]:List Qj))
inductive Yy.S where
 | l1 (Yb:Int) (Jw:List Xo)
 | l2 (Qba:Int) (Qar:List Xo) (Qq5:List Qe)
 | l3 (v2:Xq) (Qmk:Int) (Qad:Int) (Qq6:List Xo) (Qn5:Int) (Qn6:Bool) (Qq7:List Qa3)
 | l4 (Qml:Int) (Qtq:List Xo) (Qtr:List Qe) (Qq8:List Yg)
def Yy.l1 (a0:Qf) (Yb:Int) (Jw:List Xo):Option (Yy.S ⊕ Qt):=
 if Yb < (a0.Held.length:Int) then
  if 0<=Yb/\Yb < (a0.Held.length:Int) then
   (Wz ((a0.Held.getD Yb.toNat Qr.z).M)).bind fun v2=>
   some (.inl (.l3 v2 Yb 0 Jw ((a0.Held.getD Yb.toNat Qr.z).Time) ((a0.Held.getD Yb.toNat Qr.z).Qda) ([]:List Qa3)))
  else none
 else
  some (.inl (.l2 0 Jw ([]:List Qe)))
def Yy.l2 (a0:Qf) (Qba:Int) (Qar:List Xo) (Qq5:List Qe):Option (Yy.S ⊕ Qt):=
 if Qba < (a0.Log.length:Int) then
  if 0<=Qba/\Qba < (a0.Log.length:Int) then
   (Wz ((a0.Log.getD Qba.toNat Qc.z).M)).bind fun v3=>
   if (Qq5.length+1) * 88<=140737488355328 then
    some (.inl (.l2 (IntKind.wrap .i64 (Qba+1)) Qar (Qq5 ++ [(⟨v3,(a0.Log.getD Qba.toNat Qc.z).Time,(a0.Log.getD Qba.toNat Qc.z).Jc⟩:Qe)])))
   else none
  else none
 else
  some (.inl (.l4 0 Qar Qq5 ([]:List Yg)))
def Yy.l3 (a0:Qf) (v2:Xq) (Qmk:Int) (Qad:Int) (Qq6:List Xo) (Qn5:Int) (Qn6:Bool) (Qq7:List Qa3):Option (Yy.S ⊕ Qt):=
 if 0<=Qmk/\Qmk < (a0.Held.length:Int) then
  if Qad < (((a0.Held.getD Qmk.toNat Qr.z).Qep).length:Int) then
   if 0<=Qad/\Qad < (((a0.Held.getD Qmk.toNat Qr.z).Qep).length:Int) then
    if (Qq7.length+1) * 16<=140737488355328 then
     some (.inl (.l3 v2 Qmk (IntKind.wrap .i64 (Qad+1)) Qq6 Qn5 Qn6 (Qq7 ++ [(⟨(((a0.Held.getD Qmk.toNat Qr.z).Qep).getD Qad.toNat Qcf.z).Qqr,(((a0.Held.getD Qmk.toNat Qr.z).Qep).getD Qad.toNat Qcf.z).Time⟩:Qa3)])))
    else none
   else none
  else
   if (Qq6.length+1) * 112<=140737488355328 then
    some (.inl (.l1 (IntKind.wrap .i64 (Qmk+1)) (Qq6 ++ [(⟨v2,Qn5,Qn6,Qq7⟩:Xo)])))
   else none
 else none
def Yy.l4 (a0:Qf) (v1:List Qj) (Qml:Int) (Qtq:List Xo) (Qtr:List Qe) (Qq8:List Yg):Option (Yy.S ⊕ Qt):=
 if Qml < (a0.Qw.length:Int) then
  if 0<=Qml/\Qml < (a0.Qw.length:Int) then
   if (Qq8.length+1) * 32<=140737488355328 then
    some (.inl (.l4 (IntKind.wrap .i64 (Qml+1)) Qtq Qtr (Qq8 ++ [(⟨(a0.Qw.getD Qml.toNat Ql.z).Client,(a0.Qw.getD Qml.toNat Ql.z).Seq,(a0.Qw.getD Qml.toNat Ql.z).Time,(a0.Qw.getD Qml.toNat Ql.z).Jc⟩:Yg)])))
   else none
  else none
 else
  some (.inr (⟨a0.ID,(⟨a0.Keys.Lo,a0.Keys.Hi⟩:Qx),a0.Clock,a0.Qdd,a0.Qb6,Qtq,v1,Qtr,Qq8⟩:Qt))
def Yy.step (a0:Qf) (v1:List Qj):Yy.S->Option (Yy.S ⊕ Qt)
 | .l1 Yb Jw=>Yy.l1 a0 Yb Jw
 | .l2 Qba Qar Qq5=>Yy.l2 a0 Qba Qar Qq5
 | .l3 v2 Qmk Qad Qq6 Qn5 Qn6 Qq7=>Yy.l3 a0 v2 Qmk Qad Qq6 Qn5 Qn6 Qq7
 | .l4 Qml Qtq Qtr Qq8=>Yy.l4 a0 v1 Qml Qtq Qtr Qq8
def Yy (a0:Qf):Option Qt:=
 (Jd a0.Base).bind fun v1=>
 Xb (Yy.step a0 v1) (.l1 0 ([]:List Xo))
inductive Qa2.S where
 | l1 (Yb:Int) (Qh:List Qt)
def Qa2.l1 (a0:List Qf) (Yb:Int) (Qh:List Qt):Option (Qa2.S ⊕ (List Qt)):=
 if Yb < (a0.length:Int) then
  if 0<=Yb/\Yb < (a0.length:Int) then
   (Yy (a0.getD Yb.toNat Qf.z)).bind fun v1=>
   if (Qh.length+1) * 136<=140737488355328 then
    some (.inl (.l1 (IntKind.wrap .i64 (Yb+1)) (Qh ++ [v1])))
   else none
  else none
 else
  some (.inr Qh)
def Qa2.step (a0:List Qf):Qa2.S->Option (Qa2.S ⊕ (List Qt))
 | .l1 Yb Qh=>Qa2.l1 a0 Yb Qh
def Qa2 (a0:List Qf):Option (List Qt):=
 Xb (Qa2.step a0) (.l1 0 ([]:List Qt))
def Qbr.j1 (Qjl:Bool):Bool:=
 Qjl
def Qbr (a0:Int) (a1:Int) (a2:Int):Bool:=
 if a0>=a1 then
  Qbr.j1 (decide (a0<=a2))
 else
  Qbr.j1 false
def Qc1.j1 (Qcq:Bool):Bool:=
 Qcq
def Qc1 (a0:Qx):Bool:=
 if a0.Lo>=0 then
  if a0.Lo < a0.Hi then
   Qc1.j1 (decide (a0.Hi<=4096))
  else
   Qc1.j1 false
 else
  Qc1.j1 false
inductive Zq.S where
 | l1 (Xe:Int)
def Zq.j2 (Xe:Int) (Qng:Bool):Option (Zq.S ⊕ Bool):=
 if Qng=true then
  some (.inr false)
 else
  some (.inl (.l1 (IntKind.wrap .i64 (Xe+1))))
def Zq.j1 (a0:List Qj) (Xe:Int) (Wku:Bool):Option (Zq.S ⊕ Bool):=
 if Wku=true then
  some (.inr false)
 else
  if Xe > 0 then
   if 0<=(IntKind.wrap .i64 (Xe - 1))/\(IntKind.wrap .i64 (Xe - 1)) < (a0.length:Int) then
    Zq.j2 Xe (decide (((a0.getD Xe.toNat Qj.z).Key)<=((a0.getD ((IntKind.wrap .i64 (Xe - 1)).toNat) Qj.z).Key)))
   else none
  else
   Zq.j2 Xe false
def Zq.l1 (a0:List Qj) (Xe:Int):Option (Zq.S ⊕ Bool):=
 if Xe < (a0.length:Int) then
  if 0<=Xe/\Xe < (a0.length:Int) then
   if ((a0.getD Xe.toNat Qj.z).Key) < 0 then
    Zq.j1 a0 Xe true
   else
    if ((a0.getD Xe.toNat Qj.z).Key) > 4095 then
     Zq.j1 a0 Xe true
    else
     if ((a0.getD Xe.toNat Qj.z).Val) < (-1099511627776) then
      Zq.j1 a0 Xe true
     else
      Zq.j1 a0 Xe (decide (((a0.getD Xe.toNat Qj.z).Val) > 1099511627776))
  else none
 else
  some (.inr true)
def Zq.step (a0:List Qj):Zq.S->Option (Zq.S ⊕ Bool)
 | .l1 Xe=>Zq.l1 a0 Xe
def Zq (a0:List Qj):Option Bool:=
 Xb (Zq.step a0) (.l1 0)
def Qdt.j1 (Qcq:Bool):Bool:=
 Qcq
def Qdt (a0:Int):Bool:=
 if a0>=(-1099511627776) then
  Qdt.j1 (decide (a0<=1099511627776))
 else
  Qdt.j1 false
inductive Zm.S where
 | l1 (Wq:Int)
def Zm.j2 (Wq:Int) (Wkw:Bool):Option (Zm.S ⊕ Bool):=
 if Wkw=true then
  some (.inr false)
 else
  some (.inl (.l1 (IntKind.wrap .i64 (Wq+1))))
def Zm.l1 (a0:List Qj) (Wq:Int):Option (Zm.S ⊕ Bool):=
 if Wq < (a0.length:Int) then
  if 0<=Wq/\Wq < (a0.length:Int) then
   if ((a0.getD Wq.toNat Qj.z).Key) < 0 then
    Zm.j2 Wq true
   else
    if ((a0.getD Wq.toNat Qj.z).Key) > 4095 then
     Zm.j2 Wq true
    else
     Zm.j2 Wq (!(Qdt ((a0.getD Wq.toNat Qj.z).Val)))
  else none
 else
  some (.inr true)
def Zm.step (a0:List Qj):Zm.S->Option (Zm.S ⊕ Bool)
 | .l1 Wq=>Zm.l1 a0 Wq
def Zm.j1 (a0:List Qj) (Qnd:Bool):Option Bool:=
 if Qnd=true then
  some false
 else
  Xb (Zm.step a0) (.l1 0)
def Zm (a0:List Qj) (a1:Int) (a2:Int):Option Bool:=
 if (a0.length:Int) < a1 then
  Zm.j1 a0 true
 else
  Zm.j1 a0 (decide ((a0.length:Int) > a2))
def Xn.j2 (Qqo:Bool):Option Bool:=
 some Qqo
def Xn.j4 (Qnm:Bool):Option Bool:=
 some Qnm
inductive Xn.S where
 | l1 (Xe:Int)
def Xn.l1 (a0:Xq) (Xe:Int):Option (Xn.S ⊕ Bool):=
 if Xe < (a0.Pairs.length:Int) then
  if 0<=(IntKind.wrap .i64 (Xe - 1))/\(IntKind.wrap .i64 (Xe - 1)) < (a0.Pairs.length:Int) then
   if 0<=Xe/\Xe < (a0.Pairs.length:Int) then
    if ((a0.Pairs.getD ((IntKind.wrap .i64 (Xe - 1)).toNat) Qj.z).Key)>=((a0.Pairs.getD Xe.toNat Qj.z).Key) then
     some (.inr false)
    else
     some (.inl (.l1 (IntKind.wrap .i64 (Xe+1))))
   else none
  else none
 else
  (Zm a0.Pairs 1 8).bind fun v2=>
  some (.inr v2)
def Xn.step (a0:Xq):Xn.S->Option (Xn.S ⊕ Bool)
 | .l1 Xe=>Xn.l1 a0 Xe
def Xn.j5 (Qqp:Bool):Option Bool:=
 some Qqp
def Xn.j3 (a0:Xq) (Wk0:Bool):Option Bool:=
 if Wk0=true then
  some false
 else
  if a0.Kind=4 then
   (Zm a0.Pairs 1 1).bind fun v1=>
   if v1=true then
    if (Qdt a0.Old)=true then
     Xn.j4 true
    else
     Xn.j4 (a0.Old == 1099511627777)
   else
    Xn.j4 false
  else
   if a0.Old=0 then
    if a0.Kind=1 then
     Xb (Xn.step a0) (.l1 1)
    else
     if a0.Kind=3 then
      (Zm a0.Pairs 1 1).bind fun v3=>
      some v3
     else
      if a0.Kind=5 then
       (Zm a0.Pairs 2 2).bind fun v4=>
       if v4=true then
        if (0:Int)<=0/\0 < (a0.Pairs.length:Int) then
         if (0:Int)<=1/\1 < (a0.Pairs.length:Int) then
          if ((a0.Pairs.getD 0 Qj.z).Key)=((a0.Pairs.getD 1 Qj.z).Key) then
           Xn.j5 false
          else
           if ((a0.Pairs.getD 0 Qj.z).Val)=((a0.Pairs.getD 1 Qj.z).Val) then
            Xn.j5 (decide (((a0.Pairs.getD 0 Qj.z).Val)>=0))
           else
            Xn.j5 false
         else none
        else none
       else
        Xn.j5 false
      else
       Xn.j5 false
   else
    some false
def Xn.j1 (a0:Xq) (Qk6:Bool):Option Bool:=
 if Qk6=true then
  some false
 else
  if a0.Kind=2 then
   if (a0.Pairs.length:Int)=0 then
    if a0.Old=0 then
     Xn.j2 (Qc1 a0.Over)
    else
     Xn.j2 false
   else
    Xn.j2 false
  else
   if a0.Over.Lo=0 then
    Xn.j3 a0 (a0.Over.Hi != 0)
   else
    Xn.j3 a0 true
def Xn (a0:Xq):Option Bool:=
 if a0.Client < 1 then
  Xn.j1 a0 true
 else
  if a0.Client > 1048576 then
   Xn.j1 a0 true
  else
   if a0.Seq < 1 then
    Xn.j1 a0 true
   else
    Xn.j1 a0 (decide (a0.Seq > 1073741824))
inductive Ye.S where
 | l1 (Yb:Int) (Qh:List Bool)
 | l2 (Qa6:Int) (Ja:List Bool)
 | l3 (Qfe:Int) (Qad:Int) (Yt:List Bool)
def Ye.j1 (Qfe:Int) (Qad:Int) (Yt:List Bool) (Qnf:Bool):Option (Ye.S ⊕ (List Bool)):=
 if Qnf=true then
  if 0<=Qad/\Qad < (Yt.length:Int) then
   some (.inl (.l3 Qfe (IntKind.wrap .i64 (Qad+1)) (Yt.set Qad.toNat true)))
  else none
 else
  some (.inl (.l2 (IntKind.wrap .i64 (Qfe+1)) Yt))
def Ye.l1 (Yb:Int) (Qh:List Bool):Option (Ye.S ⊕ (List Bool)):=
 if Yb < 4096 then
  if (Qh.length+1) * 1<=140737488355328 then
   some (.inl (.l1 (IntKind.wrap .i64 (Yb+1)) (Qh ++ [false])))
  else none
 else
  some (.inl (.l2 0 Qh))
def Ye.l2 (a0:List Qx) (Qa6:Int) (Ja:List Bool):Option (Ye.S ⊕ (List Bool)):=
 if Qa6 < (a0.length:Int) then
  if 0<=Qa6/\Qa6 < (a0.length:Int) then
   some (.inl (.l3 Qa6 ((a0.getD Qa6.toNat Qx.z).Lo) Ja))
  else none
 else
  some (.inr Ja)
def Ye.l3 (a0:List Qx) (Qfe:Int) (Qad:Int) (Yt:List Bool):Option (Ye.S ⊕ (List Bool)):=
 if 0<=Qfe/\Qfe < (a0.length:Int) then
  if (Qc1 (a0.getD Qfe.toNat Qx.z))=true then
   Ye.j1 Qfe Qad Yt (decide (Qad < ((a0.getD Qfe.toNat Qx.z).Hi)))
  else
   Ye.j1 Qfe Qad Yt false
 else none
def Ye.step (a0:List Qx):Ye.S->Option (Ye.S ⊕ (List Bool))
 | .l1 Yb Qh=>Ye.l1 Yb Qh
 | .l2 Qa6 Ja=>Ye.l2 a0 Qa6 Ja
 | .l3 Qfe Qad Yt=>Ye.l3 a0 Qfe Qad Yt
def Ye (a0:List Qx):Option (List Bool):=
 Xb (Ye.step a0) (.l1 0 ([]:List Bool))
inductive Zu.S where
 | l1 (Wy:Int) (Qh:List Qx)
 | l2 (Qa6:Int) (Qgv:Int) (Ja:List Qx)
def Zu.j1 (Qa6:Int) (Qgv:Int) (Ja:List Qx) (Qk6:Bool):Option (Zu.S ⊕ ((List Qx) × Int)):=
 if Qk6=true then
  some (.inl (.l2 (IntKind.wrap .i64 (Qa6+1)) Qgv Ja))
 else
  if Qa6 > Qgv then
   if (Ja.length+1) * 16<=140737488355328 then
    some (.inl (.l1 Qa6 (Ja ++ [(⟨Qgv,Qa6⟩:Qx)])))
   else none
  else
   some (.inl (.l1 (IntKind.wrap .i64 (Qa6+1)) Ja))
def Zu.l1 (a0:List Bool) (Wy:Int) (Qh:List Qx):Option (Zu.S ⊕ ((List Qx) × Int)):=
 if Wy < (a0.length:Int) then
  some (.inl (.l2 Wy Wy Qh))
 else
  if (Qh.length:Int) > 64 then
   some (.inr (([]:List Qx),2))
  else
   some (.inr (Qh,0))
def Zu.l2 (a0:List Bool) (Qa6:Int) (Qgv:Int) (Ja:List Qx):Option (Zu.S ⊕ ((List Qx) × Int)):=
 if Qa6 < (a0.length:Int) then
  if 0<=Qa6/\Qa6 < (a0.length:Int) then
   Zu.j1 Qa6 Qgv Ja (a0.getD Qa6.toNat false)
  else none
 else
  Zu.j1 Qa6 Qgv Ja false
def Zu.step (a0:List Bool):Zu.S->Option (Zu.S ⊕ ((List Qx) × Int))
 | .l1 Wy Qh=>Zu.l1 a0 Wy Qh
 | .l2 Qa6 Qgv Ja=>Zu.l2 a0 Qa6 Qgv Ja
def Zu (a0:List Bool):Option ((List Qx) × Int):=
 Xb (Zu.step a0) (.l1 0 ([]:List Qx))
inductive Qa9.S where
 | l1 (Yb:Int)
def Qa9.l1 (a0:List Qx) (Yb:Int):Option (Qa9.S ⊕ ((List Qx) × Int)):=
 if Yb < (a0.length:Int) then
  if 0<=Yb/\Yb < (a0.length:Int) then
   if (Qc1 (a0.getD Yb.toNat Qx.z))=true then
    some (.inl (.l1 (IntKind.wrap .i64 (Yb+1))))
   else
    some (.inr (([]:List Qx),1))
  else none
 else
  (Ye a0).bind fun v1=>
  (Zu v1).bind fun v2=>
  some (.inr (v2.1,v2.2))
def Qa9.step (a0:List Qx):Qa9.S->Option (Qa9.S ⊕ ((List Qx) × Int))
 | .l1 Yb=>Qa9.l1 a0 Yb
def Qa9 (a0:List Qx):Option ((List Qx) × Int):=
 Xb (Qa9.step a0) (.l1 0)
inductive Qa1.S where
 | l1 (Yb:Int) (Xi:List Qx)
def Qa1.l1 (a0:Xq) (Yb:Int) (Xi:List Qx):Option (Qa1.S ⊕ (List Qx)):=
 if Yb < (a0.Pairs.length:Int) then
  if 0<=Yb/\Yb < (a0.Pairs.length:Int) then
   if (Xi.length+1) * 16<=140737488355328 then
    some (.inl (.l1 (IntKind.wrap .i64 (Yb+1)) (Xi ++ [(⟨(a0.Pairs.getD Yb.toNat Qj.z).Key,IntKind.wrap .i64 (((a0.Pairs.getD Yb.toNat Qj.z).Key)+1)⟩:Qx)])))
   else none
  else none
 else
  (Qa9 Xi).bind fun v2=>
  some (.inr v2.1)
def Qa1.step (a0:Xq):Qa1.S->Option (Qa1.S ⊕ (List Qx))
 | .l1 Yb Xi=>Qa1.l1 a0 Yb Xi
def Qa1 (a0:Xq):Option (List Qx):=
 (Xn a0).bind fun v1=>
 if v1=true then
  if a0.Kind=2 then
   some ([a0.Over]:List Qx)
  else
   Xb (Qa1.step a0) (.l1 0 ([]:List Qx))
 else
  some ([]:List Qx)
inductive Jj.S where
 | l1 (Qab:Int)
def Jj.j1 (Qab:Int) (Qgr:Bool):Option (Jj.S ⊕ Bool):=
 if Qgr=true then
  some (.inr true)
 else
  some (.inl (.l1 (IntKind.wrap .i64 (Qab+1))))
def Jj.l1 (a0:Qt) (v1:List Qx) (Qab:Int):Option (Jj.S ⊕ Bool):=
 if Qab < (v1.length:Int) then
  if 0<=Qab/\Qab < (v1.length:Int) then
   if ((v1.getD Qab.toNat Qx.z).Lo) < a0.Keys.Hi then
    Jj.j1 Qab (decide (a0.Keys.Lo < ((v1.getD Qab.toNat Qx.z).Hi)))
   else
    Jj.j1 Qab false
  else none
 else
  some (.inr false)
def Jj.step (a0:Qt) (v1:List Qx):Jj.S->Option (Jj.S ⊕ Bool)
 | .l1 Qab=>Jj.l1 a0 v1 Qab
def Jj (a0:Qt) (a1:Xq):Option Bool:=
 (Qa1 a1).bind fun v1=>
 Xb (Jj.step a0 v1) (.l1 0)
inductive Jv.S where
 | l1 (Wq:Int)
def Jv.j1 (Wq:Int) (Wck:Bool):Option (Jv.S ⊕ Int):=
 if Wck=true then
  some (.inr Wq)
 else
  some (.inl (.l1 (IntKind.wrap .i64 (Wq+1))))
def Jv.l1 (a0:Qt) (a1:Int) (a2:Int) (Wq:Int):Option (Jv.S ⊕ Int):=
 if Wq < (a0.Qw.length:Int) then
  if 0<=Wq/\Wq < (a0.Qw.length:Int) then
   if ((a0.Qw.getD Wq.toNat Yg.z).Client)=a1 then
    Jv.j1 Wq (((a0.Qw.getD Wq.toNat Yg.z).Seq) == a2)
   else
    Jv.j1 Wq false
  else none
 else
  some (.inr (-1))
def Jv.step (a0:Qt) (a1:Int) (a2:Int):Jv.S->Option (Jv.S ⊕ Int)
 | .l1 Wq=>Jv.l1 a0 a1 a2 Wq
def Jv (a0:Qt) (a1:Int) (a2:Int):Option Int:=
 Xb (Jv.step a0 a1 a2) (.l1 0)
def Qdu (a0:Xq) (a1:Int):Qe9:=
 (⟨a1,a0.Client,a0.Seq⟩:Qe9)
def Qee (a0:Qe9) (a1:Qe9):Bool:=
 if a0.Time=a1.Time then
  if a0.Client=a1.Client then
   decide (a0.Seq < a1.Seq)
  else
   decide (a0.Client < a1.Client)
 else
  decide (a0.Time < a1.Time)
inductive Zi.S where
 | l1 (Xe:Int)
def Zi.j3 (Xe:Int) (Qnh:Bool):Option (Zi.S ⊕ Bool):=
 if Qnh=true then
  some (.inr false)
 else
  some (.inl (.l1 (IntKind.wrap .i64 (Xe+1))))
def Zi.j2 (a0:Qt) (Xe:Int) (Wky:Bool):Option (Zi.S ⊕ Bool):=
 if Wky=true then
  some (.inr false)
 else
  if Xe > 0 then
   if 0<=(IntKind.wrap .i64 (Xe - 1))/\(IntKind.wrap .i64 (Xe - 1)) < (a0.Log.length:Int) then
    Zi.j3 Xe (!(Qee (Qdu ((a0.Log.getD ((IntKind.wrap .i64 (Xe - 1)).toNat) Qe.z).M) ((a0.Log.getD ((IntKind.wrap .i64 (Xe - 1)).toNat) Qe.z).Time)) (Qdu ((a0.Log.getD Xe.toNat Qe.z).M) ((a0.Log.getD Xe.toNat Qe.z).Time))))
   else none
  else
   Zi.j3 Xe false
def Zi.j1 (a0:Qt) (Xe:Int) (Wks:Bool):Option (Zi.S ⊕ Bool):=
 if Wks=true then
  some (.inr false)
 else
  (Jv a0 (((a0.Log.getD Xe.toNat Qe.z).M).Client) (((a0.Log.getD Xe.toNat Qe.z).M).Seq)).bind fun v4=>
  if v4 < 0 then
   Zi.j2 a0 Xe true
  else
   if 0<=v4/\v4 < (a0.Qw.length:Int) then
    if ((a0.Qw.getD v4.toNat Yg.z).Time)=((a0.Log.getD Xe.toNat Qe.z).Time) then
     Zi.j2 a0 Xe (!(((a0.Qw.getD v4.toNat Yg.z).Jc) == ((a0.Log.getD Xe.toNat Qe.z).Jc)))
    else
     Zi.j2 a0 Xe true
   else none
def Zi.l1 (a0:Qt) (Xe:Int):Option (Zi.S ⊕ Bool):=
 if Xe < (a0.Log.length:Int) then
  if 0<=Xe/\Xe < (a0.Log.length:Int) then
   (Xn ((a0.Log.getD Xe.toNat Qe.z).M)).bind fun v1=>
   if v1=true then
    (Jj a0 ((a0.Log.getD Xe.toNat Qe.z).M)).bind fun v2=>
    if v2=true then
     bnd (Qbr ((a0.Log.getD Xe.toNat Qe.z).Time) 0 a0.Clock) fun (v3:Bool)=>
     Zi.j1 a0 Xe (!v3)
    else
     Zi.j1 a0 Xe true
   else
    Zi.j1 a0 Xe true
  else none
 else
  some (.inr (decide ((a0.Log.length:Int)<=(a0.Qw.length:Int))))
def Zi.step (a0:Qt):Zi.S->Option (Zi.S ⊕ Bool)
 | .l1 Xe=>Zi.l1 a0 Xe
def Zi (a0:Qt):Option Bool:=
 Xb (Zi.step a0) (.l1 0)
inductive Qal.S where
 | l1 (Wq:Int)
def Qal.j1 (Wq:Int) (Qgr:Bool):Option (Qal.S ⊕ Int):=
 if Qgr=true then
  some (.inr Wq)
 else
  some (.inl (.l1 (IntKind.wrap .i64 (Wq+1))))
def Qal.l1 (a0:Qt) (a1:Int) (a2:Int) (Wq:Int):Option (Qal.S ⊕ Int):=
 if Wq < (a0.Held.length:Int) then
  if 0<=Wq/\Wq < (a0.Held.length:Int) then
   if (((a0.Held.getD Wq.toNat Xo.z).M).Client)=a1 then
    Qal.j1 Wq ((((a0.Held.getD Wq.toNat Xo.z).M).Seq) == a2)
   else
    Qal.j1 Wq false
  else none
 else
  some (.inr (-1))
def Qal.step (a0:Qt) (a1:Int) (a2:Int):Qal.S->Option (Qal.S ⊕ Int)
 | .l1 Wq=>Qal.l1 a0 a1 a2 Wq
def Qal (a0:Qt) (a1:Int) (a2:Int):Option Int:=
 Xb (Qal.step a0 a1 a2) (.l1 0)
inductive Ze.S where
 | l1 (Xe:Int)
 | l2 (Qyb:Int) (Qa6:Int) (Yq:Int) (Xx:Int) (Zz:Int) (Qaf:List Qj) (Qag:Int) (Js:Int) (Qah:Int) (Qai:Int) (Qam:Bool) (Qan:List Qa3)
def Ze.j1 (a0:Qt) (Xe:Int) (Wkv:Bool):Option (Ze.S ⊕ Bool):=
 if Wkv=true then
  some (.inr false)
 else
  some (.inl (.l2 Xe 0 (((a0.Held.getD Xe.toNat Xo.z).M).Client) (((a0.Held.getD Xe.toNat Xo.z).M).Seq) (((a0.Held.getD Xe.toNat Xo.z).M).Kind) (((a0.Held.getD Xe.toNat Xo.z).M).Pairs) ((((a0.Held.getD Xe.toNat Xo.z).M).Over).Lo) ((((a0.Held.getD Xe.toNat Xo.z).M).Over).Hi) (((a0.Held.getD Xe.toNat Xo.z).M).Old) ((a0.Held.getD Xe.toNat Xo.z).Time) ((a0.Held.getD Xe.toNat Xo.z).Qda) ((a0.Held.getD Xe.toNat Xo.z).Qep)))
def Ze.l1 (a0:Qt) (Xe:Int):Option (Ze.S ⊕ Bool):=
 if Xe < (a0.Held.length:Int) then
  if 0<=Xe/\Xe < (a0.Held.length:Int) then
   (Xn ((a0.Held.getD Xe.toNat Xo.z).M)).bind fun v1=>
   if v1=true then
    (Jj a0 ((a0.Held.getD Xe.toNat Xo.z).M)).bind fun v2=>
    if v2=true then
     bnd (Qbr ((a0.Held.getD Xe.toNat Xo.z).Time) 1 a0.Clock) fun (v3:Bool)=>
     if v3=true then
      (Qal a0 (((a0.Held.getD Xe.toNat Xo.z).M).Client) (((a0.Held.getD Xe.toNat Xo.z).M).Seq)).bind fun v4=>
      if v4=Xe then
       (Jv a0 (((a0.Held.getD Xe.toNat Xo.z).M).Client) (((a0.Held.getD Xe.toNat Xo.z).M).Seq)).bind fun v5=>
       Ze.j1 a0 Xe (decide (v5>=0))
      else
       Ze.j1 a0 Xe true
     else
      Ze.j1 a0 Xe true
    else
     Ze.j1 a0 Xe true
   else
    Ze.j1 a0 Xe true
  else none
 else
  some (.inr true)
def Ze.l2 (a0:Qt) (Qyb:Int) (Qa6:Int) (Yq:Int) (Xx:Int) (Zz:Int) (Qaf:List Qj) (Qag:Int) (Js:Int) (Qah:Int) (Qai:Int) (Qam:Bool) (Qan:List Qa3):Option (Ze.S ⊕ Bool):=
 if Qa6 < (a0.Log.length:Int) then
  if 0<=Qa6/\Qa6 < (a0.Log.length:Int) then
   if (Qee (Qdu (⟨Yq,Xx,Zz,Qaf,(⟨Qag,Js⟩:Qx),Qah⟩:Xq) Qai) (Qdu ((a0.Log.getD Qa6.toNat Qe.z).M) ((a0.Log.getD Qa6.toNat Qe.z).Time)))=true then
    some (.inr false)
   else
    some (.inl (.l2 Qyb (IntKind.wrap .i64 (Qa6+1)) Yq Xx Zz Qaf Qag Js Qah Qai Qam Qan))
  else none
 else
  some (.inl (.l1 (IntKind.wrap .i64 (Qyb+1))))
def Ze.step (a0:Qt):Ze.S->Option (Ze.S ⊕ Bool)
 | .l1 Xe=>Ze.l1 a0 Xe
 | .l2 Qyb Qa6 Yq Xx Zz Qaf Qag Js Qah Qai Qam Qan=>Ze.l2 a0 Qyb Qa6 Yq Xx Zz Qaf Qag Js Qah Qai Qam Qan
def Ze (a0:Qt):Option Bool:=
 Xb (Ze.step a0) (.l1 0)
inductive Ws.S where
 | l1 (Xe:Int)
 | l2 (Qby:Int)
def Ws.j2 (Xe:Int) (Wkx:Bool):Option (Ws.S ⊕ Bool):=
 if Wkx=true then
  some (.inr false)
 else
  some (.inl (.l1 (IntKind.wrap .i64 (Xe+1))))
def Ws.j6 (Qby:Int) (Wki:Bool):Option (Ws.S ⊕ Bool):=
 if Wki=true then
  some (.inr false)
 else
  some (.inl (.l2 (IntKind.wrap .i64 (Qby+1))))
def Ws.j5 (a0:Qt) (Qby:Int) (Wk3:Bool):Option (Ws.S ⊕ Bool):=
 if Wk3=true then
  some (.inr false)
 else
  if Qby > 0 then
   if 0<=(IntKind.wrap .i64 (Qby - 1))/\(IntKind.wrap .i64 (Qby - 1)) < (a0.Qw.length:Int) then
    if ((a0.Qw.getD ((IntKind.wrap .i64 (Qby - 1)).toNat) Yg.z).Client) > ((a0.Qw.getD Qby.toNat Yg.z).Client) then
     Ws.j6 Qby true
    else
     if ((a0.Qw.getD ((IntKind.wrap .i64 (Qby - 1)).toNat) Yg.z).Client)=((a0.Qw.getD Qby.toNat Yg.z).Client) then
      Ws.j6 Qby (decide (((a0.Qw.getD ((IntKind.wrap .i64 (Qby - 1)).toNat) Yg.z).Seq)>=((a0.Qw.getD Qby.toNat Yg.z).Seq)))
     else
      Ws.j6 Qby false
   else none
  else
   Ws.j6 Qby false
def Ws.j4 (Qnm:Bool):Option (Ws.S ⊕ Bool):=
 some (.inr Qnm)
def Ws.j3 (a0:Qt) (Wkg:Bool):Option (Ws.S ⊕ Bool):=
 if Wkg=true then
  some (.inr false)
 else
  (Zi a0).bind fun v2=>
  if v2=true then
   (Ze a0).bind fun v3=>
   Ws.j4 v3
  else
   Ws.j4 false
def Ws.l1 (a0:Qt) (Xe:Int):Option (Ws.S ⊕ Bool):=
 if Xe < (a0.Base.length:Int) then
  if 0<=Xe/\Xe < (a0.Base.length:Int) then
   if ((a0.Base.getD Xe.toNat Qj.z).Key) < a0.Keys.Lo then
    Ws.j2 Xe true
   else
    Ws.j2 Xe (decide (((a0.Base.getD Xe.toNat Qj.z).Key)>=a0.Keys.Hi))
  else none
 else
  some (.inl (.l2 0))
def Ws.l2 (a0:Qt) (Qby:Int):Option (Ws.S ⊕ Bool):=
 if Qby < (a0.Qw.length:Int) then
  if 0<=Qby/\Qby < (a0.Qw.length:Int) then
   bnd (Qbr ((a0.Qw.getD Qby.toNat Yg.z).Client) 1 1048576) fun (v4:Bool)=>
   if v4=true then
    bnd (Qbr ((a0.Qw.getD Qby.toNat Yg.z).Seq) 1 1073741824) fun (v5:Bool)=>
    if v5=true then
     bnd (Qbr ((a0.Qw.getD Qby.toNat Yg.z).Time) 0 1099511627775) fun (v6:Bool)=>
     Ws.j5 a0 Qby (!v6)
    else
     Ws.j5 a0 Qby true
   else
    Ws.j5 a0 Qby true
  else none
 else
  if a0.Qb6=true then
   if a0.Qdd=true then
    Ws.j3 a0 (decide ((a0.Held.length:Int) > 0))
   else
    Ws.j3 a0 true
  else
   Ws.j3 a0 false
def Ws.step (a0:Qt):Ws.S->Option (Ws.S ⊕ Bool)
 | .l1 Xe=>Ws.l1 a0 Xe
 | .l2 Qby=>Ws.l2 a0 Qby
def Ws.j1 (a0:Qt) (Wkt:Bool):Option Bool:=
 if Wkt=true then
  some false
 else
  Xb (Ws.step a0) (.l1 0)
def Ws (a0:Qt):Option Bool:=
 if (Qbr a0.ID 1 65536)=true then
  if (Qc1 a0.Keys)=true then
   if (Qbr a0.Clock 0 1099511627775)=true then
    if (IntKind.wrap .i64 ((a0.Held.length:Int)+(a0.Qw.length:Int))) > 1000 then
     Ws.j1 a0 true
    else
     (Zq a0.Base).bind fun v1=>
     Ws.j1 a0 (!v1)
   else
    Ws.j1 a0 true
  else
   Ws.j1 a0 true
 else
  Ws.j1 a0 true
inductive Xh.S where
 | l1 (Wy:Int)
def Xh.l1 (a0:Xq) (a1:Xq) (Wy:Int):Option (Xh.S ⊕ Bool):=
 if Wy < (a0.Pairs.length:Int) then
  if 0<=Wy/\Wy < (a0.Pairs.length:Int) then
   if 0<=Wy/\Wy < (a1.Pairs.length:Int) then
    if ((a0.Pairs.getD Wy.toNat Qj.z).Key)=((a1.Pairs.getD Wy.toNat Qj.z).Key) then
     if ((a0.Pairs.getD Wy.toNat Qj.z).Val)=((a1.Pairs.getD Wy.toNat Qj.z).Val) then
      some (.inl (.l1 (IntKind.wrap .i64 (Wy+1))))
     else
      some (.inr false)
    else
     if ((a0.Pairs.getD Wy.toNat Qj.z).Val)=((a1.Pairs.getD Wy.toNat Qj.z).Val) then
      some (.inr false)
     else
      some (.inr false)
   else none
  else none
 else
  some (.inr true)
def Xh.step (a0:Xq) (a1:Xq):Xh.S->Option (Xh.S ⊕ Bool)
 | .l1 Wy=>Xh.l1 a0 a1 Wy
def Xh.j1 (a0:Xq) (a1:Xq) (Qrl:Bool):Option Bool:=
 if Qrl=true then
  some false
 else
  Xb (Xh.step a0 a1) (.l1 0)
def Xh (a0:Xq) (a1:Xq):Option Bool:=
 if a0.Client=a1.Client then
  if a0.Seq=a1.Seq then
   if a0.Kind=a1.Kind then
    if a0.Over.Lo=a1.Over.Lo then
     if a0.Over.Hi=a1.Over.Hi then
      if a0.Old=a1.Old then
       Xh.j1 a0 a1 ((a0.Pairs.length:Int) != (a1.Pairs.length:Int))
      else
       Xh.j1 a0 a1 true
     else
      Xh.j1 a0 a1 true
    else
     if a0.Over.Hi=a1.Over.Hi then
      Xh.j1 a0 a1 true
     else
      Xh.j1 a0 a1 true
   else
    Xh.j1 a0 a1 true
  else
   Xh.j1 a0 a1 true
 else
  Xh.j1 a0 a1 true
def Qgx (a0:Qe):Qe9:=
 (⟨a0.Time,a0.M.Client,a0.M.Seq⟩:Qe9)
inductive Qs.S where
 | l1 (Yb:Int)
 | l2 (Qgv:Int) (Ja:List Qe)
 | l3 (Qad:Int) (Qc3:Int) (Yt:List Qe)
 | l4 (Qad:Int) (Qc3:Int) (Yt:List Qe) (Qke:Bool) (Qf8:Bool) (Qdq:Int) (Qfj:List Qe)
def Qs.j7 (Qad:Int) (Qc3:Int) (Yt:List Qe) (Qdq:Int) (Qo5:Bool) (Wk4:Bool) (Wig:List Qe):Option (Qs.S ⊕ ((List Qe) × Int)):=
 if (Wig.length+1) * 88<=140737488355328 then
  some (.inl (.l4 Qad Qc3 Yt Qo5 Wk4 (IntKind.wrap .i64 (Qdq+1)) (Wig ++ [(Yt.getD Qdq.toNat Qe.z)])))
 else none
def Qs.j6 (a0:List Qt) (Qad:Int) (Qc3:Int) (Yt:List Qe) (Qf8:Bool) (Qdq:Int) (Qfj:List Qe) (Qo5:Bool) (Wkh:Bool):Option (Qs.S ⊕ ((List Qe) × Int)):=
 if Wkh=true then
  if (Qfj.length+1) * 88<=140737488355328 then
   Qs.j7 Qad Qc3 Yt Qdq Qo5 true (Qfj ++ [(((a0.getD Qad.toNat Qt.z).Log).getD Qc3.toNat Qe.z)])
  else none
 else
  Qs.j7 Qad Qc3 Yt Qdq Qo5 Qf8 Qfj
def Qs.j5 (a0:List Qt) (Qad:Int) (Qc3:Int) (Yt:List Qe) (Qf8:Bool) (Qdq:Int) (Qfj:List Qe) (Qo5:Bool):Option (Qs.S ⊕ ((List Qe) × Int)):=
 if Qf8=true then
  Qs.j6 a0 Qad Qc3 Yt Qf8 Qdq Qfj Qo5 false
 else
  Qs.j6 a0 Qad Qc3 Yt Qf8 Qdq Qfj Qo5 (Qee (Qgx (((a0.getD Qad.toNat Qt.z).Log).getD Qc3.toNat Qe.z)) (Qgx (Yt.getD Qdq.toNat Qe.z)))
def Qs.j4 (a0:List Qt) (Qad:Int) (Qc3:Int) (Yt:List Qe) (Qf8:Bool) (Qdq:Int) (Qfj:List Qe) (Wk2:Bool):Option (Qs.S ⊕ ((List Qe) × Int)):=
 if Wk2=true then
  some (.inr (([]:List Qe),3))
 else
  Qs.j5 a0 Qad Qc3 Yt Qf8 Qdq Qfj true
def Qs.j3 (a0:List Qt) (Qad:Int) (Qc3:Int) (Yt:List Qe) (Qke:Bool) (Qf8:Bool) (Qdq:Int) (Qfj:List Qe) (Wk1:Bool):Option (Qs.S ⊕ ((List Qe) × Int)):=
 if Wk1=true then
  (Xh ((Yt.getD Qdq.toNat Qe.z).M) ((((a0.getD Qad.toNat Qt.z).Log).getD Qc3.toNat Qe.z).M)).bind fun v2=>
  if v2=true then
   if ((Yt.getD Qdq.toNat Qe.z).Time)=((((a0.getD Qad.toNat Qt.z).Log).getD Qc3.toNat Qe.z).Time) then
    Qs.j4 a0 Qad Qc3 Yt Qf8 Qdq Qfj (!(((Yt.getD Qdq.toNat Qe.z).Jc) == ((((a0.getD Qad.toNat Qt.z).Log).getD Qc3.toNat Qe.z).Jc)))
   else
    Qs.j4 a0 Qad Qc3 Yt Qf8 Qdq Qfj true
  else
   Qs.j4 a0 Qad Qc3 Yt Qf8 Qdq Qfj true
 else
  Qs.j5 a0 Qad Qc3 Yt Qf8 Qdq Qfj Qke
def Qs.j2 (Qad:Int) (Qc3:Int) (Qfo:List Qe):Option (Qs.S ⊕ ((List Qe) × Int)):=
 some (.inl (.l3 Qad (IntKind.wrap .i64 (Qc3+1)) Qfo))
def Qs.j1 (Qad:Int) (Qc3:Int) (Yt:List Qe) (Qke:Bool) (Qkf:List Qe):Option (Qs.S ⊕ ((List Qe) × Int)):=
 if Qke=true then
  Qs.j2 Qad Qc3 Yt
 else
  Qs.j2 Qad Qc3 Qkf
def Qs.l1 (a0:List Qt) (Yb:Int):Option (Qs.S ⊕ ((List Qe) × Int)):=
 if Yb < (a0.length:Int) then
  if 0<=Yb/\Yb < (a0.length:Int) then
   (Ws (a0.getD Yb.toNat Qt.z)).bind fun v1=>
   if v1=true then
    some (.inl (.l1 (IntKind.wrap .i64 (Yb+1))))
   else
    some (.inr (([]:List Qe),1))
  else none
 else
  some (.inl (.l2 0 ([]:List Qe)))
def Qs.l2 (a0:List Qt) (Qgv:Int) (Ja:List Qe):Option (Qs.S ⊕ ((List Qe) × Int)):=
 if Qgv < (a0.length:Int) then
  some (.inl (.l3 Qgv 0 Ja))
 else
  some (.inr (Ja,0))
def Qs.l3 (a0:List Qt) (Qad:Int) (Qc3:Int) (Yt:List Qe):Option (Qs.S ⊕ ((List Qe) × Int)):=
 if 0<=Qad/\Qad < (a0.length:Int) then
  if Qc3 < (((a0.getD Qad.toNat Qt.z).Log).length:Int) then
   if 0<=Qc3/\Qc3 < (((a0.getD Qad.toNat Qt.z).Log).length:Int) then
    some (.inl (.l4 Qad Qc3 Yt false false 0 ([]:List Qe)))
   else none
  else
   some (.inl (.l2 (IntKind.wrap .i64 (Qad+1)) Yt))
 else none
def Qs.l4 (a0:List Qt) (Qad:Int) (Qc3:Int) (Yt:List Qe) (Qke:Bool) (Qf8:Bool) (Qdq:Int) (Qfj:List Qe):Option (Qs.S ⊕ ((List Qe) × Int)):=
 if Qdq < (Yt.length:Int) then
  if 0<=Qdq/\Qdq < (Yt.length:Int) then
   if (((Yt.getD Qdq.toNat Qe.z).M).Client)=(((((a0.getD Qad.toNat Qt.z).Log).getD Qc3.toNat Qe.z).M).Client) then
    Qs.j3 a0 Qad Qc3 Yt Qke Qf8 Qdq Qfj ((((Yt.getD Qdq.toNat Qe.z).M).Seq) == (((((a0.getD Qad.toNat Qt.z).Log).getD Qc3.toNat Qe.z).M).Seq))
   else
    Qs.j3 a0 Qad Qc3 Yt Qke Qf8 Qdq Qfj false
  else none
 else
  if Qf8=true then
   Qs.j1 Qad Qc3 Yt Qke Qfj
  else
   if (Qfj.length+1) * 88<=140737488355328 then
    Qs.j1 Qad Qc3 Yt Qke (Qfj ++ [(((a0.getD Qad.toNat Qt.z).Log).getD Qc3.toNat Qe.z)])
   else none
def Qs.step (a0:List Qt):Qs.S->Option (Qs.S ⊕ ((List Qe) × Int))
 | .l1 Yb=>Qs.l1 a0 Yb
 | .l2 Qgv Ja=>Qs.l2 a0 Qgv Ja
 | .l3 Qad Qc3 Yt=>Qs.l3 a0 Qad Qc3 Yt
 | .l4 Qad Qc3 Yt Qke Qf8 Qdq Qfj=>Qs.l4 a0 Qad Qc3 Yt Qke Qf8 Qdq Qfj
def Qs (a0:List Qt):Option ((List Qe) × Int):=
 Xb (Qs.step a0) (.l1 0)
inductive Qo.S where
 | l1
 | l2 (Qba:Int) (Qar:List Qe)
 | l3 (Qar:List Qe)
def Qo.l1:Option (Qo.S ⊕ Qt):=
 some (.inl (.l2 0 ([]:List Qe)))
def Qo.l2 (a0:List Qc) (Qba:Int) (Qar:List Qe):Option (Qo.S ⊕ Qt):=
 if Qba < (a0.length:Int) then
  if 0<=Qba/\Qba < (a0.length:Int) then
   (Wz ((a0.getD Qba.toNat Qc.z).M)).bind fun v2=>
   if (Qar.length+1) * 88<=140737488355328 then
    some (.inl (.l2 (IntKind.wrap .i64 (Qba+1)) (Qar ++ [(⟨v2,(a0.getD Qba.toNat Qc.z).Time,(a0.getD Qba.toNat Qc.z).Jc⟩:Qe)])))
   else none
  else none
 else
  some (.inl (.l3 Qar))
def Qo.l3 (v1:List Qj) (Qar:List Qe):Option (Qo.S ⊕ Qt):=
 some (.inr (⟨0,(⟨0,0⟩:Qx),0,false,false,([]:List Xo),v1,Qar,([]:List Yg)⟩:Qt))
def Qo.step (a0:List Qc) (v1:List Qj):Qo.S->Option (Qo.S ⊕ Qt)
 | .l1=>Qo.l1
 | .l2 Qba Qar=>Qo.l2 a0 Qba Qar
 | .l3 Qar=>Qo.l3 v1 Qar
def Qo (a0:List Qc):Option Qt:=
 (Jd ([]:List Qa)).bind fun v1=>
 Xb (Qo.step a0 v1) (.l1)
def Qbm (a0:List Qc):Option (List Qe):=
 (Qo a0).bind fun v1=>
 some v1.Log
inductive Yd.S where
 | l1 (Wy:Int)
def Yd.j1 (Wy:Int) (Qrn:Bool):Option (Yd.S ⊕ Bool):=
 if Qrn=true then
  some (.inr false)
 else
  some (.inl (.l1 (IntKind.wrap .i64 (Wy+1))))
def Yd.l1 (a0:List Qe) (a1:List Qe) (Wy:Int):Option (Yd.S ⊕ Bool):=
 if Wy < (a0.length:Int) then
  if 0<=Wy/\Wy < (a0.length:Int) then
   if 0<=Wy/\Wy < (a1.length:Int) then
    (Xh ((a0.getD Wy.toNat Qe.z).M) ((a1.getD Wy.toNat Qe.z).M)).bind fun v1=>
    if v1=true then
     if ((a0.getD Wy.toNat Qe.z).Time)=((a1.getD Wy.toNat Qe.z).Time) then
      Yd.j1 Wy (!(((a0.getD Wy.toNat Qe.z).Jc) == ((a1.getD Wy.toNat Qe.z).Jc)))
     else
      Yd.j1 Wy true
    else
     Yd.j1 Wy true
   else none
  else none
 else
  some (.inr true)
def Yd.step (a0:List Qe) (a1:List Qe):Yd.S->Option (Yd.S ⊕ Bool)
 | .l1 Wy=>Yd.l1 a0 a1 Wy
def Yd (a0:List Qe) (a1:List Qe):Option Bool:=
 if (a0.length:Int)=(a1.length:Int) then
  Xb (Yd.step a0 a1) (.l1 0)
 else
  some false
inductive Qat.S where
 | l1 (Yv:Int) (Xi:QL)
def Qat.l1 (a0:Qf) (Yv:Int) (Xi:QL):Option (Qat.S ⊕ Int):=
 if Yv < (a0.Held.length:Int) then
  if 0<=Yv/\Yv < (a0.Held.length:Int) then
   (Wb2 Xi (⟨((a0.Held.getD Yv.toNat Qr.z).M),(a0.Held.getD Yv.toNat Qr.z).Time,false⟩:Yo)).bind fun v3=>
   some (.inl (.l1 (IntKind.wrap .i64 (Yv+1)) v3.2))
  else none
 else
  some (.inr (Qj9 Xi a0.Clock))
def Qat.step (a0:Qf):Qat.S->Option (Qat.S ⊕ Int)
 | .l1 Yv Xi=>Qat.l1 a0 Yv Xi
def Qat (a0:Qf):Option Int:=
 (Yx a0).bind fun v1=>
 if v1=true then
  bnd (Qqe) fun (v2:QL)=>
  Xb (Qat.step a0) (.l1 0 v2)
 else
  some 0
inductive Zp.S where
 | l1 (Qy:Int)
def Zp.l1 (a0:List Ql) (p1:Ql->Option Bool) (Qy:Int):Option (Zp.S ⊕ Int):=
 if Qy < (a0.length:Int) then
  if 0<=Qy/\Qy < (a0.length:Int) then
   (p1 (a0.getD Qy.toNat Ql.z)).bind fun v1=>
   if v1=true then
    some (.inr Qy)
   else
    some (.inl (.l1 (IntKind.wrap .i64 (Qy+1))))
  else none
 else
  some (.inr (-1))
def Zp.step (a0:List Ql) (p1:Ql->Option Bool):Zp.S->Option (Zp.S ⊕ Int)
 | .l1 Qy=>Zp.l1 a0 p1 Qy
def Zp (a0:List Ql) (p1:Ql->Option Bool):Option Int:=
 Xb (Zp.step a0 p1) (.l1 0)
def Qc7 (a0:List Ql) (p1:Ql->Option Bool):Option Bool:=
 (Zp a0 p1).bind fun v1=>
 some (decide (v1>=0))
def Qcm.j1 (Qg6:Bool):Bool:=
 Qg6
def Qcm (a0:Ql) (k0:Qc):Bool:=
 if a0.Client=k0.M.Client then
  Qcm.j1 (a0.Seq == k0.M.Seq)
 else
  Qcm.j1 false
def Qgs (a0:Qf) (a1:Qc):Option Bool:=
 (Qc7 a0.Qw (fun z0=>some (Qcm z0 a1))).bind fun v1=>
 some v1
inductive Wh.S where
 | l1 (Wy:Int) (Zw:Int)
 | l2 (v2:Int) (Qa6:Int) (Qcg:Int) (Qaj:Int) (Yq:Int) (Xx:Int) (Zz:Int) (Qaf:Int) (Qag:Bool) (Js:Bool) (Qah:List Qr) (Qai:List Qa) (Qam:List Qc) (Qan:List Ql)
def Wh.j2 (Qcg:Int) (Qaj:Int) (Yq:Int) (Xx:Int) (Zz:Int) (Qaf:Int) (Qag:Bool) (Js:Bool) (Qah:List Qr) (Qai:List Qa) (Qam:List Qc) (Qan:List Ql) (v2:Int) (Qo4:Int):Option (Wh.S ⊕ Int):=
 some (.inl (.l2 v2 Qo4 Qcg (IntKind.wrap .i64 (Qaj+1)) Yq Xx Zz Qaf Qag Js Qah Qai Qam Qan))
def Wh.j1 (Qa6:Int) (Qcg:Int) (Qaj:Int) (Yq:Int) (Xx:Int) (Zz:Int) (Qaf:Int) (Qag:Bool) (Js:Bool) (Qah:List Qr) (Qai:List Qa) (Qam:List Qc) (Qan:List Ql) (v2:Int) (Qro:Bool):Option (Wh.S ⊕ Int):=
 if Qro=true then
  Wh.j2 Qcg Qaj Yq Xx Zz Qaf Qag Js Qah Qai Qam Qan v2 (IntKind.wrap .i64 (Qa6+1))
 else
  Wh.j2 Qcg Qaj Yq Xx Zz Qaf Qag Js Qah Qai Qam Qan v2 Qa6
def Wh.l1 (a0:List Qf) (Wy:Int) (Zw:Int):Option (Wh.S ⊕ Int):=
 if Zw < (a0.length:Int) then
  if 0<=Zw/\Zw < (a0.length:Int) then
   (Qat (a0.getD Zw.toNat Qf.z)).bind fun v2=>
   some (.inl (.l2 v2 Wy Zw 0 ((a0.getD Zw.toNat Qf.z).ID) (((a0.getD Zw.toNat Qf.z).Keys).Lo) (((a0.getD Zw.toNat Qf.z).Keys).Hi) ((a0.getD Zw.toNat Qf.z).Clock) ((a0.getD Zw.toNat Qf.z).Qdd) ((a0.getD Zw.toNat Qf.z).Qb6) ((a0.getD Zw.toNat Qf.z).Held) ((a0.getD Zw.toNat Qf.z).Base) ((a0.getD Zw.toNat Qf.z).Log) ((a0.getD Zw.toNat Qf.z).Qw)))
  else none
 else
  some (.inr Wy)
def Wh.l2 (v1:(List Qc) × Int) (v2:Int) (Qa6:Int) (Qcg:Int) (Qaj:Int) (Yq:Int) (Xx:Int) (Zz:Int) (Qaf:Int) (Qag:Bool) (Js:Bool) (Qah:List Qr) (Qai:List Qa) (Qam:List Qc) (Qan:List Ql):Option (Wh.S ⊕ Int):=
 if Qaj < (v1.1.length:Int) then
  if 0<=Qaj/\Qaj < (v1.1.length:Int) then
   if Js=true then
    Wh.j1 Qa6 Qcg Qaj Yq Xx Zz Qaf Qag Js Qah Qai Qam Qan v2 false
   else
    if ((v1.1.getD Qaj.toNat Qc.z).Time)<=v2 then
     (Qa0 ((v1.1.getD Qaj.toNat Qc.z).M)).bind fun v3=>
     (Qdc v3 ([(⟨Xx,Zz⟩:Qb)]:List Qb)).bind fun v4=>
     if v4=true then
      (Qgs (⟨Yq,(⟨Xx,Zz⟩:Qb),Qaf,Qag,Js,Qah,Qai,Qam,Qan⟩:Qf) (v1.1.getD Qaj.toNat Qc.z)).bind fun v5=>
      Wh.j1 Qa6 Qcg Qaj Yq Xx Zz Qaf Qag Js Qah Qai Qam Qan v2 (!v5)
     else
      Wh.j1 Qa6 Qcg Qaj Yq Xx Zz Qaf Qag Js Qah Qai Qam Qan v2 false
    else
     Wh.j1 Qa6 Qcg Qaj Yq Xx Zz Qaf Qag Js Qah Qai Qam Qan v2 false
  else none
 else
  some (.inl (.l1 Qa6 (IntKind.wrap .i64 (Qcg+1))))
def Wh.step (a0:List Qf) (v1:(List Qc) × Int):Wh.S->Option (Wh.S ⊕ Int)
 | .l1 Wy Zw=>Wh.l1 a0 Wy Zw
 | .l2 v2 Qa6 Qcg Qaj Yq Xx Zz Qaf Qag Js Qah Qai Qam Qan=>Wh.l2 v1 v2 Qa6 Qcg Qaj Yq Xx Zz Qaf Qag Js Qah Qai Qam Qan
def Wh (a0:List Qf):Option Int:=
 (Qm a0).bind fun v1=>
 if v1.2=0 then
  Xb (Wh.step a0 v1) (.l1 0 0)
 else
  some (-1)
inductive Zv.S where
 | l1 (Xe:Int) (Yb:Int)
def Zv.j2 (Yb:Int) (Wlj:Int):Option (Zv.S ⊕ Int):=
 some (.inl (.l1 Wlj (IntKind.wrap .i64 (Yb+1))))
def Zv.j1 (a0:Qt) (Xe:Int) (Yb:Int) (Qne:Bool):Option (Zv.S ⊕ Int):=
 if Qne=true then
  if 0<=Yb/\Yb < (a0.Held.length:Int) then
   bnd (IntKind.wrap .i64 (((a0.Held.getD Yb.toNat Xo.z).Time) - 1)) fun (v1:Int)=>
   Zv.j2 Yb v1
  else none
 else
  Zv.j2 Yb Xe
def Zv.l1 (a0:Qt) (Xe:Int) (Yb:Int):Option (Zv.S ⊕ Int):=
 if Yb < (a0.Held.length:Int) then
  if Yb=0 then
   Zv.j1 a0 Xe Yb true
  else
   if 0<=Yb/\Yb < (a0.Held.length:Int) then
    Zv.j1 a0 Xe Yb (decide ((IntKind.wrap .i64 (((a0.Held.getD Yb.toNat Xo.z).Time) - 1)) < Xe))
   else none
 else
  some (.inr Xe)
def Zv.step (a0:Qt):Zv.S->Option (Zv.S ⊕ Int)
 | .l1 Xe Yb=>Zv.l1 a0 Xe Yb
def Zv (a0:Qt):Option Int:=
 Xb (Zv.step a0) (.l1 a0.Clock 0)
inductive Jk.S where
 | l1 (Qab:Int)
def Jk.j1 (Qab:Int) (Wck:Bool):Option (Jk.S ⊕ Bool):=
 if Wck=true then
  some (.inr true)
 else
  some (.inl (.l1 (IntKind.wrap .i64 (Qab+1))))
def Jk.l1 (a1:Qx) (v1:List Qx) (Qab:Int):Option (Jk.S ⊕ Bool):=
 if Qab < (v1.length:Int) then
  if 0<=Qab/\Qab < (v1.length:Int) then
   if ((v1.getD Qab.toNat Qx.z).Lo) < a1.Hi then
    Jk.j1 Qab (decide (a1.Lo < ((v1.getD Qab.toNat Qx.z).Hi)))
   else
    Jk.j1 Qab false
  else none
 else
  some (.inr false)
def Jk.step (a1:Qx) (v1:List Qx):Jk.S->Option (Jk.S ⊕ Bool)
 | .l1 Qab=>Jk.l1 a1 v1 Qab
def Jk (a0:Xq) (a1:Qx):Option Bool:=
 (Qa1 a0).bind fun v1=>
 Xb (Jk.step a1 v1) (.l1 0)
inductive Xg.S where
 | l1 (Wy:Int) (Qab:Int)
 | l2 (v2:Int) (Qa6:Int) (Qgv:Int) (Qi6:Int)
 | l3 (v2:Int) (Qfe:Int) (Qad:Int) (Qin:Int) (Qtp:Bool) (Qiw:Int) (Qhy:Int) (Qhz:Int) (Qix:Int) (Qiy:List Qj) (Qiz:Int) (Qi0:Int) (Qi1:Int) (Qi2:Int) (Qjx:Bool)
def Xg.j3 (Qfe:Int) (Qad:Int) (Qin:Int) (Qiw:Int) (Qhy:Int) (Qhz:Int) (Qix:Int) (Qiy:List Qj) (Qiz:Int) (Qi0:Int) (Qi1:Int) (Qi2:Int) (Qjx:Bool) (v2:Int) (Wkz:Bool):Option (Xg.S ⊕ Int):=
 some (.inl (.l3 v2 Qfe Qad Qin Wkz (IntKind.wrap .i64 (Qiw+1)) Qhy Qhz Qix Qiy Qiz Qi0 Qi1 Qi2 Qjx))
def Xg.j2 (Qad:Int) (Qin:Int) (v2:Int) (Qo4:Int):Option (Xg.S ⊕ Int):=
 some (.inl (.l2 v2 Qo4 Qad (IntKind.wrap .i64 (Qin+1))))
def Xg.j1 (Qfe:Int) (Qad:Int) (Qin:Int) (v2:Int) (Wkf:Bool):Option (Xg.S ⊕ Int):=
 if Wkf=true then
  Xg.j2 Qad Qin v2 (IntKind.wrap .i64 (Qfe+1))
 else
  Xg.j2 Qad Qin v2 Qfe
def Xg.l1 (a0:List Qt) (Wy:Int) (Qab:Int):Option (Xg.S ⊕ Int):=
 if Qab < (a0.length:Int) then
  if 0<=Qab/\Qab < (a0.length:Int) then
   (Zv (a0.getD Qab.toNat Qt.z)).bind fun v2=>
   some (.inl (.l2 v2 Wy Qab 0))
  else none
 else
  some (.inr Wy)
def Xg.l2 (v1:(List Qe) × Int) (v2:Int) (Qa6:Int) (Qgv:Int) (Qi6:Int):Option (Xg.S ⊕ Int):=
 if Qi6 < (v1.1.length:Int) then
  if 0<=Qi6/\Qi6 < (v1.1.length:Int) then
   some (.inl (.l3 v2 Qa6 Qgv Qi6 false 0 (((v1.1.getD Qi6.toNat Qe.z).M).Client) (((v1.1.getD Qi6.toNat Qe.z).M).Seq) (((v1.1.getD Qi6.toNat Qe.z).M).Kind) (((v1.1.getD Qi6.toNat Qe.z).M).Pairs) ((((v1.1.getD Qi6.toNat Qe.z).M).Over).Lo) ((((v1.1.getD Qi6.toNat Qe.z).M).Over).Hi) (((v1.1.getD Qi6.toNat Qe.z).M).Old) ((v1.1.getD Qi6.toNat Qe.z).Time) ((v1.1.getD Qi6.toNat Qe.z).Jc)))
  else none
 else
  some (.inl (.l1 Qa6 (IntKind.wrap .i64 (Qgv+1))))
def Xg.l3 (a0:List Qt) (v2:Int) (Qfe:Int) (Qad:Int) (Qin:Int) (Qtp:Bool) (Qiw:Int) (Qhy:Int) (Qhz:Int) (Qix:Int) (Qiy:List Qj) (Qiz:Int) (Qi0:Int) (Qi1:Int) (Qi2:Int) (Qjx:Bool):Option (Xg.S ⊕ Int):=
 if 0<=Qad/\Qad < (a0.length:Int) then
  if Qiw < (((a0.getD Qad.toNat Qt.z).Qw).length:Int) then
   if 0<=Qiw/\Qiw < (((a0.getD Qad.toNat Qt.z).Qw).length:Int) then
    if Qtp=true then
     Xg.j3 Qfe Qad Qin Qiw Qhy Qhz Qix Qiy Qiz Qi0 Qi1 Qi2 Qjx v2 true
    else
     if ((((a0.getD Qad.toNat Qt.z).Qw).getD Qiw.toNat Yg.z).Client)=Qhy then
      Xg.j3 Qfe Qad Qin Qiw Qhy Qhz Qix Qiy Qiz Qi0 Qi1 Qi2 Qjx v2 (((((a0.getD Qad.toNat Qt.z).Qw).getD Qiw.toNat Yg.z).Seq) == Qhz)
     else
      Xg.j3 Qfe Qad Qin Qiw Qhy Qhz Qix Qiy Qiz Qi0 Qi1 Qi2 Qjx v2 false
   else none
  else
   if ((a0.getD Qad.toNat Qt.z).Qb6)=true then
    Xg.j1 Qfe Qad Qin v2 false
   else
    if Qi2<=v2 then
     (Jk (⟨Qhy,Qhz,Qix,Qiy,(⟨Qiz,Qi0⟩:Qx),Qi1⟩:Xq) ((a0.getD Qad.toNat Qt.z).Keys)).bind fun v3=>
     if v3=true then
      Xg.j1 Qfe Qad Qin v2 (!Qtp)
     else
      Xg.j1 Qfe Qad Qin v2 false
    else
     Xg.j1 Qfe Qad Qin v2 false
 else none
def Xg.step (a0:List Qt) (v1:(List Qe) × Int):Xg.S->Option (Xg.S ⊕ Int)
 | .l1 Wy Qab=>Xg.l1 a0 Wy Qab
 | .l2 v2 Qa6 Qgv Qi6=>Xg.l2 v1 v2 Qa6 Qgv Qi6
 | .l3 v2 Qfe Qad Qin Qtp Qiw Qhy Qhz Qix Qiy Qiz Qi0 Qi1 Qi2 Qjx=>Xg.l3 a0 v2 Qfe Qad Qin Qtp Qiw Qhy Qhz Qix Qiy Qiz Qi0 Qi1 Qi2 Qjx
def Xg (a0:List Qt):Option Int:=
 (Qs a0).bind fun v1=>
 if v1.2=0 then
  Xb (Xg.step a0 v1) (.l1 0 0)
 else
  some (-1)
def Qcd.j1 (Qcq:Bool):Option Bool:=
 some Qcq
def Qcd (a0:List Qf):Option Bool:=
 (Jm a0).bind fun v1=>
 if v1=true then
  (Qm a0).bind fun v3=>
  (Qa2 a0).bind fun v4=>
  (Qs v4).bind fun v5=>
  (Qk).bind fun v6=>
  if v6=true then
   (Qbm v3.1).bind fun v7=>
   (Yd v7 v5.1).bind fun v8=>
   if v8=true then
    if v3.2=v5.2 then
     (Wh a0).bind fun v9=>
     (Qa2 a0).bind fun v10=>
     (Xg v10).bind fun v11=>
     Qcd.j1 (v9 == v11)
    else
     Qcd.j1 false
   else
    Qcd.j1 false
  else
   Qcd.j1 false
 else
  (Qk).bind fun v2=>
  some v2
inductive Qp.S where
 | l1 (Yb:Int) (Qh:List Qf)
def Qp.j3 (Qg7:Bool):Option (Qp.S ⊕ Bool):=
 some (.inr Qg7)
def Qp.j2 (a0:List Qf) (Qh:List Qf) (v3:(List Qc) × Int) (v4:(List Qc) × Int) (Qng:Bool):Option (Qp.S ⊕ Bool):=
 if Qng=true then
  some (.inr false)
 else
  if (([]:List Qf).length+a0.length) * 136<=140737488355328 then
   if ((([]:List Qf) ++ a0).length+Qh.length) * 136<=140737488355328 then
    (Qm ((([]:List Qf) ++ a0) ++ Qh)).bind fun v9=>
    (Qk).bind fun v10=>
    if v10=true then
     if v3.2=0 then
      (Qbm v3.1).bind fun v11=>
      (Qbm v4.1).bind fun v12=>
      (Yd v11 v12).bind fun v13=>
      if v13=true then
       if v9.2=0 then
        (Qbm v3.1).bind fun v14=>
        (Qbm v9.1).bind fun v15=>
        (Yd v14 v15).bind fun v16=>
        Qp.j3 v16
       else
        Qp.j3 false
      else
       Qp.j3 false
     else
      Qp.j3 true
    else
     Qp.j3 false
   else none
  else none
def Qp.l1 (a0:List Qf) (Yb:Int) (Qh:List Qf):Option (Qp.S ⊕ Bool):=
 if Yb>=0 then
  if 0<=Yb/\Yb < (a0.length:Int) then
   if (Qh.length+1) * 136<=140737488355328 then
    some (.inl (.l1 (IntKind.wrap .i64 (Yb - 1)) (Qh ++ [a0.getD Yb.toNat Qf.z])))
   else none
  else none
 else
  (Qm a0).bind fun v3=>
  (Qm Qh).bind fun v4=>
  if v3.2=0 then
   if v4.2=0 then
    (Wh a0).bind fun v5=>
    (Wh Qh).bind fun v6=>
    Qp.j2 a0 Qh v3 v4 (v5 != v6)
   else
    Qp.j2 a0 Qh v3 v4 true
  else
   if v4.2=0 then
    Qp.j2 a0 Qh v3 v4 true
   else
    (Wh a0).bind fun v7=>
    (Wh Qh).bind fun v8=>
    Qp.j2 a0 Qh v3 v4 (v7 != v8)
def Qp.step (a0:List Qf):Qp.S->Option (Qp.S ⊕ Bool)
 | .l1 Yb Qh=>Qp.l1 a0 Yb Qh
def Qp.j1 (a0:List Qf) (Qrb:Bool):Option Bool:=
 if Qrb=true then
  (Qk).bind fun v2=>
  some v2
 else
  Xb (Qp.step a0) (.l1 (IntKind.wrap .i64 ((a0.length:Int) - 1)) ([]:List Qf))
def Qp (a0:List Qf):Option Bool:=
 if (a0.length:Int) > 4 then
  Qp.j1 a0 true
 else
  (Jm a0).bind fun v1=>
  Qp.j1 a0 (!v1)
end
end Go.SyP
