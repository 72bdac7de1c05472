/- Floors, and how much cores miss. -/
import Derived.Test.YticmlllaimjdcaaGreatP15zX
set_option linter.unusedVariables false
set_option linter.unusedSimpArgs false
namespace Go.SyP
open Go Go.Sy Sets
noncomputable section
def Qnn (c:Qf) (f:Int):Prop:=(c.Held=[]/\f=c.Clock)\/∃ w∈c.Held,f=w.Time - 1/\∀ w'∈c.Held,w.Time<=w'.Time
theorem Qnn.unique {c:Qf} {f g:Int} (h:Qnn c f) (k:Qnn c g):f=g:=by
 rcases h with ⟨h1,h2⟩ | ⟨w,hw,h1,h2⟩<;>rcases k with ⟨k1,k2⟩ | ⟨v,hv,k1,k2⟩
 ·rw [h2,k2]
 ·rw [h1] at hv;cases hv
 ·rw [k1] at hw;cases hw
 have:=h2 v hv
 have:=k2 w hw
 omega
def toH (w:Qr):Yo:=⟨w.M,w.Time,false⟩
theorem Wfz {c:Qf} (hf:Qhg c) (hc:Qc6 c):∃ f,Qat c=some f/\Qnn c f:=by
 have hh:=hf.held
 obtain ⟨r,c1,c2⟩:=Qli hf
 unfold Qat
 rw [c1,Option.bind_some,if_pos (c2.2 hc)]
 simp only [bnd]
 refine Qbb (step:=Qat.step c) (n:=c.Held.length) (fun i (q:QL)=>Qat.S.l1 (i:Int) q) (fun i q=>q.l.length<=i/\∀ h,h∈q.l↔∃ w∈c.Held.take i,h=toH w) _ ?_ ?_ 0 Qqe (Nat.zero_le _) ⟨by simp [Qqe],by simp [Qqe]⟩
 ·rintro q ⟨h1,h2⟩
  rw [Qau (Nat.le_refl _)] at h2
  refine ⟨Qj9 q c.Clock,by simp [Qat.step,Qat.l1], ?_⟩
  unfold Qj9
  have hup:=q.good.up
  generalize q.l=L at h1 h2 hup
  cases L with
  | nil=>
   left
   refine ⟨List.eq_nil_iff_forall_not_mem.2 fun w hw=>?_,rfl⟩
   have:=(h2 (toH w)).2 ⟨w,hw,rfl⟩
   cases this
  | cons x L=>
   right
   obtain ⟨w,hw,rfl⟩:=(h2 x).1 (List.mem_cons_self ..)
   have ht:=hc.wt
   have hbound:∀ v∈c.Held,1<=v.Time/\v.Time<=c.Clock:=fun v hv=>by
    have:=Qla (z:=Qr.z) (p:=fun v:Qr=>1<=v.Time/\v.Time<=c.Clock) |>.1 fun i hi=>(ht i hi).2.2.1
    exact this v hv
   have hb:=hbound w hw
   have hcl:=hc.clock
   refine ⟨w,hw,wr (by show -9223372036854775808<=w.Time - 1/\w.Time - 1<=_;omega),fun v hv=>?_⟩
   rcases List.mem_cons.1 ((h2 (toH v)).2 ⟨v,hv,rfl⟩) with e | h3
   ·have:v.Time=w.Time:=congrArg (·.Time) e
    omega
   have:=(List.pairwise_cons.1 hup).1 _ h3
   unfold ltH ltS Qcp toH at this
   simp only at this
   omega
 rintro i q hi ⟨h1,h2⟩
 have Xr:(0:Int)<=(i:Int)/\(i:Int) < (c.Held.length:Int):=by omega
 have hx:=take_at (l:=c.Held) (z:=Qr.z) hi
 obtain ⟨w1,w2,w3,w4,w5,w6⟩:=hc.wt i hi
 have hp:=(hf.hp _ (Qbf (z:=Qr.z) hi)).1
 have hcl:=hc.clock
 left
 have hnone:Qlk (c.Held.getD i Qr.z).M.Client (c.Held.getD i Qr.z).M.Seq q.l=none:=by
  unfold Qlk
  rw [List.find?_eq_none]
  intro h hh2 hk
  obtain ⟨v,hv,rfl⟩:=(h2 h).1 hh2
  obtain ⟨j,hj,rfl⟩:=List.getElem_of_mem hv
  have hji:j < i:=by rw [List.length_take] at hj;omega
  have hkk:=Qnx.1 hk
  refine w4 j hji ?_
  have e:(c.Held.take i)[j]=c.Held.getD j Qr.z:=by
   rw [List.getElem_take]
   simp [show j < c.Held.length by omega]
  rw [e] at hkk
  exact hkk
 simp only [Qat.step,Qat.l1,Xr.2,if_true,Xr,and_self,show (i:Int).toNat=i from rfl,wr1 hi (by omega:c.Held.length<=9223372036854775807)]
 unfold Wb2
 simp only []
 rw [Qfr _ (by omega),w1,Option.bind_some,if_pos ⟨by omega,by omega⟩,if_pos ⟨rfl,by show Qmj (c.Held.getD i Qr.z).Time=true;rw [Qmj,Bool.and_eq_true,decide_eq_true_eq,decide_eq_true_eq];omega⟩]
 have Qb9:Quh q ⟨(c.Held.getD i Qr.z).M,(c.Held.getD i Qr.z).Time,false⟩=(0,⟨Qh5 (toH (c.Held.getD i Qr.z)) q.l,Qsa q.good hnone (by show (c.Held.getD i Qr.z).M.Pairs.length<=_;omega)⟩):=by
  unfold Quh
  split
  ·rename_i x e
   rw [show Qlk (c.Held.getD i Qr.z).M.Client (c.Held.getD i Qr.z).M.Seq q.l=none from hnone] at e
   cases e
  rw [dif_pos (by show (c.Held.getD i Qr.z).M.Pairs.length<=1000000;omega)]
  rfl
 rw [Qb9,Option.bind_some]
 refine ⟨_,rfl, ?_,fun h=>?_⟩
 ·show (Qh5 _ q.l).length<=i+1
  rw [(Qjr _ q.l).length_eq,List.length_cons]
  omega
 show h∈Qh5 _ q.l↔_
 rw [(Qjr _ q.l).mem_iff,List.mem_cons,h2,hx]
 constructor
 ·rintro (rfl | ⟨w,hw,rfl⟩)
  ·exact ⟨_,List.mem_append.2 (.inr (List.mem_singleton.2 rfl)),rfl⟩
  exact ⟨w,List.mem_append.2 (.inl hw),rfl⟩
 rintro ⟨w,hw,rfl⟩
 rcases List.mem_append.1 hw with hw | hw
 ·exact .inr ⟨w,hw,rfl⟩
 simp only [List.mem_singleton] at hw
 subst hw
 exact .inl rfl
theorem Qxy {c:Qf} (hf:Qhg c) (hc:Qc6 c):∃ f,Zv (trO c)=some f/\Qnn c f:=by
 have hh:=hf.held
 have hcl:=hc.clock
 unfold Zv
 refine Qbb (step:=Zv.step (trO c)) (n:=c.Held.length) (fun i (f:Int)=>Zv.S.l1 f (i:Int)) (fun i f=>(i=0/\f=c.Clock)\/∃ w∈c.Held.take i,f=w.Time - 1/\∀ w'∈c.Held.take i,w.Time<=w'.Time) _ ?_ ?_ 0 c.Clock (Nat.zero_le _) (.inl ⟨rfl,rfl⟩)
 ·intro f h
  refine ⟨f,by simp [Zv.step,Zv.l1,trO], ?_⟩
  rw [Qau (Nat.le_refl _)] at h
  rcases h with ⟨h1,h2⟩ | h
  ·exact .inl ⟨List.length_eq_zero_iff.1 h1,h2⟩
  exact .inr h
 intro i f hi h
 have Xr:(0:Int)<=(i:Int)/\(i:Int) < (c.Held.length:Int):=by omega
 have hx:=take_at (l:=c.Held) (z:=Qr.z) hi
 have hb:=(hc.wt i hi).2.2.1
 left
 have hj2:∀ y,Zv.j2 (i:Int) y=some (.inl (.l1 y ((i+1:Nat):Int))):=fun y=>by
  simp only [Zv.j2,wr1 hi (by omega:c.Held.length<=9223372036854775807)]
 simp only [Zv.step,Zv.l1,Zv.j1,bnd,show (trO c).Held=c.Held.map trW from rfl,List.length_map,Xr.2,if_true,Xr,and_self,show (i:Int).toNat=i from rfl,Qtn c.Held hi,hj2]
 rw [show (trW (c.Held.getD i Qr.z)).Time=(c.Held.getD i Qr.z).Time from rfl,wr (by omega:-9223372036854775808<=(c.Held.getD i Qr.z).Time - 1/\(c.Held.getD i Qr.z).Time - 1<=9223372036854775807)]
 rw [hx]
 generalize c.Held.getD i Qr.z=w at hb ⊢
 have hnew:(∀ w'∈c.Held.take i,w.Time<=w'.Time)->∃ v∈c.Held.take i ++ [w],w.Time - 1=v.Time - 1/\∀ w'∈c.Held.take i ++ [w],v.Time<=w'.Time:=fun h=>⟨w,List.mem_append.2 (.inr (List.mem_singleton.2 rfl)),rfl,fun w' hw'=>by
  rcases List.mem_append.1 hw' with h1 | h1
  ·exact h w' h1
  simp only [List.mem_singleton] at h1
  subst h1
  exact Int.le_refl _⟩
 by_cases hi0:(i:Int)=0
 ·rw [if_pos hi0]
  refine ⟨_,rfl,.inr (hnew fun w' hw'=>?_)⟩
  rw [show i=0 by omega] at hw'
  simp at hw'
 rw [if_neg hi0]
 rcases h with ⟨h1,_⟩ | ⟨v,hv,h1,h2⟩
 ·omega
 by_cases hlt:w.Time - 1 < f
 ·rw [decide_eq_true hlt,if_pos rfl]
  exact ⟨_,rfl,.inr (hnew fun w' hw'=>by have:=h2 w' hw';omega)⟩
 rw [decide_eq_false hlt,if_neg (by simp)]
 refine ⟨_,rfl,.inr ⟨v,List.mem_append.2 (.inl hv),h1,fun w' hw'=>?_⟩⟩
 rcases List.mem_append.1 hw' with h3 | h3
 ·exact h2 w' h3
 simp only [List.mem_singleton] at h3
 subst h3
 omega
def Qe2 (c:Qf):Int:=(Qat c).getD 0
theorem Qy2 {c:Qf} (hf:Qhg c) (hc:Qc6 c):Qat c=some (Qe2 c)/\Zv (trO c)=some (Qe2 c):=by
 obtain ⟨f,h1,h2⟩:=Wfz hf hc
 obtain ⟨g,h3,h4⟩:=Qxy hf hc
 unfold Qe2
 rw [h1]
 exact ⟨rfl,by rw [h3,h4.unique h2];rfl⟩
instance (c s:Int) (k:Ql):Decidable (isW c s k):=by unfold isW;infer_instance
def kB (c:Qf) (e:Qc):Bool:=c.Qw.any fun k=>decide (isW e.M.Client e.M.Seq k)
def Qls (c:Qf) (e:Qc):Bool:=!c.Qb6 && (decide (e.Time<=Qe2 c) && (Qgu e.M [c.Keys] && !kB c e))
def Qko (c:Qf) (n:Nat) (e:Qc):Nat:=if Qls c e=true then n+1 else n
def Qlh (S:List Qc) (c:Qf):Nat:=(S.filter (Qls c)).length
theorem Qpu (c:Qf):∀ (S:List Qc) (n:Nat),S.foldl (Qko c) n=n+Qlh S c
 | [],n=>by simp [Qlh]
 | e :: S,n=>by
  rw [List.foldl_cons,Qpu c S]
  unfold Qko Qlh
  rw [List.filter_cons]
  split<;>simp<;>omega
theorem Wis (S:List Qc) (c:Qf):Qlh S c<=S.length:=List.length_filter_le _ _
theorem Wbm (k:Ql) (e:Qc):Qcm k e=decide (isW e.M.Client e.M.Seq k):=by
 unfold Qcm Qcm.j1 isW
 by_cases h:k.Client=e.M.Client
 ·rw [if_pos h,Bool.eq_iff_iff];simp [h]
 rw [if_neg h];simp [h]
theorem Weu {c:Qf} (e:Qc) (hn:c.Qw.length<=5000):Qgs c e=some (kB c e):=by
 obtain ⟨r,h1,h2⟩:=Qbb (step:=Zp.step c.Qw (fun z0=>some (Qcm z0 e))) (n:=c.Qw.length) (fun i (_:Unit)=>Zp.S.l1 (i:Int)) (fun i _=>∀ k∈c.Qw.take i,decide (isW e.M.Client e.M.Seq k)=false) (fun r=>decide (r>=0)=kB c e)
  (fun _ h=>by
   rw [Qau (Nat.le_refl _)] at h
   refine ⟨-1,by simp [Zp.step,Zp.l1], ?_⟩
   have:kB c e=false:=by
    unfold kB
    rw [Bool.eq_false_iff,ne_eq,List.any_eq_true]
    rintro ⟨k,hk,h3⟩
    rw [h k hk] at h3
    cases h3
   rw [this]
   rfl)
  (fun i _ hi h=>by
   have Xr:(0:Int)<=(i:Int)/\(i:Int) < (c.Qw.length:Int):=by omega
   have hx:=take_at (l:=c.Qw) (z:=Ql.z) hi
   have hin:=Qbf (z:=Ql.z) hi
   simp only [Zp.step,Zp.l1,Xr.2,if_true,Xr,and_self,show (i:Int).toNat=i from rfl,Option.bind_some,Wbm,wr1 hi (by omega:c.Qw.length<=9223372036854775807)]
   generalize c.Qw.getD i Ql.z=k at hx hin ⊢
   by_cases h1:isW e.M.Client e.M.Seq k
   ·right
    refine ⟨(i:Int),by rw [decide_eq_true h1,if_pos rfl], ?_⟩
    rw [show kB c e=true from List.any_eq_true.2 ⟨k,hin,decide_eq_true h1⟩]
    simp
   left
   refine ⟨(),by rw [decide_eq_false h1,if_neg (by simp)],fun y hy=>?_⟩
   rw [hx] at hy
   rcases List.mem_append.1 hy with h3 | h3
   ·exact h y h3
   simp only [List.mem_singleton] at h3
   subst h3
   exact decide_eq_false h1) 0 () (Nat.zero_le _) (by simp)
 unfold Qgs Qc7 Zp
 rw [show ((0:Nat):Int)=0 from rfl] at h1
 rw [h1,Option.bind_some,Option.bind_some,h2]
theorem Qv4 {m:Qu} {x:Qb} (hm:mOk m=true) (hs:SOk [x]):Jk (trM m) (toR x)=some (Qgu m [x]):=by
 obtain ⟨T,t1,t2,t3,t4⟩:=Qqf hm
 have hT:=t2.2
 unfold Jk
 rw [t4,Option.bind_some]
 have hov:ovs T [x]=Qgu m [x]:=by
  rw [Bool.eq_iff_iff,Qzd t2 hs,Qsr]
  exact ⟨fun ⟨k,a,b⟩=>⟨k,(t3 k).1 a,b⟩,fun ⟨k,a,b⟩=>⟨k,(t3 k).2 a,b⟩⟩
 rw [<- hov]
 obtain ⟨r,h1,h2⟩:=Qbb (step:=Jk.step (toR x) (T.map toR)) (n:=T.length) (fun i (_:Unit)=>Jk.S.l1 (i:Int)) (fun i _=>∀ t∈T.take i,ov t x=false) (fun r=>r=ovs T [x])
  (fun _ h=>by
   rw [Qau (Nat.le_refl _)] at h
   refine ⟨false,by simp [Jk.step,Jk.l1], ?_⟩
   symm
   unfold ovs
   rw [Bool.eq_false_iff,ne_eq,List.any_eq_true]
   rintro ⟨t,ht,h3⟩
   have h4:=h t ht
   rw [show ([x].any (ov t))=ov t x by simp,h4] at h3
   cases h3)
  (fun i _ hi h=>by
   have Xr:(0:Int)<=(i:Int)/\(i:Int) < (T.length:Int):=by omega
   simp only [Jk.step,Jk.l1,Jk.j1,List.length_map,Xr.2,if_true,Xr,and_self,show (i:Int).toNat=i from rfl,Wfu T hi,wr1 hi (by omega:T.length<=9223372036854775807)]
   rw [show (toR x).Hi=x.Hi from rfl,show (toR x).Lo=x.Lo from rfl,show (toR (T.getD i Qb.z)).Lo=(T.getD i Qb.z).Lo from rfl,show (toR (T.getD i Qb.z)).Hi=(T.getD i Qb.z).Hi from rfl]
   have hx:=take_at (l:=T) (z:=Qb.z) hi
   have hin:=Qbf (z:=Qb.z) hi
   generalize T.getD i Qb.z=t at hx hin ⊢
   have Qho:ov t x=false->∀ y∈T.take (i+1),ov y x=false:=fun h0 y hx2=>by
    rw [hx] at hx2
    rcases List.mem_append.1 hx2 with h3 | h3
    ·exact h y h3
    simp only [List.mem_singleton] at h3
    subst h3
    exact h0
   by_cases a1:t.Lo < x.Hi
   ·rw [if_pos a1]
    by_cases a2:x.Lo < t.Hi
    ·right
     refine ⟨true,by rw [decide_eq_true a2];rfl, ?_⟩
     symm
     unfold ovs
     rw [List.any_eq_true]
     exact ⟨t,hin,by simp [ov,a1,a2]⟩
    left
    exact ⟨(),by rw [decide_eq_false a2];rfl,Qho (by simp [ov,a2])⟩
   left
   exact ⟨(),by rw [if_neg a1];rfl,Qho (by simp [ov,a1])⟩) 0 () (Nat.zero_le _) (by simp)
 rw [show ((0:Nat):Int)=0 from rfl] at h1
 rw [h1,h2]
def Qez (S:List Qc) (l:List Qf):Nat:=(l.map (Qlh S)).sum
theorem Qor (S:List Qc) {l:List Qf} {i:Nat} (hi:i < l.length):Qez S (l.take (i+1))=Qez S (l.take i)+Qlh S (l.getD i Qf.z):=by
 unfold Qez
 rw [take_at (z:=Qf.z) hi]
 simp
theorem Qxn (S:List Qc) (l:List Qf):∀ i,i<=l.length->Qez S (l.take i)<=S.length * i:=by
 intro i
 induction i with
 | zero=>intro _;simp [Qez]
 | succ i ih=>
  intro hi
  rw [Qor S (by omega)]
  have h1:=ih (by omega)
  have h2:=Wis S (l.getD i Qf.z)
  rw [Nat.mul_add,Nat.mul_one]
  omega
theorem Qwn {l:List Qf} (h:Qio l) (Jl:∀ c∈l,Qc6 c) {S:List Qc} (hS:S.length<=1000) (hSm:∀ e∈S,mOk e.M=true):
  Xb (Wh.step l (S,0)) (.l1 0 0)=some (Qez S l:Int):=by
 have hlen:=h.len
 let st:=Wh.step l (S,0)
 let L2:=fun (f n i k:Int) (c:Qf)=>Wh.S.l2 f n i k c.ID c.Keys.Lo c.Keys.Hi c.Clock c.Qdd c.Qb6 c.Held c.Base c.Log c.Qw
 have inner:∀ (i n:Nat) (c:Qf),Qhg c->Qc6 c->n<=100000->Xb st (L2 (Qe2 c) (n:Int) (i:Int) 0 c)=Xb st (L2 (Qe2 c) ((n+Qlh S c:Nat):Int) (i:Int) (S.length:Int) c):=by
  intro i n c hf hc hn
  have e:=(Qhl (step:=st) S Qc.z (fun k (x:Nat)=>L2 (Qe2 c) (x:Int) (i:Int) (k:Int) c) (Qko c) (fun k x=>x<=n+k) (fun k x hk hx=>by
   have hs2:(0:Int)<=(k:Int)/\(k:Int) < (S.length:Int):=by omega
   have hm:=hSm _ (Qbf (z:=Qc.z) hk)
   have hw:IntKind.wrap .i64 ((x:Int)+1)=((x+1:Nat):Int):=by rw [wr (by omega)];omega
   refine ⟨?_,by unfold Qko;split<;>omega⟩
   have hj:∀ b,b=Qls c (S.getD k Qc.z)->Wh.j1 (x:Int) (i:Int) (k:Int) c.ID c.Keys.Lo c.Keys.Hi c.Clock c.Qdd c.Qb6 c.Held c.Base c.Log c.Qw (Qe2 c) b=some (.inl (L2 (Qe2 c) (Qko c x (S.getD k Qc.z):Int) (i:Int) ((k+1:Nat):Int) c)):=by
    intro b hb
    simp only [Wh.j1,Wh.j2,Qko,<- hb,wr1 hk (by omega:S.length<=9223372036854775807),hw,L2]
    cases b<;>rfl
   simp only [st,L2,Wh.step,Wh.l2,hs2.2,if_true,hs2,and_self,show (k:Int).toNat=k from rfl]
   generalize S.getD k Qc.z=e at hm hj ⊢
   by_cases a1:c.Qb6=true
   ·rw [if_pos a1]
    exact hj false (by simp [Qls,a1])
   rw [if_neg a1]
   by_cases a2:e.Time<=Qe2 c
   ·rw [if_pos a2]
    obtain ⟨T,t1,t2,t3,t4⟩:=Qvt (x:=c.Keys) hm (Qhu hc.keys)
    have t4':Qdc T [(⟨c.Keys.Lo,c.Keys.Hi⟩:Qb)]=some (Qgu e.M [c.Keys]):=t4
    rw [t1,Option.bind_some,t4',Option.bind_some]
    by_cases a3:Qgu e.M [c.Keys]=true
    ·rw [if_pos a3]
     have hk2:Qgs (⟨c.ID,(⟨c.Keys.Lo,c.Keys.Hi⟩:Qb),c.Clock,c.Qdd,c.Qb6,c.Held,c.Base,c.Log,c.Qw⟩:Qf) e=some (kB c e):=Weu (c:=c) e (by have:=hf.known;omega)
     rw [hk2,Option.bind_some]
     exact hj _ (by simp [Qls,a1,a2,a3])
    rw [if_neg a3]
    exact hj false (by simp [Qls,a3])
   rw [if_neg a2]
   exact hj false (by simp [Qls,a2])) n (by omega)).1
  rw [Qpu] at e
  exact e
 have key:∀ (m i:Nat),i+m=l.length->Xb st (.l1 (Qez S (l.take i):Int) (i:Int))=some (Qez S l:Int):=by
  intro m
  induction m with
  | zero=>
   intro i hi
   obtain rfl:i=l.length:=by omega
   rw [Zd,Qau (Nat.le_refl _)]
   simp [st,Wh.step,Wh.l1,stk]
  | succ m ih=>
   intro i hi
   have hi':i < l.length:=by omega
   have hs1:(0:Int)<=(i:Int)/\(i:Int) < (l.length:Int):=by omega
   have hin:=Qbf (z:=Qf.z) hi'
   have hle:=Qxn S l i (by omega)
   have hle2:S.length * i<=1000 * 14:=Nat.mul_le_mul hS (by omega)
   have hnx:=Qor S hi'
   have hff:=h.few _ hin
   have hcc:=Jl _ hin
   have e1:st (.l1 (Qez S (l.take i):Int) (i:Int))=some (.inl (L2 (Qe2 (l.getD i Qf.z)) (Qez S (l.take i):Int) (i:Int) 0 (l.getD i Qf.z))):=by
    simp only [st,L2,Wh.step,Wh.l1,hs1.2,if_true,hs1,and_self,show (i:Int).toNat=i from rfl]
    rw [(Qy2 hff hcc).1,Option.bind_some]
   generalize l.getD i Qf.z=c at hff hcc e1 hnx
   have e2:st (L2 (Qe2 c) ((Qez S (l.take i)+Qlh S c:Nat):Int) (i:Int) (S.length:Int) c)=some (.inl (.l1 ((Qez S (l.take i)+Qlh S c:Nat):Int) ((i+1:Nat):Int))):=by
    simp only [st,L2,Wh.step,Wh.l2,Int.lt_irrefl,if_false,wr1 hi' (by omega:l.length<=9223372036854775807)]
   rw [Zd,e1]
   refine (inner i _ c hff hcc (by omega)).trans ?_
   rw [Zd,e2,<- hnx]
   exact ih (i+1) (by omega)
 exact key l.length 0 (by omega)
theorem Qsp {l:List Qf} (h:Qio l) (Jl:∀ c∈l,Qc6 c) {S:List Qc} (hS:S.length<=1000) (hSm:∀ e∈S,mOk e.M=true):
  Xb (Xg.step (l.map trO) (S.map trE,0)) (.l1 0 0)=some (Qez S l:Int):=by
 have hlen:=h.len
 let st:=Xg.step (l.map trO) (S.map trE,0)
 have Qoh:∀ {i:Nat},i < l.length->(l.map trO).getD i Qt.z=trO (l.getD i Qf.z):=fun hi=>Qme trO l hi
 let L3:=fun (f n i k:Int) (b:Bool) (q:Int) (e:Qe)=>Xg.S.l3 f n i k b q e.M.Client e.M.Seq e.M.Kind e.M.Pairs e.M.Over.Lo e.M.Over.Hi e.M.Old e.Time e.Jc
 have inner:∀ (i n:Nat),i < l.length->n<=100000->Xb st (.l2 (Qe2 (l.getD i Qf.z)) (n:Int) (i:Int) 0)=Xb st (.l2 (Qe2 (l.getD i Qf.z)) ((n+Qlh S (l.getD i Qf.z):Nat):Int) (i:Int) (S.length:Int)):=by
  intro i n hi hn
  have hs1:(0:Int)<=(i:Int)/\(i:Int) < (l.length:Int):=by omega
  have hin:=Qbf (z:=Qf.z) hi
  have hf:=h.few _ hin
  have hc:=Jl _ hin
  have hci:=Qoh hi
  generalize l.getD i Qf.z=c at hf hc hci
  have hkn:=hf.known
  have hstepk:∀ k (x:Nat),k < S.length->x<=n+k->Xb st (.l2 (Qe2 c) (x:Int) (i:Int) (k:Int))=Xb st (.l2 (Qe2 c) (Qko c x (S.getD k Qc.z):Int) (i:Int) ((k+1:Nat):Int)):=by
   intro k x hk hx
   have hs2:(0:Int)<=(k:Int)/\(k:Int) < (S.length:Int):=by omega
   have hm:=hSm _ (Qbf (z:=Qc.z) hk)
   have hw:IntKind.wrap .i64 ((x:Int)+1)=((x+1:Nat):Int):=by rw [wr (by omega)];omega
   have hSk:(S.map trE).getD k Qe.z=trE (S.getD k Qc.z):=Qje S hk
   generalize S.getD k Qc.z=e at hm hSk
   have e1:st (.l2 (Qe2 c) (x:Int) (i:Int) (k:Int))=some (.inl (L3 (Qe2 c) (x:Int) (i:Int) (k:Int) false 0 (trE e))):=by
    simp only [st,L3,Xg.step,Xg.l2,List.length_map,hs2.2,if_true,hs2,and_self,show (k:Int).toNat=k from rfl,hSk]
   have hfold:∀ (l:List Ql) (b:Bool),l.foldl (fun b y=>b || decide (isW e.M.Client e.M.Seq y)) b=(b || l.any fun y=>decide (isW e.M.Client e.M.Seq y)):=by
    intro l
    induction l with
    | nil=>intro b;simp
    | cons y l ih=>intro b;rw [List.foldl_cons,ih,List.any_cons,Bool.or_assoc]
   have e2:=(Qhl (step:=st) c.Qw Ql.z (fun q (b:Bool)=>L3 (Qe2 c) (x:Int) (i:Int) (k:Int) b (q:Int) (trE e)) (fun b y=>b || decide (isW e.M.Client e.M.Seq y)) (fun _ _=>True) (fun q b hq _=>by
    have hs3:(0:Int)<=(q:Int)/\(q:Int) < (c.Qw.length:Int):=by omega
    refine ⟨?_,trivial⟩
    have hK:(trO c).Qw.getD q Yg.z=trN (c.Qw.getD q Ql.z):=Qkc c.Qw hq
    have hKl:(trO c).Qw.length=c.Qw.length:=by simp [trO]
    simp only [st,L3,Xg.step,Xg.l3,Xg.j3,List.length_map,hs1,and_self,if_true,show (i:Int).toNat=i from rfl,hci,hKl,hs3.2,hs3,show (q:Int).toNat=q from rfl,hK,wr1 hq (by omega:c.Qw.length<=9223372036854775807)]
    generalize c.Qw.getD q Ql.z=y
    cases b with
    | true=>rfl
    | false=>
     simp only [Bool.false_eq_true,if_false,Bool.false_or]
     rw [show (trN y).Client=y.Client from rfl,show (trN y).Seq=y.Seq from rfl,show (trE e).M.Client=e.M.Client from rfl,show (trE e).M.Seq=e.M.Seq from rfl]
     unfold isW
     by_cases h1:y.Client=e.M.Client
     ·rw [if_pos h1,show (y.Seq == e.M.Seq)=decide (y.Client=e.M.Client/\y.Seq=e.M.Seq) by rw [Bool.eq_iff_iff];simp [h1]]
     rw [if_neg h1,show decide (y.Client=e.M.Client/\y.Seq=e.M.Seq)=false by simp [h1]]) false trivial).1
   rw [hfold,Bool.false_or] at e2
   have e3:st (L3 (Qe2 c) (x:Int) (i:Int) (k:Int) (kB c e) (c.Qw.length:Int) (trE e))=some (.inl (.l2 (Qe2 c) (Qko c x e:Int) (i:Int) ((k+1:Nat):Int))):=by
    have hKl:(trO c).Qw.length=c.Qw.length:=by simp [trO]
    simp only [st,L3,Xg.step,Xg.l3,List.length_map,hs1,and_self,if_true,show (i:Int).toNat=i from rfl,hci,hKl,Int.lt_irrefl,if_false]
    have hj:∀ b,b=Qls c e->Xg.j1 (x:Int) (i:Int) (k:Int) (Qe2 c) b=some (.inl (.l2 (Qe2 c) (Qko c x e:Int) (i:Int) ((k+1:Nat):Int))):=by
     intro b hb
     simp only [Xg.j1,Xg.j2,Qko,<- hb,wr1 hk (by omega:S.length<=9223372036854775807),hw]
     cases b<;>rfl
    unfold Qls at hj
    rw [show (trO c).Qb6=c.Qb6 from rfl,show (trO c).Keys=toR c.Keys from rfl,show (trE e).Time=e.Time from rfl]
    by_cases a1:c.Qb6=true
    ·rw [if_pos a1]
     exact hj false (by rw [a1];simp)
    rw [if_neg a1]
    rw [show c.Qb6=false by simpa using a1] at hj
    by_cases a2:e.Time<=Qe2 c
    ·rw [if_pos a2]
     rw [decide_eq_true a2] at hj
     have t4:Jk (⟨(trE e).M.Client,(trE e).M.Seq,(trE e).M.Kind,(trE e).M.Pairs,(⟨(trE e).M.Over.Lo,(trE e).M.Over.Hi⟩:Qx),(trE e).M.Old⟩:Xq) (toR c.Keys)=some (Qgu e.M [c.Keys]):=Qv4 hm (Qhu hc.keys)
     rw [t4,Option.bind_some]
     by_cases a3:Qgu e.M [c.Keys]=true
     ·rw [if_pos a3]
      exact hj _ (by rw [a3];simp)
     rw [if_neg a3]
     exact hj false (by rw [show Qgu e.M [c.Keys]=false by simpa using a3];simp)
    rw [if_neg a2]
    exact hj false (by rw [decide_eq_false a2];simp)
   rw [Zd,e1]
   refine (show Xb st (L3 (Qe2 c) (x:Int) (i:Int) (k:Int) false 0 (trE e))=_ from e2).trans ?_
   rw [Zd]
   refine (congrArg (fun o=>stk o (Xb st)) (show st _=_ from e3)).trans ?_
   rfl
  have key:∀ (m k x:Nat),k+m=S.length->x<=n+k->Xb st (.l2 (Qe2 c) (x:Int) (i:Int) (k:Int))=Xb st (.l2 (Qe2 c) (((S.drop k).foldl (Qko c) x:Nat):Int) (i:Int) (S.length:Int)):=by
   intro m
   induction m with
   | zero=>
    intro k x hk hx
    obtain rfl:k=S.length:=by omega
    rw [List.drop_length]
    rfl
   | succ m ih=>
    intro k x hk hx
    have hk':k < S.length:=by omega
    have hle:Qko c x (S.getD k Qc.z)<=n+(k+1):=by unfold Qko;split<;>omega
    rw [hstepk k x hk' hx,ih (k+1) _ (by omega) hle,List.drop_eq_getElem_cons hk',List.foldl_cons,show S[k]=S.getD k Qc.z by simp [hk']]
  have:=key S.length 0 n (by omega) (by omega)
  rw [List.drop_zero,Qpu] at this
  exact this
 have key:∀ (m i:Nat),i+m=l.length->Xb st (.l1 (Qez S (l.take i):Int) (i:Int))=some (Qez S l:Int):=by
  intro m
  induction m with
  | zero=>
   intro i hi
   obtain rfl:i=l.length:=by omega
   rw [Zd,Qau (Nat.le_refl _)]
   simp [st,Xg.step,Xg.l1,stk]
  | succ m ih=>
   intro i hi
   have hi':i < l.length:=by omega
   have hs1:(0:Int)<=(i:Int)/\(i:Int) < (l.length:Int):=by omega
   have hin:=Qbf (z:=Qf.z) hi'
   have hle:=Qxn S l i (by omega)
   have hle2:S.length * i<=1000 * 14:=Nat.mul_le_mul hS (by omega)
   have hnx:=Qor S hi'
   have e1:st (.l1 (Qez S (l.take i):Int) (i:Int))=some (.inl (.l2 (Qe2 (l.getD i Qf.z)) (Qez S (l.take i):Int) (i:Int) 0)):=by
    simp only [st,Xg.step,Xg.l1,List.length_map,hs1.2,if_true,hs1,and_self,show (i:Int).toNat=i from rfl,Qoh hi']
    rw [(Qy2 (h.few _ hin) (Jl _ hin)).2,Option.bind_some]
   have e2:st (.l2 (Qe2 (l.getD i Qf.z)) ((Qez S (l.take i)+Qlh S (l.getD i Qf.z):Nat):Int) (i:Int) (S.length:Int))=some (.inl (.l1 ((Qez S (l.take i)+Qlh S (l.getD i Qf.z):Nat):Int) ((i+1:Nat):Int))):=by
    simp only [st,Xg.step,Xg.l2,List.length_map,Int.lt_irrefl,if_false,wr1 hi' (by omega:l.length<=9223372036854775807)]
   rw [Zd,e1]
   refine (inner i _ hi' (by omega)).trans ?_
   rw [Zd,e2,<- hnx]
   exact ih (i+1) (by omega)
 exact key l.length 0 (by omega)
end
end Go.SyP
namespace Go.SyP
open Go Go.Sy Sets
theorem Qti:∀ (l m:List Qc),l.Nodup->(∀ x∈l,x∈m)->l.length<=m.length
 | [],_,_,_=>by simp
 | x :: l,m,h,hs=>by
  obtain ⟨h1,h2⟩:=List.nodup_cons.1 h
  obtain ⟨s,t,rfl⟩:=List.append_of_mem (hs x (List.mem_cons_self ..))
  have:=Qti l (s ++ t) h2 fun y hy=>by
   have:=hs y (List.mem_cons_of_mem _ hy)
   rw [List.mem_append,List.mem_cons] at this
   rcases this with h3 | rfl | h3
   ·exact List.mem_append.2 (.inl h3)
   ·exact absurd hy h1
   exact List.mem_append.2 (.inr h3)
  simp only [List.length_append,List.length_cons] at *
  omega
theorem Ql2.len {L S:List Qc} (h:Ql2 L S):S.length<=L.length:=
 Qti S L (h.up.imp fun {a b} hab e=>by subst e;exact Qop a hab) fun x hx=>(h.mem x).1 hx
structure Qr8 (l:List Qf) (S:List Qc) (e:Int):Prop where
 prog:Qm l=some (S,e)
 ref:Qs (l.map trO)=some (S.map trE,e)
 ok:e=0↔(∀ c∈l,Qc6 c)/\¬ Wp (Qc4 l)
 is:e=0->Ql2 (Qc4 l) S
 len:S.length<=1000
 prs:∀ x∈S,x.M.Pairs.length<=20
theorem Qot {l:List Qf} (h:Qio l):∃ S e,Qr8 l S e:=by
 have hlen:=h.len
 by_cases Jl:∀ c∈l,Qc6 c
 ·rcases Qzu h Jl with ⟨c1,p1⟩ | ⟨S,p1,c1,o1⟩
  ·rcases Qn0 h Jl with ⟨c2,p2⟩ | ⟨S',p2,c2,o2⟩
   ·exact ⟨[],3,p1,p2,⟨fun h=>by simp at h,fun h=>absurd c1 h.2⟩,fun h=>by simp at h,by simp,by simp⟩
   exact absurd c1 c2
  rcases Qn0 h Jl with ⟨c2,p2⟩ | ⟨S',p2,c2,o2⟩
  ·exact absurd c2 c1
  obtain rfl:S=S':=o1.unique o2 fun _=>Iff.rfl
  have h1:=o1.len
  have h2:=Qol h l.length (Nat.le_refl _)
  rw [Qau (Nat.le_refl _)] at h2
  refine ⟨S,0,p1,p2,⟨fun _=>⟨Jl,c1⟩,fun _=>rfl⟩,fun _=>o1,by omega,fun x hx=>?_⟩
  obtain ⟨c,hc,hx⟩:=Qf9.1 ((o1.mem x).1 hx)
  exact (h.few c hc).lp x hx
 exact ⟨[],1,Wco h Jl,Qv2 h Jl,⟨fun h=>by simp at h,fun h=>absurd h.1 Jl⟩,fun h=>by simp at h,by simp,by simp⟩
theorem Qr8.mOk {l:List Qf} {S:List Qc} {e:Int} (h:Qr8 l S e) (he:e=0):∀ x∈S,mOk x.M=true:=by
 intro x hx
 obtain ⟨c,hc,hx⟩:=Qf9.1 (((h.is he).mem x).1 hx)
 have:=(h.ok.1 he).1 c hc
 exact (Qla (z:=Qc.z) (p:=fun x:Qc=>SyP.mOk x.M=true)).1 (fun i hi=>(this.lg.1 i hi).1) x hx
theorem Qos {l:List Qf} (h:Qio l) {S:List Qc} {e:Int} (o:Qr8 l S e):
  Wh l=some (if e=0 then (Qez S l:Int) else -1)/\Xg (l.map trO)=some (if e=0 then (Qez S l:Int) else -1):=by
 unfold Wh Xg
 rw [o.prog,o.ref,Option.bind_some,Option.bind_some]
 by_cases he:e=0
 ·subst he
  rw [if_pos rfl,if_pos rfl,if_pos rfl]
  exact ⟨Qwn h (o.ok.1 rfl).1 o.len (o.mOk rfl),Qsp h (o.ok.1 rfl).1 o.len (o.mOk rfl)⟩
 rw [if_neg he,if_neg he,if_neg he]
 exact ⟨rfl,rfl⟩
theorem Qr3 {S:List Qc} (hn:S.length<=5000) (hp:∀ x∈S,x.M.Pairs.length<=20):Yd (S.map trE) (S.map trE)=some true:=by
 unfold Yd
 rw [if_pos rfl]
 obtain ⟨r,h1,h2⟩:=Qhk (step:=Yd.step (S.map trE) (S.map trE)) (n:=S.length) (fun i=>.l1 (i:Int)) (fun _=>True) (E:=True) ⟨true,by rw [Zd];simp [Yd.step,Yd.l1,stk],by simp⟩ (fun i hi=>by
  have hs:(0:Int)<=(i:Int)/\(i:Int) < (S.length:Int):=by omega
  have hpi:=hp _ (Qbf (z:=Qc.z) hi)
  left
  refine ⟨?_,trivial⟩
  simp only [Yd.step,Yd.l1,Yd.j1,List.length_map,hs.2,if_true,hs,and_self,show (i:Int).toNat=i from rfl,Qje S hi,wr1 hi (by omega:S.length<=9223372036854775807)]
  generalize S.getD i Qc.z=x at hpi
  obtain ⟨v,v1,v2⟩:=Qr1 (trE x).M (trE x).M (by rw [show (trE x).M=trM x.M from rfl,Qzi];omega)
  rw [v1,Option.bind_some,if_pos (v2.2 rfl)]
  simp)
 rw [show ((0:Nat):Int)=0 from rfl] at h1
 rw [h1,h2.2 ⟨fun _ _=>trivial,trivial⟩]
theorem Quj (a0:List Qf):Qcd a0=some true:=by
 obtain ⟨r,f1,f2⟩:=Wh8 a0
 unfold Qcd
 rw [f1,Option.bind_some]
 by_cases hr:r=true
 ·obtain ⟨hl,hf⟩:=f2 hr
  have h:Qio a0:=⟨by omega,hf⟩
  obtain ⟨S,e,o⟩:=Qot h
  obtain ⟨m1,m2⟩:=Qos h o
  have hS:=o.len
  rw [if_pos hr,o.prog,Option.bind_some,Wfj (by omega) hf,Option.bind_some,o.ref,Option.bind_some,Qqw,Option.bind_some,if_pos rfl]
  rw [Qsw S (by omega) (fun x hx=>by have:=o.prs x hx;omega),Option.bind_some,Qr3 (by omega) o.prs,Option.bind_some,if_pos rfl,if_pos rfl,m1,Option.bind_some,Option.bind_some,m2,Option.bind_some]
  simp [Qcd.j1]
 rw [if_neg hr,Qqw]
 rfl
theorem Wp.iff {L L':List Qc} (h:∀ x,x∈L↔x∈L'):Wp L↔Wp L':=⟨fun c=>c.mono fun x hx=>(h x).1 hx,fun c=>c.mono fun x hx=>(h x).2 hx⟩
theorem Qr8.same {l l':List Qf} {S S':List Qc} {e e':Int} (o:Qr8 l S e) (o':Qr8 l' S' e') (h:∀ c,c∈l↔c∈l'):(e=0↔e'=0)/\(e=0->S=S'):=by
 have hm:∀ x,x∈Qc4 l↔x∈Qc4 l':=fun x=>by
  rw [Qf9,Qf9]
  exact ⟨fun ⟨c,hc,hx⟩=>⟨c,(h c).1 hc,hx⟩,fun ⟨c,hc,hx⟩=>⟨c,(h c).2 hc,hx⟩⟩
 have h1:e=0↔e'=0:=by
  rw [o.ok,o'.ok,Wp.iff hm]
  exact ⟨fun ⟨a,b⟩=>⟨fun c hc=>a c ((h c).2 hc),b⟩,fun ⟨a,b⟩=>⟨fun c hc=>a c ((h c).1 hc),b⟩⟩
 exact ⟨h1,fun he=>(o.is he).unique (o'.is (h1.1 he)) hm⟩
theorem Qv0 (S:List Qc) (l:List Qf):Qez S l.reverse=Qez S l:=by
 unfold Qez
 rw [List.map_reverse]
 exact List.sum_reverse _
theorem Qlt (a0:List Qf):Qp a0=some true:=by
 obtain ⟨r,f1,f2⟩:=Wh8 a0
 have jt:Qp.j1 a0 true=some true:=by
  unfold Qp.j1
  rw [if_pos rfl,Qqw]
  rfl
 unfold Qp
 by_cases h4:(a0.length:Int) > 4
 ·rw [if_pos h4];exact jt
 rw [if_neg h4,f1,Option.bind_some]
 by_cases hr:r=true
 ·obtain ⟨hl,hf⟩:=f2 hr
  rw [hr]
  simp only [Bool.not_true,Qp.j1,Bool.false_eq_true,if_false]
  let st:=Qp.step a0
  have h:Qio a0:=⟨by omega,hf⟩
  have hb:Qio a0.reverse:=⟨by simp;omega,fun c hc=>hf c (List.mem_reverse.1 hc)⟩
  have h2:Qio (([] ++ a0) ++ a0.reverse):=⟨by simp;omega,fun c hc=>by
   simp at hc
   exact hf c hc⟩
  obtain ⟨S,e,o⟩:=Qot h
  obtain ⟨S',e',o'⟩:=Qot hb
  obtain ⟨S2,e2,o2⟩:=Qot h2
  obtain ⟨m1,_⟩:=Qos h o
  obtain ⟨m2,_⟩:=Qos hb o'
  obtain ⟨s1,s2⟩:=o.same o' fun c=>by simp
  obtain ⟨s3,s4⟩:=o.same o2 fun c=>by simp
  have hS:=o.len
  have hEn:=Qsw S (by omega) (fun x hx=>by have:=o.prs x hx;omega)
  have hj2:Qp.j2 a0 a0.reverse (S,e) (S',e') false=some (.inr true):=by
   unfold Qp.j2 Qp.j3
   rw [if_neg (by simp),if_pos (by simp;omega),if_pos (by simp;omega),o2.prog,Option.bind_some,Qqw,Option.bind_some,if_pos rfl]
   by_cases he:e=0
   ·obtain rfl:=s2 he
    obtain rfl:=s4 he
    simp only [he,s3.1 he,if_true]
    rw [hEn]
    simp only [Option.bind_some]
    rw [Qr3 (by omega) o.prs]
    simp
   simp only [he,if_false]
  have Qh2:st (.l1 (-1) a0.reverse)=some (.inr true):=by
   simp only [st,Qp.step,Qp.l1]
   rw [if_neg (by decide),o.prog,Option.bind_some,o'.prog,Option.bind_some,m1,m2]
   simp only []
   by_cases he:e=0
   ·have he':=s1.1 he
    obtain rfl:=s2 he
    simp only [he,he',if_true,Option.bind_some,Qv0,bne_self_eq_false] at *
    exact hj2
   have he':¬ e'=0:=fun h=>he (s1.2 h)
   simp only [he,he',if_false,Option.bind_some,bne_self_eq_false]
   exact hj2
  have key:∀ (i:Nat),i<=a0.length->Xb st (.l1 ((i:Int) - 1) (a0.drop i).reverse)=some true:=by
   intro i
   induction i with
   | zero=>
    intro _
    rw [Zd]
    have:=Qh2
    simp only [List.drop_zero]
    rw [show ((0:Nat):Int) - 1=-1 from rfl,this]
    rfl
   | succ i ih=>
    intro hi
    have hs:(0:Int)<=(i:Int)/\(i:Int) < (a0.length:Int):=by omega
    have Xr:st (.l1 (i:Int) (a0.drop (i+1)).reverse)=some (.inl (.l1 ((i:Int) - 1) (a0.drop i).reverse)):=by
     simp only [st,Qp.step,Qp.l1,hs,and_self,if_true,show (i:Int).toNat=i from rfl]
     rw [if_pos (by simp;omega),wr (by omega)]
     rw [List.drop_eq_getElem_cons (show i < a0.length by omega),List.reverse_cons,show a0[i]=a0.getD i Qf.z by simp [show i < a0.length by omega]]
    rw [show ((i+1:Nat):Int) - 1=(i:Int) by omega,Zd,Xr]
    exact ih (by omega)
  have:=key a0.length (Nat.le_refl _)
  rw [List.drop_length,List.reverse_nil] at this
  rw [wr (by omega)]
  exact this
 rw [show r=false by simpa using hr]
 exact jt
end Go.SyP
