/- Floors, and how much cores miss. -/
import Derived.Test.YticmlllaimjdcaaGreatP15zX
set_option linter.unusedVariables false
set_option linter.unusedSimpArgs false
namespace Go.SyP
open Go Go.Sy Sets
noncomputable section
def Qoi (c:Qm) (f:Int):Prop:=(c.Held=[]/\f=c.Clock)\/∃ w∈c.Held,f=w.Time - 1/\∀ w'∈c.Held,w.Time<=w'.Time
theorem Qoi.unique {c:Qm} {f g:Int} (h:Qoi c f) (k:Qoi c g):f=g:=by
 rcases h with ⟨h1,h2⟩ | ⟨w,hw,h1,h2⟩<;>rcases k with ⟨k1,k2⟩ | ⟨v,hv,k1,k2⟩
 ·rw [h2,k2]
 ·rw [h1] at hv;cases hv
 ·rw [k1] at hw;cases hw
 have:=h2 v hv
 have:=k2 w hw
 omega
def toH (w:Qr):Yl:=⟨w.M,w.Time,false⟩
theorem Whr {c:Qm} (hf:Qik c) (hc:Qds c):∃ f,Qbf c=some f/\Qoi c f:=by
 have hh:=hf.held
 obtain ⟨r,c1,c2⟩:=Qmg hf
 unfold Qbf
 rw [c1,Option.bind_some,if_pos (c2.2 hc)]
 simp only [bnd]
 refine Qbi (step:=Qbf.step c) (n:=c.Held.length) (fun i (q:QL)=>Qbf.S.l1 (i:Int) q) (fun i q=>q.l.length<=i/\∀ h,h∈q.l↔∃ w∈c.Held.take i,h=toH w) _ ?_ ?_ 0 Qra (Nat.zero_le _) ⟨by simp [Qra],by simp [Qra]⟩
 ·rintro q ⟨h1,h2⟩
  rw [Qa3 (Nat.le_refl _)] at h2
  refine ⟨Qnd q c.Clock,by simp [Qbf.step,Qbf.l1], ?_⟩
  unfold Qnd
  have hup:=q.good.up
  generalize q.l=L at h1 h2 hup
  cases L with
  | nil=>
   left
   refine ⟨List.eq_nil_iff_forall_not_mem.2 fun w hw=>?_,rfl⟩
   have:=(h2 (toH w)).2 ⟨w,hw,rfl⟩
   cases this
  | cons x L=>
   right
   obtain ⟨w,hw,rfl⟩:=(h2 x).1 (List.mem_cons_self ..)
   have ht:=hc.wt
   have hbound:∀ v∈c.Held,1<=v.Time/\v.Time<=c.Clock:=fun v hv=>by
    have:=Ql8 (z:=Qr.z) (p:=fun v:Qr=>1<=v.Time/\v.Time<=c.Clock) |>.1 fun i hi=>(ht i hi).2.2.1
    exact this v hv
   have hb:=hbound w hw
   have hcl:=hc.clock
   refine ⟨w,hw,wr (by show -9223372036854775808<=w.Time - 1/\w.Time - 1<=_;omega),fun v hv=>?_⟩
   rcases List.mem_cons.1 ((h2 (toH v)).2 ⟨v,hv,rfl⟩) with e | h3
   ·have:v.Time=w.Time:=congrArg (·.Time) e
    omega
   have:=(List.pairwise_cons.1 hup).1 _ h3
   unfold ltH ltS Qdi toH at this
   simp only at this
   omega
 rintro i q hi ⟨h1,h2⟩
 have Xu:(0:Int)<=(i:Int)/\(i:Int) < (c.Held.length:Int):=by omega
 have hx:=take_at (l:=c.Held) (z:=Qr.z) hi
 obtain ⟨w1,w2,w3,w4,w5,w6⟩:=hc.wt i hi
 have hp:=(hf.hp _ (Qbo (z:=Qr.z) hi)).1
 have hcl:=hc.clock
 left
 have hnone:Qmj (c.Held.getD i Qr.z).M.Client (c.Held.getD i Qr.z).M.Seq q.l=none:=by
  unfold Qmj
  rw [List.find?_eq_none]
  intro h hh2 hk
  obtain ⟨v,hv,rfl⟩:=(h2 h).1 hh2
  obtain ⟨j,hj,rfl⟩:=List.getElem_of_mem hv
  have hji:j < i:=by rw [List.length_take] at hj;omega
  have hkk:=Qot.1 hk
  refine w4 j hji ?_
  have e:(c.Held.take i)[j]=c.Held.getD j Qr.z:=by
   rw [List.getElem_take]
   simp [show j < c.Held.length by omega]
  rw [e] at hkk
  exact hkk
 simp only [Qbf.step,Qbf.l1,Xu.2,if_true,Xu,and_self,show (i:Int).toNat=i from rfl,wr1 hi (by omega:c.Held.length<=9223372036854775807)]
 unfold Wdl
 simp only []
 rw [Qgg _ (by omega),w1,Option.bind_some,if_pos ⟨by omega,by omega⟩,if_pos ⟨rfl,by show Qnh (c.Held.getD i Qr.z).Time=true;rw [Qnh,Bool.and_eq_true,decide_eq_true_eq,decide_eq_true_eq];omega⟩]
 have Qcs:Qvj q ⟨(c.Held.getD i Qr.z).M,(c.Held.getD i Qr.z).Time,false⟩=(0,⟨Qi5 (toH (c.Held.getD i Qr.z)) q.l,Qs8 q.good hnone (by show (c.Held.getD i Qr.z).M.Pairs.length<=_;omega)⟩):=by
  unfold Qvj
  split
  ·rename_i x e
   rw [show Qmj (c.Held.getD i Qr.z).M.Client (c.Held.getD i Qr.z).M.Seq q.l=none from hnone] at e
   cases e
  rw [dif_pos (by show (c.Held.getD i Qr.z).M.Pairs.length<=1000000;omega)]
  rfl
 rw [Qcs,Option.bind_some]
 refine ⟨_,rfl, ?_,fun h=>?_⟩
 ·show (Qi5 _ q.l).length<=i+1
  rw [(Qks _ q.l).length_eq,List.length_cons]
  omega
 show h∈Qi5 _ q.l↔_
 rw [(Qks _ q.l).mem_iff,List.mem_cons,h2,hx]
 constructor
 ·rintro (rfl | ⟨w,hw,rfl⟩)
  ·exact ⟨_,List.mem_append.2 (.inr (List.mem_singleton.2 rfl)),rfl⟩
  exact ⟨w,List.mem_append.2 (.inl hw),rfl⟩
 rintro ⟨w,hw,rfl⟩
 rcases List.mem_append.1 hw with hw | hw
 ·exact .inr ⟨w,hw,rfl⟩
 simp only [List.mem_singleton] at hw
 subst hw
 exact .inl rfl
theorem Qzb {c:Qm} (hf:Qik c) (hc:Qds c):∃ f,Yo (trO c)=some f/\Qoi c f:=by
 have hh:=hf.held
 have hcl:=hc.clock
 unfold Yo
 refine Qbi (step:=Yo.step (trO c)) (n:=c.Held.length) (fun i (f:Int)=>Yo.S.l1 f (i:Int)) (fun i f=>(i=0/\f=c.Clock)\/∃ w∈c.Held.take i,f=w.Time - 1/\∀ w'∈c.Held.take i,w.Time<=w'.Time) _ ?_ ?_ 0 c.Clock (Nat.zero_le _) (.inl ⟨rfl,rfl⟩)
 ·intro f h
  refine ⟨f,by simp [Yo.step,Yo.l1,trO], ?_⟩
  rw [Qa3 (Nat.le_refl _)] at h
  rcases h with ⟨h1,h2⟩ | h
  ·exact .inl ⟨List.length_eq_zero_iff.1 h1,h2⟩
  exact .inr h
 intro i f hi h
 have Xu:(0:Int)<=(i:Int)/\(i:Int) < (c.Held.length:Int):=by omega
 have hx:=take_at (l:=c.Held) (z:=Qr.z) hi
 have hb:=(hc.wt i hi).2.2.1
 left
 have hj2:∀ y,Yo.j2 (i:Int) y=some (.inl (.l1 y ((i+1:Nat):Int))):=fun y=>by
  simp only [Yo.j2,wr1 hi (by omega:c.Held.length<=9223372036854775807)]
 simp only [Yo.step,Yo.l1,Yo.j1,bnd,show (trO c).Held=c.Held.map trW from rfl,List.length_map,Xu.2,if_true,Xu,and_self,show (i:Int).toNat=i from rfl,Qus c.Held hi,hj2]
 rw [show (trW (c.Held.getD i Qr.z)).Time=(c.Held.getD i Qr.z).Time from rfl,wr (by omega:-9223372036854775808<=(c.Held.getD i Qr.z).Time - 1/\(c.Held.getD i Qr.z).Time - 1<=9223372036854775807)]
 rw [hx]
 generalize c.Held.getD i Qr.z=w at hb ⊢
 have hnew:(∀ w'∈c.Held.take i,w.Time<=w'.Time)->∃ v∈c.Held.take i ++ [w],w.Time - 1=v.Time - 1/\∀ w'∈c.Held.take i ++ [w],v.Time<=w'.Time:=fun h=>⟨w,List.mem_append.2 (.inr (List.mem_singleton.2 rfl)),rfl,fun w' hw'=>by
  rcases List.mem_append.1 hw' with h1 | h1
  ·exact h w' h1
  simp only [List.mem_singleton] at h1
  subst h1
  exact Int.le_refl _⟩
 by_cases hi0:(i:Int)=0
 ·rw [if_pos hi0]
  refine ⟨_,rfl,.inr (hnew fun w' hw'=>?_)⟩
  rw [show i=0 by omega] at hw'
  simp at hw'
 rw [if_neg hi0]
 rcases h with ⟨h1,_⟩ | ⟨v,hv,h1,h2⟩
 ·omega
 by_cases hlt:w.Time - 1 < f
 ·rw [decide_eq_true hlt,if_pos rfl]
  exact ⟨_,rfl,.inr (hnew fun w' hw'=>by have:=h2 w' hw';omega)⟩
 rw [decide_eq_false hlt,if_neg (by simp)]
 refine ⟨_,rfl,.inr ⟨v,List.mem_append.2 (.inl hv),h1,fun w' hw'=>?_⟩⟩
 rcases List.mem_append.1 hw' with h3 | h3
 ·exact h2 w' h3
 simp only [List.mem_singleton] at h3
 subst h3
 omega
def Qfs (c:Qm):Int:=(Qbf c).getD 0
theorem Wah {c:Qm} (hf:Qik c) (hc:Qds c):Qbf c=some (Qfs c)/\Yo (trO c)=some (Qfs c):=by
 obtain ⟨f,h1,h2⟩:=Whr hf hc
 obtain ⟨g,h3,h4⟩:=Qzb hf hc
 unfold Qfs
 rw [h1]
 exact ⟨rfl,by rw [h3,h4.unique h2];rfl⟩
instance (c s:Int) (k:Qo):Decidable (isW c s k):=by unfold isW;infer_instance
def kB (c:Qm) (e:Qc):Bool:=c.Qs.any fun k=>decide (isW e.M.Client e.M.Seq k)
def Qms (c:Qm) (e:Qc):Bool:=!c.Qag && (decide (e.Time<=Qfs c) && (Qht e.M [c.Keys] && !kB c e))
def Qlf (c:Qm) (n:Nat) (e:Qc):Nat:=if Qms c e=true then n+1 else n
def Qmf (S:List Qc) (c:Qm):Nat:=(S.filter (Qms c)).length
theorem Qqp (c:Qm):∀ (S:List Qc) (n:Nat),S.foldl (Qlf c) n=n+Qmf S c
 | [],n=>by simp [Qmf]
 | e :: S,n=>by
  rw [List.foldl_cons,Qqp c S]
  unfold Qlf Qmf
  rw [List.filter_cons]
  split<;>simp<;>omega
theorem Wkg (S:List Qc) (c:Qm):Qmf S c<=S.length:=List.length_filter_le _ _
theorem Wc4 (k:Qo) (e:Qc):Qde k e=decide (isW e.M.Client e.M.Seq k):=by
 unfold Qde Qde.j1 isW
 by_cases h:k.Client=e.M.Client
 ·rw [if_pos h,Bool.eq_iff_iff];simp [h]
 rw [if_neg h];simp [h]
theorem Wgj {c:Qm} (e:Qc) (hn:c.Qs.length<=5000):Qhr c e=some (kB c e):=by
 obtain ⟨r,h1,h2⟩:=Qbi (step:=Zh.step c.Qs (fun z0=>some (Qde z0 e))) (n:=c.Qs.length) (fun i (_:Unit)=>Zh.S.l1 (i:Int)) (fun i _=>∀ k∈c.Qs.take i,decide (isW e.M.Client e.M.Seq k)=false) (fun r=>decide (r>=0)=kB c e)
  (fun _ h=>by
   rw [Qa3 (Nat.le_refl _)] at h
   refine ⟨-1,by simp [Zh.step,Zh.l1], ?_⟩
   have:kB c e=false:=by
    unfold kB
    rw [Bool.eq_false_iff,ne_eq,List.any_eq_true]
    rintro ⟨k,hk,h3⟩
    rw [h k hk] at h3
    cases h3
   rw [this]
   rfl)
  (fun i _ hi h=>by
   have Xu:(0:Int)<=(i:Int)/\(i:Int) < (c.Qs.length:Int):=by omega
   have hx:=take_at (l:=c.Qs) (z:=Qo.z) hi
   have hin:=Qbo (z:=Qo.z) hi
   simp only [Zh.step,Zh.l1,Xu.2,if_true,Xu,and_self,show (i:Int).toNat=i from rfl,Option.bind_some,Wc4,wr1 hi (by omega:c.Qs.length<=9223372036854775807)]
   generalize c.Qs.getD i Qo.z=k at hx hin ⊢
   by_cases h1:isW e.M.Client e.M.Seq k
   ·right
    refine ⟨(i:Int),by rw [decide_eq_true h1,if_pos rfl], ?_⟩
    rw [show kB c e=true from List.any_eq_true.2 ⟨k,hin,decide_eq_true h1⟩]
    simp
   left
   refine ⟨(),by rw [decide_eq_false h1,if_neg (by simp)],fun y hy=>?_⟩
   rw [hx] at hy
   rcases List.mem_append.1 hy with h3 | h3
   ·exact h y h3
   simp only [List.mem_singleton] at h3
   subst h3
   exact decide_eq_false h1) 0 () (Nat.zero_le _) (by simp)
 unfold Qhr Qdt Zh
 rw [show ((0:Nat):Int)=0 from rfl] at h1
 rw [h1,Option.bind_some,Option.bind_some,h2]
theorem Qw8 {m:We} {x:Qb} (hm:mOk m=true) (hs:SOk [x]):Zb (trM m) (toR x)=some (Qht m [x]):=by
 obtain ⟨T,t1,t2,t3,t4⟩:=Qrb hm
 have hT:=t2.2
 unfold Zb
 rw [t4,Option.bind_some]
 have hov:ovs T [x]=Qht m [x]:=by
  rw [Bool.eq_iff_iff,Was t2 hs,Qtr]
  exact ⟨fun ⟨k,a,b⟩=>⟨k,(t3 k).1 a,b⟩,fun ⟨k,a,b⟩=>⟨k,(t3 k).2 a,b⟩⟩
 rw [<- hov]
 obtain ⟨r,h1,h2⟩:=Qbi (step:=Zb.step (toR x) (T.map toR)) (n:=T.length) (fun i (_:Unit)=>Zb.S.l1 (i:Int)) (fun i _=>∀ t∈T.take i,ov t x=false) (fun r=>r=ovs T [x])
  (fun _ h=>by
   rw [Qa3 (Nat.le_refl _)] at h
   refine ⟨false,by simp [Zb.step,Zb.l1], ?_⟩
   symm
   unfold ovs
   rw [Bool.eq_false_iff,ne_eq,List.any_eq_true]
   rintro ⟨t,ht,h3⟩
   have h4:=h t ht
   rw [show ([x].any (ov t))=ov t x by simp,h4] at h3
   cases h3)
  (fun i _ hi h=>by
   have Xu:(0:Int)<=(i:Int)/\(i:Int) < (T.length:Int):=by omega
   simp only [Zb.step,Zb.l1,Zb.j1,List.length_map,Xu.2,if_true,Xu,and_self,show (i:Int).toNat=i from rfl,Whl T hi,wr1 hi (by omega:T.length<=9223372036854775807)]
   rw [show (toR x).Hi=x.Hi from rfl,show (toR x).Lo=x.Lo from rfl,show (toR (T.getD i Qb.z)).Lo=(T.getD i Qb.z).Lo from rfl,show (toR (T.getD i Qb.z)).Hi=(T.getD i Qb.z).Hi from rfl]
   have hx:=take_at (l:=T) (z:=Qb.z) hi
   have hin:=Qbo (z:=Qb.z) hi
   generalize T.getD i Qb.z=t at hx hin ⊢
   have Qiq:ov t x=false->∀ y∈T.take (i+1),ov y x=false:=fun h0 y hx2=>by
    rw [hx] at hx2
    rcases List.mem_append.1 hx2 with h3 | h3
    ·exact h y h3
    simp only [List.mem_singleton] at h3
    subst h3
    exact h0
   by_cases a1:t.Lo < x.Hi
   ·rw [if_pos a1]
    by_cases a2:x.Lo < t.Hi
    ·right
     refine ⟨true,by rw [decide_eq_true a2];rfl, ?_⟩
     symm
     unfold ovs
     rw [List.any_eq_true]
     exact ⟨t,hin,by simp [ov,a1,a2]⟩
    left
    exact ⟨(),by rw [decide_eq_false a2];rfl,Qiq (by simp [ov,a2])⟩
   left
   exact ⟨(),by rw [if_neg a1];rfl,Qiq (by simp [ov,a1])⟩) 0 () (Nat.zero_le _) (by simp)
 rw [show ((0:Nat):Int)=0 from rfl] at h1
 rw [h1,h2]
def Qga (S:List Qc) (l:List Qm):Nat:=(l.map (Qmf S)).sum
theorem Qpt (S:List Qc) {l:List Qm} {i:Nat} (hi:i < l.length):Qga S (l.take (i+1))=Qga S (l.take i)+Qmf S (l.getD i Qm.z):=by
 unfold Qga
 rw [take_at (z:=Qm.z) hi]
 simp
theorem Qy0 (S:List Qc) (l:List Qm):∀ i,i<=l.length->Qga S (l.take i)<=S.length * i:=by
 intro i
 induction i with
 | zero=>intro _;simp [Qga]
 | succ i ih=>
  intro hi
  rw [Qpt S (by omega)]
  have h1:=ih (by omega)
  have h2:=Wkg S (l.getD i Qm.z)
  rw [Nat.mul_add,Nat.mul_one]
  omega
theorem Qxx {l:List Qm} (h:Qlt l) (Jp:∀ c∈l,Qds c) {S:List Qc} (hS:S.length<=1000) (hSm:∀ e∈S,mOk e.M=true):
  Xf (Wu.step l (S,0)) (.l1 0 0)=some (Qga S l:Int):=by
 have hlen:=h.len
 let st:=Wu.step l (S,0)
 let L2:=fun (f n i k:Int) (c:Qm)=>Wu.S.l2 f n i k c.ID c.Keys.Lo c.Keys.Hi c.Clock c.Qa1 c.Qag c.Held c.Base c.Log c.Qs
 have inner:∀ (i n:Nat) (c:Qm),Qik c->Qds c->n<=100000->Xf st (L2 (Qfs c) (n:Int) (i:Int) 0 c)=Xf st (L2 (Qfs c) ((n+Qmf S c:Nat):Int) (i:Int) (S.length:Int) c):=by
  intro i n c hf hc hn
  have e:=(Qin (step:=st) S Qc.z (fun k (x:Nat)=>L2 (Qfs c) (x:Int) (i:Int) (k:Int) c) (Qlf c) (fun k x=>x<=n+k) (fun k x hk hx=>by
   have hs2:(0:Int)<=(k:Int)/\(k:Int) < (S.length:Int):=by omega
   have hm:=hSm _ (Qbo (z:=Qc.z) hk)
   have hw:IntKind.wrap .i64 ((x:Int)+1)=((x+1:Nat):Int):=by rw [wr (by omega)];omega
   refine ⟨?_,by unfold Qlf;split<;>omega⟩
   have hj:∀ b,b=Qms c (S.getD k Qc.z)->Wu.j1 (x:Int) (i:Int) (k:Int) c.ID c.Keys.Lo c.Keys.Hi c.Clock c.Qa1 c.Qag c.Held c.Base c.Log c.Qs (Qfs c) b=some (.inl (L2 (Qfs c) (Qlf c x (S.getD k Qc.z):Int) (i:Int) ((k+1:Nat):Int) c)):=by
    intro b hb
    simp only [Wu.j1,Wu.j2,Qlf,<- hb,wr1 hk (by omega:S.length<=9223372036854775807),hw,L2]
    cases b<;>rfl
   simp only [st,L2,Wu.step,Wu.l2,hs2.2,if_true,hs2,and_self,show (k:Int).toNat=k from rfl]
   generalize S.getD k Qc.z=e at hm hj ⊢
   by_cases a1:c.Qag=true
   ·rw [if_pos a1]
    exact hj false (by simp [Qms,a1])
   rw [if_neg a1]
   by_cases a2:e.Time<=Qfs c
   ·rw [if_pos a2]
    obtain ⟨T,t1,t2,t3,t4⟩:=Qwy (x:=c.Keys) hm (Qix hc.keys)
    have t4':Qdx T [(⟨c.Keys.Lo,c.Keys.Hi⟩:Qb)]=some (Qht e.M [c.Keys]):=t4
    rw [t1,Option.bind_some,t4',Option.bind_some]
    by_cases a3:Qht e.M [c.Keys]=true
    ·rw [if_pos a3]
     have hk2:Qhr (⟨c.ID,(⟨c.Keys.Lo,c.Keys.Hi⟩:Qb),c.Clock,c.Qa1,c.Qag,c.Held,c.Base,c.Log,c.Qs⟩:Qm) e=some (kB c e):=Wgj (c:=c) e (by have:=hf.known;omega)
     rw [hk2,Option.bind_some]
     exact hj _ (by simp [Qms,a1,a2,a3])
    rw [if_neg a3]
    exact hj false (by simp [Qms,a3])
   rw [if_neg a2]
   exact hj false (by simp [Qms,a2])) n (by omega)).1
  rw [Qqp] at e
  exact e
 have key:∀ (m i:Nat),i+m=l.length->Xf st (.l1 (Qga S (l.take i):Int) (i:Int))=some (Qga S l:Int):=by
  intro m
  induction m with
  | zero=>
   intro i hi
   obtain rfl:i=l.length:=by omega
   rw [Zc,Qa3 (Nat.le_refl _)]
   simp [st,Wu.step,Wu.l1,stk]
  | succ m ih=>
   intro i hi
   have hi':i < l.length:=by omega
   have hs1:(0:Int)<=(i:Int)/\(i:Int) < (l.length:Int):=by omega
   have hin:=Qbo (z:=Qm.z) hi'
   have hle:=Qy0 S l i (by omega)
   have hle2:S.length * i<=1000 * 14:=Nat.mul_le_mul hS (by omega)
   have hnx:=Qpt S hi'
   have hff:=h.few _ hin
   have hcc:=Jp _ hin
   have e1:st (.l1 (Qga S (l.take i):Int) (i:Int))=some (.inl (L2 (Qfs (l.getD i Qm.z)) (Qga S (l.take i):Int) (i:Int) 0 (l.getD i Qm.z))):=by
    simp only [st,L2,Wu.step,Wu.l1,hs1.2,if_true,hs1,and_self,show (i:Int).toNat=i from rfl]
    rw [(Wah hff hcc).1,Option.bind_some]
   generalize l.getD i Qm.z=c at hff hcc e1 hnx
   have e2:st (L2 (Qfs c) ((Qga S (l.take i)+Qmf S c:Nat):Int) (i:Int) (S.length:Int) c)=some (.inl (.l1 ((Qga S (l.take i)+Qmf S c:Nat):Int) ((i+1:Nat):Int))):=by
    simp only [st,L2,Wu.step,Wu.l2,Int.lt_irrefl,if_false,wr1 hi' (by omega:l.length<=9223372036854775807)]
   rw [Zc,e1]
   refine (inner i _ c hff hcc (by omega)).trans ?_
   rw [Zc,e2,<- hnx]
   exact ih (i+1) (by omega)
 exact key l.length 0 (by omega)
theorem Qtp {l:List Qm} (h:Qlt l) (Jp:∀ c∈l,Qds c) {S:List Qc} (hS:S.length<=1000) (hSm:∀ e∈S,mOk e.M=true):
  Xf (Wq.step (l.map trO) (S.map trE,0)) (.l1 0 0)=some (Qga S l:Int):=by
 have hlen:=h.len
 let st:=Wq.step (l.map trO) (S.map trE,0)
 have Qpj:∀ {i:Nat},i < l.length->(l.map trO).getD i Ql.z=trO (l.getD i Qm.z):=fun hi=>Qnc trO l hi
 let L3:=fun (f n i k:Int) (b:Bool) (q:Int) (e:Qd)=>Wq.S.l3 f n i k b q e.M.Client e.M.Seq e.M.Kind e.M.Pairs e.M.Over.Lo e.M.Over.Hi e.M.Old e.Time e.Zw
 have inner:∀ (i n:Nat),i < l.length->n<=100000->Xf st (.l2 (Qfs (l.getD i Qm.z)) (n:Int) (i:Int) 0)=Xf st (.l2 (Qfs (l.getD i Qm.z)) ((n+Qmf S (l.getD i Qm.z):Nat):Int) (i:Int) (S.length:Int)):=by
  intro i n hi hn
  have hs1:(0:Int)<=(i:Int)/\(i:Int) < (l.length:Int):=by omega
  have hin:=Qbo (z:=Qm.z) hi
  have hf:=h.few _ hin
  have hc:=Jp _ hin
  have hci:=Qpj hi
  generalize l.getD i Qm.z=c at hf hc hci
  have hkn:=hf.known
  have hstepk:∀ k (x:Nat),k < S.length->x<=n+k->Xf st (.l2 (Qfs c) (x:Int) (i:Int) (k:Int))=Xf st (.l2 (Qfs c) (Qlf c x (S.getD k Qc.z):Int) (i:Int) ((k+1:Nat):Int)):=by
   intro k x hk hx
   have hs2:(0:Int)<=(k:Int)/\(k:Int) < (S.length:Int):=by omega
   have hm:=hSm _ (Qbo (z:=Qc.z) hk)
   have hw:IntKind.wrap .i64 ((x:Int)+1)=((x+1:Nat):Int):=by rw [wr (by omega)];omega
   have hSk:(S.map trE).getD k Qd.z=trE (S.getD k Qc.z):=Qke S hk
   generalize S.getD k Qc.z=e at hm hSk
   have e1:st (.l2 (Qfs c) (x:Int) (i:Int) (k:Int))=some (.inl (L3 (Qfs c) (x:Int) (i:Int) (k:Int) false 0 (trE e))):=by
    simp only [st,L3,Wq.step,Wq.l2,List.length_map,hs2.2,if_true,hs2,and_self,show (k:Int).toNat=k from rfl,hSk]
   have hfold:∀ (l:List Qo) (b:Bool),l.foldl (fun b y=>b || decide (isW e.M.Client e.M.Seq y)) b=(b || l.any fun y=>decide (isW e.M.Client e.M.Seq y)):=by
    intro l
    induction l with
    | nil=>intro b;simp
    | cons y l ih=>intro b;rw [List.foldl_cons,ih,List.any_cons,Bool.or_assoc]
   have e2:=(Qin (step:=st) c.Qs Qo.z (fun q (b:Bool)=>L3 (Qfs c) (x:Int) (i:Int) (k:Int) b (q:Int) (trE e)) (fun b y=>b || decide (isW e.M.Client e.M.Seq y)) (fun _ _=>True) (fun q b hq _=>by
    have hs3:(0:Int)<=(q:Int)/\(q:Int) < (c.Qs.length:Int):=by omega
    refine ⟨?_,trivial⟩
    have hK:(trO c).Qs.getD q Wh.z=trN (c.Qs.getD q Qo.z):=Qlc c.Qs hq
    have hKl:(trO c).Qs.length=c.Qs.length:=by simp [trO]
    simp only [st,L3,Wq.step,Wq.l3,Wq.j3,List.length_map,hs1,and_self,if_true,show (i:Int).toNat=i from rfl,hci,hKl,hs3.2,hs3,show (q:Int).toNat=q from rfl,hK,wr1 hq (by omega:c.Qs.length<=9223372036854775807)]
    generalize c.Qs.getD q Qo.z=y
    cases b with
    | true=>rfl
    | false=>
     simp only [Bool.false_eq_true,if_false,Bool.false_or]
     rw [show (trN y).Client=y.Client from rfl,show (trN y).Seq=y.Seq from rfl,show (trE e).M.Client=e.M.Client from rfl,show (trE e).M.Seq=e.M.Seq from rfl]
     unfold isW
     by_cases h1:y.Client=e.M.Client
     ·rw [if_pos h1,show (y.Seq == e.M.Seq)=decide (y.Client=e.M.Client/\y.Seq=e.M.Seq) by rw [Bool.eq_iff_iff];simp [h1]]
     rw [if_neg h1,show decide (y.Client=e.M.Client/\y.Seq=e.M.Seq)=false by simp [h1]]) false trivial).1
   rw [hfold,Bool.false_or] at e2
   have e3:st (L3 (Qfs c) (x:Int) (i:Int) (k:Int) (kB c e) (c.Qs.length:Int) (trE e))=some (.inl (.l2 (Qfs c) (Qlf c x e:Int) (i:Int) ((k+1:Nat):Int))):=by
    have hKl:(trO c).Qs.length=c.Qs.length:=by simp [trO]
    simp only [st,L3,Wq.step,Wq.l3,List.length_map,hs1,and_self,if_true,show (i:Int).toNat=i from rfl,hci,hKl,Int.lt_irrefl,if_false]
    have hj:∀ b,b=Qms c e->Wq.j1 (x:Int) (i:Int) (k:Int) (Qfs c) b=some (.inl (.l2 (Qfs c) (Qlf c x e:Int) (i:Int) ((k+1:Nat):Int))):=by
     intro b hb
     simp only [Wq.j1,Wq.j2,Qlf,<- hb,wr1 hk (by omega:S.length<=9223372036854775807),hw]
     cases b<;>rfl
    unfold Qms at hj
    rw [show (trO c).Qag=c.Qag from rfl,show (trO c).Keys=toR c.Keys from rfl,show (trE e).Time=e.Time from rfl]
    by_cases a1:c.Qag=true
    ·rw [if_pos a1]
     exact hj false (by rw [a1];simp)
    rw [if_neg a1]
    rw [show c.Qag=false by simpa using a1] at hj
    by_cases a2:e.Time<=Qfs c
    ·rw [if_pos a2]
     rw [decide_eq_true a2] at hj
     have t4:Zb (⟨(trE e).M.Client,(trE e).M.Seq,(trE e).M.Kind,(trE e).M.Pairs,(⟨(trE e).M.Over.Lo,(trE e).M.Over.Hi⟩:Qi),(trE e).M.Old⟩:Xe) (toR c.Keys)=some (Qht e.M [c.Keys]):=Qw8 hm (Qix hc.keys)
     rw [t4,Option.bind_some]
     by_cases a3:Qht e.M [c.Keys]=true
     ·rw [if_pos a3]
      exact hj _ (by rw [a3];simp)
     rw [if_neg a3]
     exact hj false (by rw [show Qht e.M [c.Keys]=false by simpa using a3];simp)
    rw [if_neg a2]
    exact hj false (by rw [decide_eq_false a2];simp)
   rw [Zc,e1]
   refine (show Xf st (L3 (Qfs c) (x:Int) (i:Int) (k:Int) false 0 (trE e))=_ from e2).trans ?_
   rw [Zc]
   refine (congrArg (fun o=>stk o (Xf st)) (show st _=_ from e3)).trans ?_
   rfl
  have key:∀ (m k x:Nat),k+m=S.length->x<=n+k->Xf st (.l2 (Qfs c) (x:Int) (i:Int) (k:Int))=Xf st (.l2 (Qfs c) (((S.drop k).foldl (Qlf c) x:Nat):Int) (i:Int) (S.length:Int)):=by
   intro m
   induction m with
   | zero=>
    intro k x hk hx
    obtain rfl:k=S.length:=by omega
    rw [List.drop_length]
    rfl
   | succ m ih=>
    intro k x hk hx
    have hk':k < S.length:=by omega
    have hle:Qlf c x (S.getD k Qc.z)<=n+(k+1):=by unfold Qlf;split<;>omega
    rw [hstepk k x hk' hx,ih (k+1) _ (by omega) hle,List.drop_eq_getElem_cons hk',List.foldl_cons,show S[k]=S.getD k Qc.z by simp [hk']]
  have:=key S.length 0 n (by omega) (by omega)
  rw [List.drop_zero,Qqp] at this
  exact this
 have key:∀ (m i:Nat),i+m=l.length->Xf st (.l1 (Qga S (l.take i):Int) (i:Int))=some (Qga S l:Int):=by
  intro m
  induction m with
  | zero=>
   intro i hi
   obtain rfl:i=l.length:=by omega
   rw [Zc,Qa3 (Nat.le_refl _)]
   simp [st,Wq.step,Wq.l1,stk]
  | succ m ih=>
   intro i hi
   have hi':i < l.length:=by omega
   have hs1:(0:Int)<=(i:Int)/\(i:Int) < (l.length:Int):=by omega
   have hin:=Qbo (z:=Qm.z) hi'
   have hle:=Qy0 S l i (by omega)
   have hle2:S.length * i<=1000 * 14:=Nat.mul_le_mul hS (by omega)
   have hnx:=Qpt S hi'
   have e1:st (.l1 (Qga S (l.take i):Int) (i:Int))=some (.inl (.l2 (Qfs (l.getD i Qm.z)) (Qga S (l.take i):Int) (i:Int) 0)):=by
    simp only [st,Wq.step,Wq.l1,List.length_map,hs1.2,if_true,hs1,and_self,show (i:Int).toNat=i from rfl,Qpj hi']
    rw [(Wah (h.few _ hin) (Jp _ hin)).2,Option.bind_some]
   have e2:st (.l2 (Qfs (l.getD i Qm.z)) ((Qga S (l.take i)+Qmf S (l.getD i Qm.z):Nat):Int) (i:Int) (S.length:Int))=some (.inl (.l1 ((Qga S (l.take i)+Qmf S (l.getD i Qm.z):Nat):Int) ((i+1:Nat):Int))):=by
    simp only [st,Wq.step,Wq.l2,List.length_map,Int.lt_irrefl,if_false,wr1 hi' (by omega:l.length<=9223372036854775807)]
   rw [Zc,e1]
   refine (inner i _ hi' (by omega)).trans ?_
   rw [Zc,e2,<- hnx]
   exact ih (i+1) (by omega)
 exact key l.length 0 (by omega)
end
end Go.SyP
namespace Go.SyP
open Go Go.Sy Sets
theorem Qum:∀ (l m:List Qc),l.Nodup->(∀ x∈l,x∈m)->l.length<=m.length
 | [],_,_,_=>by simp
 | x :: l,m,h,hs=>by
  obtain ⟨h1,h2⟩:=List.nodup_cons.1 h
  obtain ⟨s,t,rfl⟩:=List.append_of_mem (hs x (List.mem_cons_self ..))
  have:=Qum l (s ++ t) h2 fun y hy=>by
   have:=hs y (List.mem_cons_of_mem _ hy)
   rw [List.mem_append,List.mem_cons] at this
   rcases this with h3 | rfl | h3
   ·exact List.mem_append.2 (.inl h3)
   ·exact absurd hy h1
   exact List.mem_append.2 (.inr h3)
  simp only [List.length_append,List.length_cons] at *
  omega
theorem Qmz.len {L S:List Qc} (h:Qmz L S):S.length<=L.length:=
 Qum S L (h.up.imp fun {a b} hab e=>by subst e;exact Qpr a hab) fun x hx=>(h.mem x).1 hx
structure Wa7 (l:List Qm) (S:List Qc) (e:Int):Prop where
 prog:Qt l=some (S,e)
 ref:Qf (l.map trO)=some (S.map trE,e)
 ok:e=0↔(∀ c∈l,Qds c)/\¬ Wt (Qd6 l)
 is:e=0->Qmz (Qd6 l) S
 len:S.length<=1000
 prs:∀ x∈S,x.M.Pairs.length<=20
theorem Wi9 {l:List Qm} (h:Qlt l):∃ S e,Wa7 l S e:=by
 have hlen:=h.len
 by_cases Jp:∀ c∈l,Qds c
 ·rcases Wa8 h Jp with ⟨c1,p1⟩ | ⟨S,p1,c1,o1⟩
  ·rcases Qow h Jp with ⟨c2,p2⟩ | ⟨S',p2,c2,o2⟩
   ·exact ⟨[],3,p1,p2,⟨fun h=>by simp at h,fun h=>absurd c1 h.2⟩,fun h=>by simp at h,by simp,by simp⟩
   exact absurd c1 c2
  rcases Qow h Jp with ⟨c2,p2⟩ | ⟨S',p2,c2,o2⟩
  ·exact absurd c2 c1
  obtain rfl:S=S':=o1.unique o2 fun _=>Iff.rfl
  have h1:=o1.len
  have h2:=Qpn h l.length (Nat.le_refl _)
  rw [Qa3 (Nat.le_refl _)] at h2
  refine ⟨S,0,p1,p2,⟨fun _=>⟨Jp,c1⟩,fun _=>rfl⟩,fun _=>o1,by omega,fun x hx=>?_⟩
  obtain ⟨c,hc,hx⟩:=Qig.1 ((o1.mem x).1 hx)
  exact (h.few c hc).lp x hx
 exact ⟨[],1,Wd7 h Jp,Qw6 h Jp,⟨fun h=>by simp at h,fun h=>absurd h.1 Jp⟩,fun h=>by simp at h,by simp,by simp⟩
theorem Wa7.mOk {l:List Qm} {S:List Qc} {e:Int} (h:Wa7 l S e) (he:e=0):∀ x∈S,mOk x.M=true:=by
 intro x hx
 obtain ⟨c,hc,hx⟩:=Qig.1 (((h.is he).mem x).1 hx)
 have:=(h.ok.1 he).1 c hc
 exact (Ql8 (z:=Qc.z) (p:=fun x:Qc=>SyP.mOk x.M=true)).1 (fun i hi=>(this.lg.1 i hi).1) x hx
theorem Wdc {l:List Qm} (h:Qlt l) {S:List Qc} {e:Int} (o:Wa7 l S e):
  Wu l=some (if e=0 then (Qga S l:Int) else -1)/\Wq (l.map trO)=some (if e=0 then (Qga S l:Int) else -1):=by
 unfold Wu Wq
 rw [o.prog,o.ref,Option.bind_some,Option.bind_some]
 by_cases he:e=0
 ·subst he
  rw [if_pos rfl,if_pos rfl,if_pos rfl]
  exact ⟨Qxx h (o.ok.1 rfl).1 o.len (o.mOk rfl),Qtp h (o.ok.1 rfl).1 o.len (o.mOk rfl)⟩
 rw [if_neg he,if_neg he,if_neg he]
 exact ⟨rfl,rfl⟩
theorem Qz1 {S:List Qc} (hn:S.length<=5000) (hp:∀ x∈S,x.M.Pairs.length<=20):Jf (S.map trE) (S.map trE)=some true:=by
 unfold Jf
 rw [if_pos rfl]
 obtain ⟨r,h1,h2⟩:=Qim (step:=Jf.step (S.map trE) (S.map trE)) (n:=S.length) (fun i=>.l1 (i:Int)) (fun _=>True) (E:=True) ⟨true,by rw [Zc];simp [Jf.step,Jf.l1,stk],by simp⟩ (fun i hi=>by
  have hs:(0:Int)<=(i:Int)/\(i:Int) < (S.length:Int):=by omega
  have hpi:=hp _ (Qbo (z:=Qc.z) hi)
  left
  refine ⟨?_,trivial⟩
  simp only [Jf.step,Jf.l1,Jf.j1,List.length_map,hs.2,if_true,hs,and_self,show (i:Int).toNat=i from rfl,Qke S hi,wr1 hi (by omega:S.length<=9223372036854775807)]
  generalize S.getD i Qc.z=x at hpi
  obtain ⟨v,v1,v2⟩:=Qs0 (trE x).M (trE x).M (by rw [show (trE x).M=trM x.M from rfl,Wax];omega)
  rw [v1,Option.bind_some,if_pos (v2.2 rfl)]
  simp)
 rw [show ((0:Nat):Int)=0 from rfl] at h1
 rw [h1,h2.2 ⟨fun _ _=>trivial,trivial⟩]
theorem Qln (a0:List Qm):Qbh a0=some true:=by
 obtain ⟨r,f1,f2⟩:=Wmi a0
 unfold Qbh
 rw [f1,Option.bind_some]
 by_cases hr:r=true
 ·obtain ⟨hl,hf⟩:=f2 hr
  have h:Qlt a0:=⟨by omega,hf⟩
  obtain ⟨S,e,o⟩:=Wi9 h
  obtain ⟨m1,m2⟩:=Wdc h o
  have hS:=o.len
  rw [if_pos hr,o.prog,Option.bind_some,Wha (by omega) hf,Option.bind_some,o.ref,Option.bind_some,Qz7,Option.bind_some,if_pos rfl]
  rw [Wa3 S (by omega) (fun x hx=>by have:=o.prs x hx;omega),Option.bind_some,Qz1 (by omega) o.prs,Option.bind_some,if_pos rfl,if_pos rfl,m1,Option.bind_some,Option.bind_some,m2,Option.bind_some]
  simp [Qbh.j1]
 rw [if_neg hr,Qz7]
 rfl
end Go.SyP
