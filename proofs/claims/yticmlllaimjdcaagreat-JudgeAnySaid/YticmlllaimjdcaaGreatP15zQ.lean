/- Which mutations touch a set; numbers within bounds; known ones. -/
import Derived.Test.YticmlllaimjdcaaGreatP15zN
set_option linter.unusedVariables false
set_option linter.unusedSimpArgs false
namespace Go.SyP
open Go Go.Sy Sets
open Classical in
noncomputable def Qgu (m:Qu) (on:List Qb):Bool:=decide (∃ k,Qg5 m k=true/\mem (on.map pa) k)
theorem Qsr (m:Qu) (on:List Qb):Qgu m on=true↔∃ k,Qg5 m k=true/\mem (on.map pa) k:=by
 unfold Qgu
 exact @decide_eq_true_iff _ (Classical.propDecidable _)
theorem Qvt {m:Qu} {x:Qb} (hm:mOk m=true) (hs:SOk [x]):∃ T,Qa0 m=some T/\SOk T/\(∀ k,mem (T.map pa) k↔Qg5 m k=true)/\Qdc T [x]=some (Qgu m [x]):=by
 obtain ⟨T,t1,t2,t3⟩:=Qp9 hm
 have hT:=t2.2
 obtain ⟨v,v1,v2⟩:=Wht T [x] (by omega) (by simp)
 refine ⟨T,t1,t2,t3, ?_⟩
 rw [v1]
 congr 1
 rw [Bool.eq_iff_iff,v2,Qsr]
 constructor
 ·rintro ⟨_,_,k,h1,h2⟩
  exact ⟨k,(t3 k).1 h1,h2⟩
 rintro ⟨k,h1,h2⟩
 exact ⟨t2,hs,k,(t3 k).2 h1,h2⟩
def ov (t s:Qb):Bool:=decide (t.Lo < s.Hi) && decide (s.Lo < t.Hi)
def ovs (T on:List Qb):Bool:=T.any fun t=>on.any (ov t)
theorem Qzd {T on:List Qb} (h1:SOk T) (h2:SOk on):ovs T on=true↔∃ k,mem (T.map pa) k/\mem (on.map pa) k:=by
 unfold ovs
 simp only [List.any_eq_true,ov,Bool.and_eq_true,decide_eq_true_eq,mem,List.mem_map]
 constructor
 ·rintro ⟨t,ht,s,hs,a1,a2⟩
  have k1:=h1.1.1 (pa t) (List.mem_map_of_mem ht)
  have k2:=h2.1.1 (pa s) (List.mem_map_of_mem hs)
  unfold Ok pa at k1 k2
  simp only at k1 k2
  by_cases hle:t.Lo<=s.Lo
  ·exact ⟨s.Lo,⟨pa t,⟨t,ht,rfl⟩,by unfold pa;simp only;omega⟩,⟨pa s,⟨s,hs,rfl⟩,by unfold pa;simp only;omega⟩⟩
  exact ⟨t.Lo,⟨pa t,⟨t,ht,rfl⟩,by unfold pa;simp only;omega⟩,⟨pa s,⟨s,hs,rfl⟩,by unfold pa;simp only;omega⟩⟩
 rintro ⟨k,⟨_,⟨t,ht,rfl⟩,a1⟩,⟨_,⟨s,hs,rfl⟩,a2⟩⟩
 unfold pa at a1 a2
 simp only at a1 a2
 exact ⟨t,ht,s,hs,by omega,by omega⟩
theorem Wfu (a:List Qb) {i:Nat} (hi:i < a.length):(a.map toR).getD i Qx.z=toR (a.getD i Qb.z):=by
 simp [List.getD_eq_getElem?_getD,hi]
theorem Qj6 (n a b:Int):Qav n a b=true↔a<=n/\n<=b:=by
 unfold Qav Qav.j1
 by_cases h:n>=a
 ·rw [if_pos h];simp;omega
 rw [if_neg h];simp;omega
theorem Qev (n a b:Int):Qbr n a b=true↔a<=n/\n<=b:=by
 unfold Qbr Qbr.j1
 by_cases h:n>=a
 ·rw [if_pos h];simp;omega
 rw [if_neg h];simp;omega
def KL (a b:Ql):Prop:=a.Client < b.Client\/(a.Client=b.Client/\a.Seq < b.Seq)
def isW (c s:Int) (k:Ql):Prop:=k.Client=c/\k.Seq=s
def Qps (a b:Ql):Int:=if Qh0 a.Client b.Client≠0 then Qh0 a.Client b.Client else Qh0 a.Seq b.Seq
theorem Qyv (a b:Ql):Qc9 a b=some (Qps a b):=by
 unfold Qc9 Jt Qps
 rw [Qpt,Qpt]
 generalize Qh0 a.Client b.Client=y
 generalize Qh0 a.Seq b.Seq=z
 have w0:IntKind.wrap .i64 ((0:Int)+1)=1:=by decide
 have w1:IntKind.wrap .i64 ((1:Int)+1)=2:=by decide
 rw [Zd]
 simp only [Jt.step,Jt.l1,List.length_cons,List.length_nil,w0]
 rw [if_pos (by decide),if_pos (by decide)]
 simp only [List.getD_cons_zero,Int.toNat_zero]
 by_cases hy:y=0
 ·subst hy
  simp only [if_true,stk]
  rw [Zd]
  simp only [Jt.step,Jt.l1,List.length_cons,List.length_nil,w1]
  rw [if_pos (by decide),if_pos (by decide)]
  simp only [show (1:Int).toNat=1 from rfl,List.getD_cons_succ,List.getD_cons_zero]
  by_cases hz:z=0
  ·subst hz
   simp only [if_true,stk]
   rw [Zd]
   simp [Jt.step,Jt.l1,stk]
  simp [hz,stk]
 simp [hy,stk]
theorem Qqy (a b:Ql):Qps a b < 0↔KL a b:=by
 unfold Qps Qh0 KL
 split<;>split<;>(try split)<;>(try split)<;>omega
theorem Qyx (a b:Ql):Qps a b=0↔isW b.Client b.Seq a:=by
 unfold Qps Qh0 isW
 split<;>split<;>(try split)<;>(try split)<;>omega
def KnS (l:List Ql):Prop:=∀ i j,i < j->j < l.length->KL (l.getD i Ql.z) (l.getD j Ql.z)
theorem KnS.uniq {l:List Ql} (h:KnS l) {c s:Int} {i j:Nat} (hi:i < l.length) (hj:j < l.length) (wi:isW c s (l.getD i Ql.z)) (wj:isW c s (l.getD j Ql.z)):i=j:=by
 rcases Nat.lt_trichotomy i j with h1 | h1 | h1
 ·have:=h i j h1 hj
  unfold KL isW at *
  omega
 ·exact h1
 have:=h j i h1 hi
 unfold KL isW at *
 omega
theorem Qyf (l:List Ql) (t:Ql) (f:Ql->Ql->Option Int) (hf:∀ a b,f a b=some (Qps a b)) (hn:l.length<=5000) (hs:KnS l):∀ (m lo hi:Nat),hi - lo<=m->lo<=hi->hi<=l.length->(∀ j,j < lo->KL (l.getD j Ql.z) t)->(∀ j,hi<=j->j < l.length->¬ KL (l.getD j Ql.z) t) ->
  ∃ (i:Nat) (b:Bool),Xb (Xk.step l t f) (.l1 (lo:Int) (hi:Int))=some ((i:Int),b)/\(b=true->i < l.length/\isW t.Client t.Seq (l.getD i Ql.z))/\(b=false->∀ j,j < l.length->¬ isW t.Client t.Seq (l.getD j Ql.z)):=by
 have fin:∀ n:Nat,n<=l.length->(∀ j,j < n->KL (l.getD j Ql.z) t)->(∀ j,n<=j->j < l.length->¬ KL (l.getD j Ql.z) t) ->
   ∃ (i:Nat) (b:Bool),Xb (Xk.step l t f) (.l1 (n:Int) (n:Int))=some ((i:Int),b)/\(b=true->i < l.length/\isW t.Client t.Seq (l.getD i Ql.z))/\(b=false->∀ j,j < l.length->¬ isW t.Client t.Seq (l.getD j Ql.z)):=by
  intro n hn1 h1 h2
  have hlt:∀ j,j < n->¬ isW t.Client t.Seq (l.getD j Ql.z):=fun j hj=>by
   have:=h1 j hj
   unfold KL isW at *
   omega
  rw [Zd]
  simp only [Xk.step,Xk.l1,Int.lt_irrefl,if_false,Xk.j1]
  by_cases hl:n < l.length
  ·rw [if_pos (by omega),if_pos (by omega)]
   simp only [hf,Option.bind_some,show (n:Int).toNat=n from rfl,stk]
   refine ⟨n,_,rfl,fun h=>⟨hl,(Qyx _ _).1 (by simpa using h)⟩,fun h j hj=>?_⟩
   have hne:¬ isW t.Client t.Seq (l.getD n Ql.z):=fun hw=>by
    rw [(Qyx _ _).2 hw] at h
    simp at h
   rcases Nat.lt_trichotomy j n with h3 | h3 | h3
   ·exact hlt j h3
   ·rw [h3];exact hne
   have h4:=hs n j h3 hj
   have h5:=h2 n (Nat.le_refl _) hl
   unfold KL isW at *
   omega
  rw [if_neg (by omega)]
  exact ⟨n,false,rfl,by simp,fun _ j hj=>hlt j (by omega)⟩
 intro m
 induction m with
 | zero=>
  intro lo hi h1 h2 h3 h4 h5
  obtain rfl:lo=hi:=by omega
  exact fin lo h3 h4 h5
 | succ m ih=>
  intro lo hi h1 h2 h3 h4 h5
  rcases Nat.lt_or_ge lo hi with hlt | hge
  ·rw [Zd]
   simp only [Xk.step,Xk.l1]
   rw [if_pos (by omega)]
   have Qua:IntKind.wrap .i64 (Int.fdiv (IntKind.wrap .u64 (IntKind.wrap .i64 ((lo:Int)+(hi:Int)))) 2)=(((lo+hi) / 2:Nat):Int):=by
    rw [wr (n:=(lo:Int)+hi) (by omega)]
    have e1:IntKind.wrap .u64 ((lo:Int)+(hi:Int))=(lo:Int)+hi:=by
     simp [IntKind.wrap,IntKind.bits,IntKind.signed];omega
    rw [e1]
    have e2:Int.fdiv ((lo:Int)+(hi:Int)) 2=(((lo+hi) / 2:Nat):Int):=by
     rw [Int.fdiv_eq_ediv_of_nonneg _ (by omega)]
     omega
    rw [e2,wr (by omega)]
   rw [Qua]
   simp only [bnd]
   have hm1:(lo+hi) / 2 < l.length:=by omega
   rw [if_pos (by omega)]
   simp only [hf,Option.bind_some,show (((lo+hi) / 2:Nat):Int).toNat=(lo+hi) / 2 from rfl]
   by_cases hk:KL (l.getD ((lo+hi) / 2) Ql.z) t
   ·rw [if_pos ((Qqy _ _).2 hk),wr (by omega)]
    exact ih ((lo+hi) / 2+1) hi (by omega) (by omega) h3 (fun j hj=>by
     rcases Nat.lt_or_ge j ((lo+hi) / 2) with h6 | h6
     ·have:=hs j ((lo+hi) / 2) h6 hm1
      unfold KL at *
      omega
     obtain rfl:j=(lo+hi) / 2:=by omega
     exact hk) h5
   rw [if_neg fun h=>hk ((Qqy _ _).1 h)]
   exact ih lo ((lo+hi) / 2) (by omega) (by omega) (by omega) h4 (fun j hj hj2 hc=>by
    rcases Nat.lt_or_ge ((lo+hi) / 2) j with h6 | h6
    ·have:=hs ((lo+hi) / 2) j h6 hj2
     unfold KL at *
     omega
    obtain rfl:j=(lo+hi) / 2:=by omega
    exact hk hc)
  obtain rfl:lo=hi:=by omega
  exact fin lo h3 h4 h5
instance (a b:Ql):Decidable (KL a b):=by unfold KL;infer_instance
theorem Qvb {c:Qf} (cl s:Int) (hn:c.Qw.length<=5000) (hs:KnS c.Qw):
  ∃ (i:Nat) (b:Bool),Qg9 c cl s=some ((i:Int),b)/\(b=true->i < c.Qw.length/\isW cl s (c.Qw.getD i Ql.z))/\(b=false->∀ j,j < c.Qw.length->¬ isW cl s (c.Qw.getD j Ql.z)):=by
 obtain ⟨i,b,h1,h2,h3⟩:=Qyf c.Qw ⟨cl,s,0,false⟩ _ Qyv hn hs c.Qw.length 0 c.Qw.length (by omega) (Nat.zero_le _) (Nat.le_refl _) (fun j hj=>by omega) (fun j h1 h2=>by omega)
 refine ⟨i,b, ?_,h2,h3⟩
 unfold Qg9 Xk
 rw [show ((0:Nat):Int)=0 from rfl] at h1
 rw [h1]
 rfl
theorem Qkc (l:List Ql) {i:Nat} (hi:i < l.length):(l.map trN).getD i Yg.z=trN (l.getD i Ql.z):=Qme trN l hi
theorem Qvn {c:Qf} (cl s:Int) (hn:c.Qw.length<=5000):
  ∃ r,Jv (trO c) cl s=some r/\((r=-1/\∀ j,j < c.Qw.length->¬ isW cl s (c.Qw.getD j Ql.z))\/∃ i:Nat,r=(i:Int)/\i < c.Qw.length/\isW cl s (c.Qw.getD i Ql.z)):=by
 unfold Jv
 refine Qbb (step:=Jv.step (trO c) cl s) (n:=c.Qw.length) (fun i (_:Unit)=>Jv.S.l1 (i:Int)) (fun i _=>∀ j,j < i->¬ isW cl s (c.Qw.getD j Ql.z)) _ ?_ ?_ 0 () (Nat.zero_le _) (fun j hj=>by omega)
 ·intro _ h
  exact ⟨-1,by simp [Jv.step,Jv.l1,trO],.inl ⟨rfl,h⟩⟩
 intro i _ hi h
 have Xr:(0:Int)<=(i:Int)/\(i:Int) < (c.Qw.length:Int):=by omega
 simp only [Jv.step,Jv.l1,Jv.j1,show (trO c).Qw=c.Qw.map trN from rfl,List.length_map,Xr.2,if_true,Xr,and_self,show (i:Int).toNat=i from rfl,Qkc c.Qw hi,wr1 hi (by omega:c.Qw.length<=9223372036854775807)]
 rw [show (trN (c.Qw.getD i Ql.z)).Client=(c.Qw.getD i Ql.z).Client from rfl,show (trN (c.Qw.getD i Ql.z)).Seq=(c.Qw.getD i Ql.z).Seq from rfl]
 generalize hK:c.Qw.getD i Ql.z=K
 by_cases h1:K.Client=cl
 ·rw [if_pos h1]
  by_cases h2:K.Seq=s
  ·right
   exact ⟨(i:Int),by simp [h2],.inr ⟨i,rfl,hi,by rw [hK];exact h1,by rw [hK];exact h2⟩⟩
  left
  refine ⟨(),by simp [h2],fun j hj=>?_⟩
  by_cases hj2:j=i
  ·rw [hj2,hK];exact fun h=>h2 h.2
  exact h j (by omega)
 left
 refine ⟨(),by rw [if_neg h1];simp,fun j hj=>?_⟩
 by_cases hj2:j=i
 ·rw [hj2,hK];exact fun h=>h1 h.1
 exact h j (by omega)
end Go.SyP
namespace Go.SyP
open Go Go.Sy Sets
def stE (e:Qc):Jh:=⟨e.Time,e.M.Client,e.M.Seq⟩
def stW (w:Qr):Jh:=⟨w.Time,w.M.Client,w.M.Seq⟩
def isH (c s:Int) (w:Qr):Prop:=w.M.Client=c/\w.M.Seq=s
theorem Qup {i:Nat} (h:0 < i) (hn:i<=5000):IntKind.wrap .i64 ((i:Int) - 1)=((i - 1:Nat):Int):=by rw [wr (by omega)];omega
theorem Qp8 {a b c:Jh} (h:ltS a b) (k:ltS b c):ltS a c:=by unfold ltS at *;omega
def Qpj (c:Qf) (i:Nat):Prop:=(1<=(c.Qw.getD i Ql.z).Client/\(c.Qw.getD i Ql.z).Client<=1048576)/\(1<=(c.Qw.getD i Ql.z).Seq/\(c.Qw.getD i Ql.z).Seq<=1073741824) /\
 (0<=(c.Qw.getD i Ql.z).Time/\(c.Qw.getD i Ql.z).Time<=1099511627775)/\(0 < i->KL (c.Qw.getD (i - 1) Ql.z) (c.Qw.getD i Ql.z))
def Qr5 (c:Qf):Prop:=∀ i,i < c.Qw.length->Qpj c i
theorem Qr5.s {c:Qf} (h:Qr5 c):KnS c.Qw:=by
 intro i j hij hj
 have key:∀ d,∀ i,i+d+1 < c.Qw.length->KL (c.Qw.getD i Ql.z) (c.Qw.getD (i+d+1) Ql.z):=by
  intro d
  induction d with
  | zero=>intro i hi;exact (h (i+1) hi).2.2.2 (by omega)
  | succ d ih=>
   intro i hi
   have h1:=ih i (by omega)
   have h2:=(h (i+(d+1)+1) hi).2.2.2 (by omega)
   rw [show i+(d+1)+1 - 1=i+d+1 by omega] at h2
   unfold KL at *
   omega
 have:=key (j - i - 1) i (by omega)
 rwa [show i+(j - i - 1)+1=j by omega] at this
theorem Wha {c:Qf} (hn:c.Qw.length<=5000):∃ r,Xm c=some r/\(r=true↔Qr5 c):=by
 unfold Xm
 obtain ⟨r,h1,h2⟩:=Qhk (step:=Xm.step c) (n:=c.Qw.length) (fun i=>.l1 (i:Int)) (Qpj c) (E:=True) ⟨true,by rw [Zd];simp [Xm.step,Xm.l1,stk],by simp⟩ (fun i hi=>by
  have Xr:(0:Int)<=(i:Int)/\(i:Int) < (c.Qw.length:Int):=by omega
  simp only [Xm.step,Xm.l1,Xm.j1,Qdn,Xr.2,if_true,Xr,and_self,show (i:Int).toNat=i from rfl,wr1 hi (by omega:c.Qw.length<=9223372036854775807),Qj6,Qyv,Option.bind_some]
  unfold Qpj
  by_cases a1:1<=(c.Qw.getD i Ql.z).Client/\(c.Qw.getD i Ql.z).Client<=1048576
  ·rw [if_pos a1]
   by_cases a2:1<=(c.Qw.getD i Ql.z).Seq/\(c.Qw.getD i Ql.z).Seq<=1073741824
   ·rw [if_pos a2]
    by_cases a3:0<=(c.Qw.getD i Ql.z).Time/\(c.Qw.getD i Ql.z).Time<=1099511627775
    ·rw [if_pos a3]
     by_cases a4:(i:Int) > 0
     ·rw [if_pos a4,Qup (by omega) (by omega),if_pos (by omega),show ((i - 1:Nat):Int).toNat=i - 1 from rfl]
      by_cases a5:Qps (c.Qw.getD (i - 1) Ql.z) (c.Qw.getD i Ql.z) < 0
      ·left
       exact ⟨by rw [decide_eq_false (by omega)];rfl,a1,a2,a3,fun _=>(Qqy _ _).1 a5⟩
      right
      exact ⟨by rw [decide_eq_true (by omega)];rfl,fun h=>a5 ((Qqy _ _).2 (h.2.2.2 (by omega)))⟩
     left
     exact ⟨by rw [if_neg a4];rfl,a1,a2,a3,fun h=>by omega⟩
    right;exact ⟨by rw [if_neg a3],fun h=>a3 h.2.2.1⟩
   right;exact ⟨by rw [if_neg a2],fun h=>a2 h.2.1⟩
  right;exact ⟨by rw [if_neg a1],fun h=>a1 h.1⟩)
 exact ⟨r,h1,h2.trans ⟨fun h=>h.1,fun h=>⟨h,trivial⟩⟩⟩
theorem Qrv {c:Qf} {m:Qu} (hm:mOk m=true) (hs:SOk [c.Keys]):Qfp c m=some (Qgu m [c.Keys]):=by
 obtain ⟨T,t1,t2,t3,t4⟩:=Qvt hm hs
 unfold Qfp Qay bnd
 rw [t1,Option.bind_some]
 simp only []
 rw [t4]
 rfl
theorem Qr2 {c:Qf} {m:Qu} (hm:mOk m=true) (hs:SOk [c.Keys]):Jj (trO c) (trM m)=some (Qgu m [c.Keys]):=by
 obtain ⟨T,t1,t2,t3,t4⟩:=Qqf hm
 have hT:=t2.2
 unfold Jj
 rw [t4,Option.bind_some]
 have hov:ovs T [c.Keys]=Qgu m [c.Keys]:=by
  rw [Bool.eq_iff_iff,Qzd t2 hs,Qsr]
  exact ⟨fun ⟨k,a,b⟩=>⟨k,(t3 k).1 a,b⟩,fun ⟨k,a,b⟩=>⟨k,(t3 k).2 a,b⟩⟩
 rw [<- hov]
 obtain ⟨r,h1,h2⟩:=Qbb (step:=Jj.step (trO c) (T.map toR)) (n:=T.length) (fun i (_:Unit)=>Jj.S.l1 (i:Int)) (fun i _=>∀ t∈T.take i,ov t c.Keys=false) (fun r=>r=ovs T [c.Keys])
  (fun _ h=>by
   rw [Qau (Nat.le_refl _)] at h
   refine ⟨false,by simp [Jj.step,Jj.l1], ?_⟩
   symm
   unfold ovs
   rw [Bool.eq_false_iff,ne_eq,List.any_eq_true]
   rintro ⟨t,ht,h3⟩
   have h4:=h t ht
   rw [show ([c.Keys].any (ov t))=ov t c.Keys by simp,h4] at h3
   cases h3)
  (fun i _ hi h=>by
   have Xr:(0:Int)<=(i:Int)/\(i:Int) < (T.length:Int):=by omega
   simp only [Jj.step,Jj.l1,Jj.j1,List.length_map,Xr.2,if_true,Xr,and_self,show (i:Int).toNat=i from rfl,Wfu T hi,wr1 hi (by omega:T.length<=9223372036854775807)]
   rw [show (trO c).Keys.Hi=c.Keys.Hi from rfl,show (trO c).Keys.Lo=c.Keys.Lo from rfl,show (toR (T.getD i Qb.z)).Lo=(T.getD i Qb.z).Lo from rfl,show (toR (T.getD i Qb.z)).Hi=(T.getD i Qb.z).Hi from rfl]
   have hx:=take_at (l:=T) (z:=Qb.z) hi
   have hin:=Qbf (z:=Qb.z) hi
   generalize T.getD i Qb.z=t at hx hin ⊢
   have Qho:ov t c.Keys=false->∀ x∈T.take (i+1),ov x c.Keys=false:=fun h0 x hx2=>by
    rw [hx] at hx2
    rcases List.mem_append.1 hx2 with h3 | h3
    ·exact h x h3
    simp only [List.mem_singleton] at h3
    subst h3
    exact h0
   by_cases a1:t.Lo < c.Keys.Hi
   ·rw [if_pos a1]
    by_cases a2:c.Keys.Lo < t.Hi
    ·right
     refine ⟨true,by rw [decide_eq_true a2];rfl, ?_⟩
     symm
     unfold ovs
     rw [List.any_eq_true]
     exact ⟨t,hin,by simp [ov,a1,a2]⟩
    left
    exact ⟨(),by rw [decide_eq_false a2];rfl,Qho (by simp [ov,a2])⟩
   left
   exact ⟨(),by rw [if_neg a1];rfl,Qho (by simp [ov,a1])⟩) 0 () (Nat.zero_le _) (by simp)
 rw [show ((0:Nat):Int)=0 from rfl] at h1
 rw [h1,h2]
def Qr6 (c:Qf) (i:Nat):Prop:=mOk (c.Log.getD i Qc.z).M=true/\Qgu (c.Log.getD i Qc.z).M [c.Keys]=true/\(0<=(c.Log.getD i Qc.z).Time/\(c.Log.getD i Qc.z).Time<=c.Clock) /\
 (0 < i->ltS (stE (c.Log.getD (i - 1) Qc.z)) (stE (c.Log.getD i Qc.z))) /\
 ∃ j,j < c.Qw.length/\isW (c.Log.getD i Qc.z).M.Client (c.Log.getD i Qc.z).M.Seq (c.Qw.getD j Ql.z)/\(c.Qw.getD j Ql.z).Time=(c.Log.getD i Qc.z).Time/\(c.Qw.getD j Ql.z).Jc=(c.Log.getD i Qc.z).Jc
def Qr7 (c:Qf):Prop:=(∀ i,i < c.Log.length->Qr6 c i)/\c.Log.length<=c.Qw.length
theorem Qr7.sorted {c:Qf} (h:Qr7 c):∀ i j,i < j->j < c.Log.length->ltS (stE (c.Log.getD i Qc.z)) (stE (c.Log.getD j Qc.z)):=by
 intro i j hij hj
 have key:∀ d,∀ i,i+d+1 < c.Log.length->ltS (stE (c.Log.getD i Qc.z)) (stE (c.Log.getD (i+d+1) Qc.z)):=by
  intro d
  induction d with
  | zero=>intro i hi;exact (h.1 (i+1) hi).2.2.2.1 (by omega)
  | succ d ih=>
   intro i hi
   have h1:=ih i (by omega)
   have h2:=(h.1 (i+(d+1)+1) hi).2.2.2.1 (by omega)
   rw [show i+(d+1)+1 - 1=i+d+1 by omega] at h2
   exact Qp8 h1 h2
 have:=key (j - i - 1) i (by omega)
 rwa [show i+(j - i - 1)+1=j by omega] at this
theorem Wi1 {c:Qf} (hf:Qhg c) (hs:SOk [c.Keys]) (hk:KnS c.Qw):∃ r,Wn c=some r/\(r=true↔Qr7 c):=by
 have hkn:=hf.known
 have hlg:=hf.log
 unfold Wn
 exact Qhk (step:=Wn.step c) (n:=c.Log.length) (fun i=>.l1 (i:Int)) (Qr6 c) (E:=c.Log.length<=c.Qw.length) ⟨decide ((c.Log.length:Int)<=(c.Qw.length:Int)),by rw [Zd];simp [Wn.step,Wn.l1,stk],by simp⟩ (fun i hi=>by
  have Xr:(0:Int)<=(i:Int)/\(i:Int) < (c.Log.length:Int):=by omega
  have hp:=hf.lp _ (Qbf (z:=Qc.z) hi)
  simp only [Wn.step,Wn.l1,Xr.2,if_true,Xr,and_self,show (i:Int).toNat=i from rfl]
  rw [Qfr _ (by omega),Option.bind_some]
  by_cases a1:mOk (c.Log.getD i Qc.z).M=true
  ·rw [if_pos a1,Qrv a1 hs,Option.bind_some]
   by_cases a2:Qgu (c.Log.getD i Qc.z).M [c.Keys]=true
   ·rw [if_pos a2]
    by_cases a3:0<=(c.Log.getD i Qc.z).Time/\(c.Log.getD i Qc.z).Time<=c.Clock
    ·rw [(Qj6 _ _ _).2 a3]
     simp only [Wn.j1,Bool.not_true,Bool.false_eq_true,if_false]
     obtain ⟨q,b,f1,f2,f3⟩:=Qvb (c:=c) (c.Log.getD i Qc.z).M.Client (c.Log.getD i Qc.z).M.Seq (by omega) hk
     have j2:∀ y,(y=true↔0 < i/\¬ ltS (stE (c.Log.getD (i - 1) Qc.z)) (stE (c.Log.getD i Qc.z)))->(Wn.j2 c (i:Int) y=some (.inl (.l1 ((i+1:Nat):Int)))/\Qr6 c i)\/(Wn.j2 c (i:Int) y=some (.inr false)/\¬ Qr6 c i):=by
      intro y hy
      unfold Wn.j2 Wn.j3
      cases y with
      | true=>
       right
       obtain ⟨p1,p2⟩:=hy.1 rfl
       exact ⟨by rw [if_pos rfl],fun h=>p2 (h.2.2.2.1 p1)⟩
      | false=>
       have hord:0 < i->ltS (stE (c.Log.getD (i - 1) Qc.z)) (stE (c.Log.getD i Qc.z)):=fun h=>by
        by_cases h5:ltS (stE (c.Log.getD (i - 1) Qc.z)) (stE (c.Log.getD i Qc.z))
        ·exact h5
        exact absurd (hy.2 ⟨h,h5⟩) (by simp)
       simp only [Bool.false_eq_true,if_false,show (i:Int).toNat=i from rfl,wr1 hi (by omega:c.Log.length<=9223372036854775807)]
       rw [f1,Option.bind_some]
       cases b with
       | false=>
        right
        refine ⟨by simp,fun h=>?_⟩
        obtain ⟨j,j1,j2,_⟩:=h.2.2.2.2
        exact f3 rfl j j1 j2
       | true=>
        obtain ⟨g1,g2⟩:=f2 rfl
        simp only [if_true,show (q:Int).toNat=q from rfl]
        rw [if_pos (by omega)]
        have Qte:∀ j,j < c.Qw.length->isW (c.Log.getD i Qc.z).M.Client (c.Log.getD i Qc.z).M.Seq (c.Qw.getD j Ql.z)->j=q:=fun j j1 j2=>hk.uniq j1 g1 j2 g2
        by_cases a5:(c.Qw.getD q Ql.z).Time=(c.Log.getD i Qc.z).Time
        ·rw [if_pos a5]
         by_cases a6:(c.Qw.getD q Ql.z).Jc=(c.Log.getD i Qc.z).Jc
         ·left
          exact ⟨by rw [a6];simp,a1,a2,a3,hord,q,g1,g2,a5,a6⟩
         right
         refine ⟨by rw [if_pos];rw [Bool.not_eq_true',beq_eq_false_iff_ne];exact a6,fun h=>?_⟩
         obtain ⟨j,j1,j2,j3,j4⟩:=h.2.2.2.2
         rw [Qte j j1 j2] at j4
         exact a6 j4
        right
        refine ⟨by rw [if_neg a5],fun h=>?_⟩
        obtain ⟨j,j1,j2,j3,j4⟩:=h.2.2.2.2
        rw [Qte j j1 j2] at j3
        exact a5 j3
     by_cases a4:(i:Int) > 0
     ·rw [if_pos a4,Qup (by omega) (by omega),if_pos (by omega),show ((i - 1:Nat):Int).toNat=i - 1 from rfl,show (i:Int).toNat=i from rfl]
      rw [show Qbg (c.Log.getD (i - 1) Qc.z).Time (c.Log.getD (i - 1) Qc.z).M=stE (c.Log.getD (i - 1) Qc.z) from rfl,show Qbg (c.Log.getD i Qc.z).Time (c.Log.getD i Qc.z).M=stE (c.Log.getD i Qc.z) from rfl,Qis,Option.bind_some]
      refine j2 _ ?_
      rw [decide_eq_true_iff,<- Qnu]
      exact ⟨fun h=>⟨by omega,by omega⟩,fun h=>by omega⟩
     rw [if_neg a4]
     refine j2 false ?_
     simp only [Bool.false_eq_true,false_iff]
     omega
    right
    refine ⟨?_,fun h=>a3 h.2.2.1⟩
    rw [show Qav (c.Log.getD i Qc.z).Time 0 c.Clock=false by rw [Bool.eq_false_iff,ne_eq,Qj6];exact a3]
    rfl
   right;exact ⟨by rw [if_neg a2];rfl,fun h=>a2 h.2.1⟩
  right;exact ⟨by rw [if_neg a1];rfl,fun h=>a1 h.1⟩)
theorem Whl {c:Qf} (hf:Qhg c) (hs:SOk [c.Keys]) (hk:KnS c.Qw):∃ r,Zi (trO c)=some r/\(r=true↔Qr7 c):=by
 have hkn:=hf.known
 have hlg:=hf.log
 unfold Zi
 exact Qhk (step:=Zi.step (trO c)) (n:=c.Log.length) (fun i=>.l1 (i:Int)) (Qr6 c) (E:=c.Log.length<=c.Qw.length) ⟨decide ((c.Log.length:Int)<=(c.Qw.length:Int)),by rw [Zd];simp [Zi.step,Zi.l1,stk,trO],by simp⟩ (fun i hi=>by
  have Xr:(0:Int)<=(i:Int)/\(i:Int) < (c.Log.length:Int):=by omega
  have hp:=hf.lp _ (Qbf (z:=Qc.z) hi)
  simp only [Zi.step,Zi.l1,show (trO c).Log=c.Log.map trE from rfl,List.length_map,Xr.2,if_true,Xr,and_self,show (i:Int).toNat=i from rfl,Qje c.Log hi]
  rw [show (trE (c.Log.getD i Qc.z)).M=trM (c.Log.getD i Qc.z).M from rfl,Qmg _ (by omega),Option.bind_some]
  by_cases a1:mOk (c.Log.getD i Qc.z).M=true
  ·rw [if_pos a1,Qr2 a1 hs,Option.bind_some]
   by_cases a2:Qgu (c.Log.getD i Qc.z).M [c.Keys]=true
   ·rw [if_pos a2]
    simp only [bnd]
    rw [show (trE (c.Log.getD i Qc.z)).Time=(c.Log.getD i Qc.z).Time from rfl,show (trO c).Clock=c.Clock from rfl]
    by_cases a3:0<=(c.Log.getD i Qc.z).Time/\(c.Log.getD i Qc.z).Time<=c.Clock
    ·rw [(Qev _ _ _).2 a3]
     simp only [Zi.j1,Bool.not_true,Bool.false_eq_true,if_false,show (trO c).Log=c.Log.map trE from rfl,show (i:Int).toNat=i from rfl,Qje c.Log hi]
     rw [show (trE (c.Log.getD i Qc.z)).M.Client=(c.Log.getD i Qc.z).M.Client from rfl,show (trE (c.Log.getD i Qc.z)).M.Seq=(c.Log.getD i Qc.z).M.Seq from rfl]
     obtain ⟨v,f1,f2⟩:=Qvn (c:=c) (c.Log.getD i Qc.z).M.Client (c.Log.getD i Qc.z).M.Seq (by omega)
     rw [f1,Option.bind_some]
     have j2:∀ y P,(y=true↔¬ P)->(P↔∃ j,j < c.Qw.length/\isW (c.Log.getD i Qc.z).M.Client (c.Log.getD i Qc.z).M.Seq (c.Qw.getD j Ql.z)/\(c.Qw.getD j Ql.z).Time=(c.Log.getD i Qc.z).Time/\(c.Qw.getD j Ql.z).Jc=(c.Log.getD i Qc.z).Jc) ->
       (Zi.j2 (trO c) (i:Int) y=some (.inl (.l1 ((i+1:Nat):Int)))/\Qr6 c i)\/(Zi.j2 (trO c) (i:Int) y=some (.inr false)/\¬ Qr6 c i):=by
      intro y P hy hP
      unfold Zi.j2 Zi.j3
      cases y with
      | true=>
       right
       exact ⟨by rw [if_pos rfl],fun h=>(hy.1 rfl) (hP.2 h.2.2.2.2)⟩
      | false=>
       have hex:=hP.1 (Classical.byContradiction fun h=>absurd (hy.2 h) (by simp))
       simp only [Bool.false_eq_true,if_false,show (trO c).Log=c.Log.map trE from rfl,List.length_map,wr1 hi (by omega:c.Log.length<=9223372036854775807)]
       by_cases a4:(i:Int) > 0
       ·rw [if_pos a4,Qup (by omega) (by omega),if_pos (by omega),show ((i - 1:Nat):Int).toNat=i - 1 from rfl,show (i:Int).toNat=i from rfl,Qje c.Log hi,Qje c.Log (by omega:i - 1 < c.Log.length)]
        rw [show Qdu (trE (c.Log.getD (i - 1) Qc.z)).M (trE (c.Log.getD (i - 1) Qc.z)).Time=⟨(stE (c.Log.getD (i - 1) Qc.z)).Time,(stE (c.Log.getD (i - 1) Qc.z)).Client,(stE (c.Log.getD (i - 1) Qc.z)).Seq⟩ from rfl,
         show Qdu (trE (c.Log.getD i Qc.z)).M (trE (c.Log.getD i Qc.z)).Time=⟨(stE (c.Log.getD i Qc.z)).Time,(stE (c.Log.getD i Qc.z)).Client,(stE (c.Log.getD i Qc.z)).Seq⟩ from rfl]
        by_cases a5:ltS (stE (c.Log.getD (i - 1) Qc.z)) (stE (c.Log.getD i Qc.z))
        ·left
         exact ⟨by rw [Qr4 a5];rfl,a1,a2,a3,fun _=>a5,hex⟩
        right
        exact ⟨by rw [Qpc a5];rfl,fun h=>a5 (h.2.2.2.1 (by omega))⟩
       left
       exact ⟨by rw [if_neg a4],a1,a2,a3,fun h=>by omega,hex⟩
     rcases f2 with ⟨rfl,f3⟩ | ⟨q,rfl,g1,g2⟩
     ·rw [if_pos (by decide)]
      refine j2 true False (by simp) ⟨fun h=>h.elim, ?_⟩
      rintro ⟨j,j1,j2,_⟩
      exact f3 j j1 j2
     have Qte:∀ j,j < c.Qw.length->isW (c.Log.getD i Qc.z).M.Client (c.Log.getD i Qc.z).M.Seq (c.Qw.getD j Ql.z)->j=q:=fun j j1 j2=>hk.uniq j1 g1 j2 g2
     rw [if_neg (by omega),show (trO c).Qw=c.Qw.map trN from rfl,List.length_map,if_pos (by omega),show (q:Int).toNat=q from rfl,Qkc c.Qw g1]
     rw [show (trN (c.Qw.getD q Ql.z)).Time=(c.Qw.getD q Ql.z).Time from rfl,show (trN (c.Qw.getD q Ql.z)).Jc=(c.Qw.getD q Ql.z).Jc from rfl,show (trE (c.Log.getD i Qc.z)).Time=(c.Log.getD i Qc.z).Time from rfl,show (trE (c.Log.getD i Qc.z)).Jc=(c.Log.getD i Qc.z).Jc from rfl]
     by_cases a5:(c.Qw.getD q Ql.z).Time=(c.Log.getD i Qc.z).Time
     ·rw [if_pos a5]
      refine j2 _ ((c.Qw.getD q Ql.z).Jc=(c.Log.getD i Qc.z).Jc) ?_ ⟨fun h=>⟨q,g1,g2,a5,h⟩, ?_⟩
      ·rw [Bool.not_eq_true',beq_eq_false_iff_ne]
      rintro ⟨j,j1,j2,_,j4⟩
      rw [Qte j j1 j2] at j4
      exact j4
     rw [if_neg a5]
     refine j2 true False (by simp) ⟨fun h=>h.elim, ?_⟩
     rintro ⟨j,j1,j2,j3,_⟩
     rw [Qte j j1 j2] at j3
     exact a5 j3
    right
    refine ⟨?_,fun h=>a3 h.2.2.1⟩
    rw [show Qbr (c.Log.getD i Qc.z).Time 0 c.Clock=false by rw [Bool.eq_false_iff,ne_eq,Qev];exact a3]
    rfl
   right;exact ⟨by rw [if_neg a2];rfl,fun h=>a2 h.2.1⟩
  right;exact ⟨by rw [if_neg a1];rfl,fun h=>a1 h.1⟩)
end Go.SyP
