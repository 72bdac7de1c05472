/- Which mutations touch a set; numbers within bounds; known ones. -/
import Derived.Test.YticmlllaimjdcaaGreatP15zN
set_option linter.unusedVariables false
set_option linter.unusedSimpArgs false
namespace Go.SyP
open Go Go.Sy Sets
open Classical in
noncomputable def Qht (m:We) (on:List Qb):Bool:=decide (∃ k,Qh6 m k=true/\mem (on.map pa) k)
theorem Qtr (m:We) (on:List Qb):Qht m on=true↔∃ k,Qh6 m k=true/\mem (on.map pa) k:=by
 unfold Qht
 exact @decide_eq_true_iff _ (Classical.propDecidable _)
theorem Qwy {m:We} {x:Qb} (hm:mOk m=true) (hs:SOk [x]):∃ T,Qbd m=some T/\SOk T/\(∀ k,mem (T.map pa) k↔Qh6 m k=true)/\Qdx T [x]=some (Qht m [x]):=by
 obtain ⟨T,t1,t2,t3⟩:=Qq5 hm
 have hT:=t2.2
 obtain ⟨v,v1,v2⟩:=Wjk T [x] (by omega) (by simp)
 refine ⟨T,t1,t2,t3, ?_⟩
 rw [v1]
 congr 1
 rw [Bool.eq_iff_iff,v2,Qtr]
 constructor
 ·rintro ⟨_,_,k,h1,h2⟩
  exact ⟨k,(t3 k).1 h1,h2⟩
 rintro ⟨k,h1,h2⟩
 exact ⟨t2,hs,k,(t3 k).2 h1,h2⟩
def ov (t s:Qb):Bool:=decide (t.Lo < s.Hi) && decide (s.Lo < t.Hi)
def ovs (T on:List Qb):Bool:=T.any fun t=>on.any (ov t)
theorem Was {T on:List Qb} (h1:SOk T) (h2:SOk on):ovs T on=true↔∃ k,mem (T.map pa) k/\mem (on.map pa) k:=by
 unfold ovs
 simp only [List.any_eq_true,ov,Bool.and_eq_true,decide_eq_true_eq,mem,List.mem_map]
 constructor
 ·rintro ⟨t,ht,s,hs,a1,a2⟩
  have k1:=h1.1.1 (pa t) (List.mem_map_of_mem ht)
  have k2:=h2.1.1 (pa s) (List.mem_map_of_mem hs)
  unfold Ok pa at k1 k2
  simp only at k1 k2
  by_cases hle:t.Lo<=s.Lo
  ·exact ⟨s.Lo,⟨pa t,⟨t,ht,rfl⟩,by unfold pa;simp only;omega⟩,⟨pa s,⟨s,hs,rfl⟩,by unfold pa;simp only;omega⟩⟩
  exact ⟨t.Lo,⟨pa t,⟨t,ht,rfl⟩,by unfold pa;simp only;omega⟩,⟨pa s,⟨s,hs,rfl⟩,by unfold pa;simp only;omega⟩⟩
 rintro ⟨k,⟨_,⟨t,ht,rfl⟩,a1⟩,⟨_,⟨s,hs,rfl⟩,a2⟩⟩
 unfold pa at a1 a2
 simp only at a1 a2
 exact ⟨t,ht,s,hs,by omega,by omega⟩
theorem Whl (a:List Qb) {i:Nat} (hi:i < a.length):(a.map toR).getD i Qi.z=toR (a.getD i Qb.z):=by
 simp [List.getD_eq_getElem?_getD,hi]
theorem Qk7 (n a b:Int):Qbj n a b=true↔a<=n/\n<=b:=by
 unfold Qbj Qbj.j1
 by_cases h:n>=a
 ·rw [if_pos h];simp;omega
 rw [if_neg h];simp;omega
theorem Qfi (n a b:Int):Zf n a b=true↔a<=n/\n<=b:=by
 unfold Zf Zf.j1
 by_cases h:n>=a
 ·rw [if_pos h];simp;omega
 rw [if_neg h];simp;omega
def KL (a b:Qo):Prop:=a.Client < b.Client\/(a.Client=b.Client/\a.Seq < b.Seq)
def isW (c s:Int) (k:Qo):Prop:=k.Client=c/\k.Seq=s
def Qqn (a b:Qo):Int:=if Qi0 a.Client b.Client≠0 then Qi0 a.Client b.Client else Qi0 a.Seq b.Seq
theorem Qz9 (a b:Qo):Qeu a b=some (Qqn a b):=by
 unfold Qeu Qa8 Qqn
 rw [Qqo,Qqo]
 generalize Qi0 a.Client b.Client=y
 generalize Qi0 a.Seq b.Seq=z
 have w0:IntKind.wrap .i64 ((0:Int)+1)=1:=by decide
 have w1:IntKind.wrap .i64 ((1:Int)+1)=2:=by decide
 rw [Zc]
 simp only [Qa8.step,Qa8.l1,List.length_cons,List.length_nil,w0]
 rw [if_pos (by decide),if_pos (by decide)]
 simp only [List.getD_cons_zero,Int.toNat_zero]
 by_cases hy:y=0
 ·subst hy
  simp only [if_true,stk]
  rw [Zc]
  simp only [Qa8.step,Qa8.l1,List.length_cons,List.length_nil,w1]
  rw [if_pos (by decide),if_pos (by decide)]
  simp only [show (1:Int).toNat=1 from rfl,List.getD_cons_succ,List.getD_cons_zero]
  by_cases hz:z=0
  ·subst hz
   simp only [if_true,stk]
   rw [Zc]
   simp [Qa8.step,Qa8.l1,stk]
  simp [hz,stk]
 simp [hy,stk]
theorem Qrp (a b:Qo):Qqn a b < 0↔KL a b:=by
 unfold Qqn Qi0 KL
 split<;>split<;>(try split)<;>(try split)<;>omega
theorem Wab (a b:Qo):Qqn a b=0↔isW b.Client b.Seq a:=by
 unfold Qqn Qi0 isW
 split<;>split<;>(try split)<;>(try split)<;>omega
def KnS (l:List Qo):Prop:=∀ i j,i < j->j < l.length->KL (l.getD i Qo.z) (l.getD j Qo.z)
theorem KnS.uniq {l:List Qo} (h:KnS l) {c s:Int} {i j:Nat} (hi:i < l.length) (hj:j < l.length) (wi:isW c s (l.getD i Qo.z)) (wj:isW c s (l.getD j Qo.z)):i=j:=by
 rcases Nat.lt_trichotomy i j with h1 | h1 | h1
 ·have:=h i j h1 hj
  unfold KL isW at *
  omega
 ·exact h1
 have:=h j i h1 hi
 unfold KL isW at *
 omega
theorem Qzr (l:List Qo) (t:Qo) (f:Qo->Qo->Option Int) (hf:∀ a b,f a b=some (Qqn a b)) (hn:l.length<=5000) (hs:KnS l):∀ (m lo hi:Nat),hi - lo<=m->lo<=hi->hi<=l.length->(∀ j,j < lo->KL (l.getD j Qo.z) t)->(∀ j,hi<=j->j < l.length->¬ KL (l.getD j Qo.z) t) ->
  ∃ (i:Nat) (b:Bool),Xf (Xm.step l t f) (.l1 (lo:Int) (hi:Int))=some ((i:Int),b)/\(b=true->i < l.length/\isW t.Client t.Seq (l.getD i Qo.z))/\(b=false->∀ j,j < l.length->¬ isW t.Client t.Seq (l.getD j Qo.z)):=by
 have fin:∀ n:Nat,n<=l.length->(∀ j,j < n->KL (l.getD j Qo.z) t)->(∀ j,n<=j->j < l.length->¬ KL (l.getD j Qo.z) t) ->
   ∃ (i:Nat) (b:Bool),Xf (Xm.step l t f) (.l1 (n:Int) (n:Int))=some ((i:Int),b)/\(b=true->i < l.length/\isW t.Client t.Seq (l.getD i Qo.z))/\(b=false->∀ j,j < l.length->¬ isW t.Client t.Seq (l.getD j Qo.z)):=by
  intro n hn1 h1 h2
  have hlt:∀ j,j < n->¬ isW t.Client t.Seq (l.getD j Qo.z):=fun j hj=>by
   have:=h1 j hj
   unfold KL isW at *
   omega
  rw [Zc]
  simp only [Xm.step,Xm.l1,Int.lt_irrefl,if_false,Xm.j1]
  by_cases hl:n < l.length
  ·rw [if_pos (by omega),if_pos (by omega)]
   simp only [hf,Option.bind_some,show (n:Int).toNat=n from rfl,stk]
   refine ⟨n,_,rfl,fun h=>⟨hl,(Wab _ _).1 (by simpa using h)⟩,fun h j hj=>?_⟩
   have hne:¬ isW t.Client t.Seq (l.getD n Qo.z):=fun hw=>by
    rw [(Wab _ _).2 hw] at h
    simp at h
   rcases Nat.lt_trichotomy j n with h3 | h3 | h3
   ·exact hlt j h3
   ·rw [h3];exact hne
   have h4:=hs n j h3 hj
   have h5:=h2 n (Nat.le_refl _) hl
   unfold KL isW at *
   omega
  rw [if_neg (by omega)]
  exact ⟨n,false,rfl,by simp,fun _ j hj=>hlt j (by omega)⟩
 intro m
 induction m with
 | zero=>
  intro lo hi h1 h2 h3 h4 h5
  obtain rfl:lo=hi:=by omega
  exact fin lo h3 h4 h5
 | succ m ih=>
  intro lo hi h1 h2 h3 h4 h5
  rcases Nat.lt_or_ge lo hi with hlt | hge
  ·rw [Zc]
   simp only [Xm.step,Xm.l1]
   rw [if_pos (by omega)]
   have Qvc:IntKind.wrap .i64 (Int.fdiv (IntKind.wrap .u64 (IntKind.wrap .i64 ((lo:Int)+(hi:Int)))) 2)=(((lo+hi) / 2:Nat):Int):=by
    rw [wr (n:=(lo:Int)+hi) (by omega)]
    have e1:IntKind.wrap .u64 ((lo:Int)+(hi:Int))=(lo:Int)+hi:=by
     simp [IntKind.wrap,IntKind.bits,IntKind.signed];omega
    rw [e1]
    have e2:Int.fdiv ((lo:Int)+(hi:Int)) 2=(((lo+hi) / 2:Nat):Int):=by
     rw [Int.fdiv_eq_ediv_of_nonneg _ (by omega)]
     omega
    rw [e2,wr (by omega)]
   rw [Qvc]
   simp only [bnd]
   have hm1:(lo+hi) / 2 < l.length:=by omega
   rw [if_pos (by omega)]
   simp only [hf,Option.bind_some,show (((lo+hi) / 2:Nat):Int).toNat=(lo+hi) / 2 from rfl]
   by_cases hk:KL (l.getD ((lo+hi) / 2) Qo.z) t
   ·rw [if_pos ((Qrp _ _).2 hk),wr (by omega)]
    exact ih ((lo+hi) / 2+1) hi (by omega) (by omega) h3 (fun j hj=>by
     rcases Nat.lt_or_ge j ((lo+hi) / 2) with h6 | h6
     ·have:=hs j ((lo+hi) / 2) h6 hm1
      unfold KL at *
      omega
     obtain rfl:j=(lo+hi) / 2:=by omega
     exact hk) h5
   rw [if_neg fun h=>hk ((Qrp _ _).1 h)]
   exact ih lo ((lo+hi) / 2) (by omega) (by omega) (by omega) h4 (fun j hj hj2 hc=>by
    rcases Nat.lt_or_ge ((lo+hi) / 2) j with h6 | h6
    ·have:=hs ((lo+hi) / 2) j h6 hj2
     unfold KL at *
     omega
    obtain rfl:j=(lo+hi) / 2:=by omega
    exact hk hc)
  obtain rfl:lo=hi:=by omega
  exact fin lo h3 h4 h5
instance (a b:Qo):Decidable (KL a b):=by unfold KL;infer_instance
theorem Qwg {c:Qm} (cl s:Int) (hn:c.Qs.length<=5000) (hs:KnS c.Qs):
  ∃ (i:Nat) (b:Bool),Qic c cl s=some ((i:Int),b)/\(b=true->i < c.Qs.length/\isW cl s (c.Qs.getD i Qo.z))/\(b=false->∀ j,j < c.Qs.length->¬ isW cl s (c.Qs.getD j Qo.z)):=by
 obtain ⟨i,b,h1,h2,h3⟩:=Qzr c.Qs ⟨cl,s,0,false⟩ _ Qz9 hn hs c.Qs.length 0 c.Qs.length (by omega) (Nat.zero_le _) (Nat.le_refl _) (fun j hj=>by omega) (fun j h1 h2=>by omega)
 refine ⟨i,b, ?_,h2,h3⟩
 unfold Qic Xm
 rw [show ((0:Nat):Int)=0 from rfl] at h1
 rw [h1]
 rfl
theorem Qlc (l:List Qo) {i:Nat} (hi:i < l.length):(l.map trN).getD i Wh.z=trN (l.getD i Qo.z):=Qnc trN l hi
theorem Qws {c:Qm} (cl s:Int) (hn:c.Qs.length<=5000):
  ∃ r,Zr (trO c) cl s=some r/\((r=-1/\∀ j,j < c.Qs.length->¬ isW cl s (c.Qs.getD j Qo.z))\/∃ i:Nat,r=(i:Int)/\i < c.Qs.length/\isW cl s (c.Qs.getD i Qo.z)):=by
 unfold Zr
 refine Qbi (step:=Zr.step (trO c) cl s) (n:=c.Qs.length) (fun i (_:Unit)=>Zr.S.l1 (i:Int)) (fun i _=>∀ j,j < i->¬ isW cl s (c.Qs.getD j Qo.z)) _ ?_ ?_ 0 () (Nat.zero_le _) (fun j hj=>by omega)
 ·intro _ h
  exact ⟨-1,by simp [Zr.step,Zr.l1,trO],.inl ⟨rfl,h⟩⟩
 intro i _ hi h
 have Xu:(0:Int)<=(i:Int)/\(i:Int) < (c.Qs.length:Int):=by omega
 simp only [Zr.step,Zr.l1,Zr.j1,show (trO c).Qs=c.Qs.map trN from rfl,List.length_map,Xu.2,if_true,Xu,and_self,show (i:Int).toNat=i from rfl,Qlc c.Qs hi,wr1 hi (by omega:c.Qs.length<=9223372036854775807)]
 rw [show (trN (c.Qs.getD i Qo.z)).Client=(c.Qs.getD i Qo.z).Client from rfl,show (trN (c.Qs.getD i Qo.z)).Seq=(c.Qs.getD i Qo.z).Seq from rfl]
 generalize hK:c.Qs.getD i Qo.z=K
 by_cases h1:K.Client=cl
 ·rw [if_pos h1]
  by_cases h2:K.Seq=s
  ·right
   exact ⟨(i:Int),by simp [h2],.inr ⟨i,rfl,hi,by rw [hK];exact h1,by rw [hK];exact h2⟩⟩
  left
  refine ⟨(),by simp [h2],fun j hj=>?_⟩
  by_cases hj2:j=i
  ·rw [hj2,hK];exact fun h=>h2 h.2
  exact h j (by omega)
 left
 refine ⟨(),by rw [if_neg h1];simp,fun j hj=>?_⟩
 by_cases hj2:j=i
 ·rw [hj2,hK];exact fun h=>h1 h.1
 exact h j (by omega)
end Go.SyP
namespace Go.SyP
open Go Go.Sy Sets
def stE (e:Qc):Jk:=⟨e.Time,e.M.Client,e.M.Seq⟩
def stW (w:Qr):Jk:=⟨w.Time,w.M.Client,w.M.Seq⟩
def isH (c s:Int) (w:Qr):Prop:=w.M.Client=c/\w.M.Seq=s
theorem Qvq {i:Nat} (h:0 < i) (hn:i<=5000):IntKind.wrap .i64 ((i:Int) - 1)=((i - 1:Nat):Int):=by rw [wr (by omega)];omega
theorem Qq4 {a b c:Jk} (h:ltS a b) (k:ltS b c):ltS a c:=by unfold ltS at *;omega
def Qqg (c:Qm) (i:Nat):Prop:=(1<=(c.Qs.getD i Qo.z).Client/\(c.Qs.getD i Qo.z).Client<=1048576)/\(1<=(c.Qs.getD i Qo.z).Seq/\(c.Qs.getD i Qo.z).Seq<=1073741824) /\
 (0<=(c.Qs.getD i Qo.z).Time/\(c.Qs.getD i Qo.z).Time<=1099511627775)/\(0 < i->KL (c.Qs.getD (i - 1) Qo.z) (c.Qs.getD i Qo.z))
def Qs4 (c:Qm):Prop:=∀ i,i < c.Qs.length->Qqg c i
theorem Qs4.s {c:Qm} (h:Qs4 c):KnS c.Qs:=by
 intro i j hij hj
 have key:∀ d,∀ i,i+d+1 < c.Qs.length->KL (c.Qs.getD i Qo.z) (c.Qs.getD (i+d+1) Qo.z):=by
  intro d
  induction d with
  | zero=>intro i hi;exact (h (i+1) hi).2.2.2 (by omega)
  | succ d ih=>
   intro i hi
   have h1:=ih i (by omega)
   have h2:=(h (i+(d+1)+1) hi).2.2.2 (by omega)
   rw [show i+(d+1)+1 - 1=i+d+1 by omega] at h2
   unfold KL at *
   omega
 have:=key (j - i - 1) i (by omega)
 rwa [show i+(j - i - 1)+1=j by omega] at this
theorem Wi1 {c:Qm} (hn:c.Qs.length<=5000):∃ r,Xt c=some r/\(r=true↔Qs4 c):=by
 unfold Xt
 obtain ⟨r,h1,h2⟩:=Qim (step:=Xt.step c) (n:=c.Qs.length) (fun i=>.l1 (i:Int)) (Qqg c) (E:=True) ⟨true,by rw [Zc];simp [Xt.step,Xt.l1,stk],by simp⟩ (fun i hi=>by
  have Xu:(0:Int)<=(i:Int)/\(i:Int) < (c.Qs.length:Int):=by omega
  simp only [Xt.step,Xt.l1,Xt.j1,Qec,Xu.2,if_true,Xu,and_self,show (i:Int).toNat=i from rfl,wr1 hi (by omega:c.Qs.length<=9223372036854775807),Qk7,Qz9,Option.bind_some]
  unfold Qqg
  by_cases a1:1<=(c.Qs.getD i Qo.z).Client/\(c.Qs.getD i Qo.z).Client<=1048576
  ·rw [if_pos a1]
   by_cases a2:1<=(c.Qs.getD i Qo.z).Seq/\(c.Qs.getD i Qo.z).Seq<=1073741824
   ·rw [if_pos a2]
    by_cases a3:0<=(c.Qs.getD i Qo.z).Time/\(c.Qs.getD i Qo.z).Time<=1099511627775
    ·rw [if_pos a3]
     by_cases a4:(i:Int) > 0
     ·rw [if_pos a4,Qvq (by omega) (by omega),if_pos (by omega),show ((i - 1:Nat):Int).toNat=i - 1 from rfl]
      by_cases a5:Qqn (c.Qs.getD (i - 1) Qo.z) (c.Qs.getD i Qo.z) < 0
      ·left
       exact ⟨by rw [decide_eq_false (by omega)];rfl,a1,a2,a3,fun _=>(Qrp _ _).1 a5⟩
      right
      exact ⟨by rw [decide_eq_true (by omega)];rfl,fun h=>a5 ((Qrp _ _).2 (h.2.2.2 (by omega)))⟩
     left
     exact ⟨by rw [if_neg a4];rfl,a1,a2,a3,fun h=>by omega⟩
    right;exact ⟨by rw [if_neg a3],fun h=>a3 h.2.2.1⟩
   right;exact ⟨by rw [if_neg a2],fun h=>a2 h.2.1⟩
  right;exact ⟨by rw [if_neg a1],fun h=>a1 h.1⟩)
 exact ⟨r,h1,h2.trans ⟨fun h=>h.1,fun h=>⟨h,trivial⟩⟩⟩
theorem Qsu {c:Qm} {m:We} (hm:mOk m=true) (hs:SOk [c.Keys]):Qgc c m=some (Qht m [c.Keys]):=by
 obtain ⟨T,t1,t2,t3,t4⟩:=Qwy hm hs
 unfold Qgc Qa5 bnd
 rw [t1,Option.bind_some]
 simp only []
 rw [t4]
 rfl
theorem Qs1 {c:Qm} {m:We} (hm:mOk m=true) (hs:SOk [c.Keys]):Za (trO c) (trM m)=some (Qht m [c.Keys]):=by
 obtain ⟨T,t1,t2,t3,t4⟩:=Qrb hm
 have hT:=t2.2
 unfold Za
 rw [t4,Option.bind_some]
 have hov:ovs T [c.Keys]=Qht m [c.Keys]:=by
  rw [Bool.eq_iff_iff,Was t2 hs,Qtr]
  exact ⟨fun ⟨k,a,b⟩=>⟨k,(t3 k).1 a,b⟩,fun ⟨k,a,b⟩=>⟨k,(t3 k).2 a,b⟩⟩
 rw [<- hov]
 obtain ⟨r,h1,h2⟩:=Qbi (step:=Za.step (trO c) (T.map toR)) (n:=T.length) (fun i (_:Unit)=>Za.S.l1 (i:Int)) (fun i _=>∀ t∈T.take i,ov t c.Keys=false) (fun r=>r=ovs T [c.Keys])
  (fun _ h=>by
   rw [Qa3 (Nat.le_refl _)] at h
   refine ⟨false,by simp [Za.step,Za.l1], ?_⟩
   symm
   unfold ovs
   rw [Bool.eq_false_iff,ne_eq,List.any_eq_true]
   rintro ⟨t,ht,h3⟩
   have h4:=h t ht
   rw [show ([c.Keys].any (ov t))=ov t c.Keys by simp,h4] at h3
   cases h3)
  (fun i _ hi h=>by
   have Xu:(0:Int)<=(i:Int)/\(i:Int) < (T.length:Int):=by omega
   simp only [Za.step,Za.l1,Za.j1,List.length_map,Xu.2,if_true,Xu,and_self,show (i:Int).toNat=i from rfl,Whl T hi,wr1 hi (by omega:T.length<=9223372036854775807)]
   rw [show (trO c).Keys.Hi=c.Keys.Hi from rfl,show (trO c).Keys.Lo=c.Keys.Lo from rfl,show (toR (T.getD i Qb.z)).Lo=(T.getD i Qb.z).Lo from rfl,show (toR (T.getD i Qb.z)).Hi=(T.getD i Qb.z).Hi from rfl]
   have hx:=take_at (l:=T) (z:=Qb.z) hi
   have hin:=Qbo (z:=Qb.z) hi
   generalize T.getD i Qb.z=t at hx hin ⊢
   have Qiq:ov t c.Keys=false->∀ x∈T.take (i+1),ov x c.Keys=false:=fun h0 x hx2=>by
    rw [hx] at hx2
    rcases List.mem_append.1 hx2 with h3 | h3
    ·exact h x h3
    simp only [List.mem_singleton] at h3
    subst h3
    exact h0
   by_cases a1:t.Lo < c.Keys.Hi
   ·rw [if_pos a1]
    by_cases a2:c.Keys.Lo < t.Hi
    ·right
     refine ⟨true,by rw [decide_eq_true a2];rfl, ?_⟩
     symm
     unfold ovs
     rw [List.any_eq_true]
     exact ⟨t,hin,by simp [ov,a1,a2]⟩
    left
    exact ⟨(),by rw [decide_eq_false a2];rfl,Qiq (by simp [ov,a2])⟩
   left
   exact ⟨(),by rw [if_neg a1];rfl,Qiq (by simp [ov,a1])⟩) 0 () (Nat.zero_le _) (by simp)
 rw [show ((0:Nat):Int)=0 from rfl] at h1
 rw [h1,h2]
def Qs5 (c:Qm) (i:Nat):Prop:=mOk (c.Log.getD i Qc.z).M=true/\Qht (c.Log.getD i Qc.z).M [c.Keys]=true/\(0<=(c.Log.getD i Qc.z).Time/\(c.Log.getD i Qc.z).Time<=c.Clock) /\
 (0 < i->ltS (stE (c.Log.getD (i - 1) Qc.z)) (stE (c.Log.getD i Qc.z))) /\
 ∃ j,j < c.Qs.length/\isW (c.Log.getD i Qc.z).M.Client (c.Log.getD i Qc.z).M.Seq (c.Qs.getD j Qo.z)/\(c.Qs.getD j Qo.z).Time=(c.Log.getD i Qc.z).Time/\(c.Qs.getD j Qo.z).Zw=(c.Log.getD i Qc.z).Zw
def Qs6 (c:Qm):Prop:=(∀ i,i < c.Log.length->Qs5 c i)/\c.Log.length<=c.Qs.length
theorem Qs6.sorted {c:Qm} (h:Qs6 c):∀ i j,i < j->j < c.Log.length->ltS (stE (c.Log.getD i Qc.z)) (stE (c.Log.getD j Qc.z)):=by
 intro i j hij hj
 have key:∀ d,∀ i,i+d+1 < c.Log.length->ltS (stE (c.Log.getD i Qc.z)) (stE (c.Log.getD (i+d+1) Qc.z)):=by
  intro d
  induction d with
  | zero=>intro i hi;exact (h.1 (i+1) hi).2.2.2.1 (by omega)
  | succ d ih=>
   intro i hi
   have h1:=ih i (by omega)
   have h2:=(h.1 (i+(d+1)+1) hi).2.2.2.1 (by omega)
   rw [show i+(d+1)+1 - 1=i+d+1 by omega] at h2
   exact Qq4 h1 h2
 have:=key (j - i - 1) i (by omega)
 rwa [show i+(j - i - 1)+1=j by omega] at this
theorem Wkp {c:Qm} (hf:Qik c) (hs:SOk [c.Keys]) (hk:KnS c.Qs):∃ r,Xk c=some r/\(r=true↔Qs6 c):=by
 have hkn:=hf.known
 have hlg:=hf.log
 unfold Xk
 exact Qim (step:=Xk.step c) (n:=c.Log.length) (fun i=>.l1 (i:Int)) (Qs5 c) (E:=c.Log.length<=c.Qs.length) ⟨decide ((c.Log.length:Int)<=(c.Qs.length:Int)),by rw [Zc];simp [Xk.step,Xk.l1,stk],by simp⟩ (fun i hi=>by
  have Xu:(0:Int)<=(i:Int)/\(i:Int) < (c.Log.length:Int):=by omega
  have hp:=hf.lp _ (Qbo (z:=Qc.z) hi)
  simp only [Xk.step,Xk.l1,Xu.2,if_true,Xu,and_self,show (i:Int).toNat=i from rfl]
  rw [Qgg _ (by omega),Option.bind_some]
  by_cases a1:mOk (c.Log.getD i Qc.z).M=true
  ·rw [if_pos a1,Qsu a1 hs,Option.bind_some]
   by_cases a2:Qht (c.Log.getD i Qc.z).M [c.Keys]=true
   ·rw [if_pos a2]
    by_cases a3:0<=(c.Log.getD i Qc.z).Time/\(c.Log.getD i Qc.z).Time<=c.Clock
    ·rw [(Qk7 _ _ _).2 a3]
     simp only [Xk.j1,Bool.not_true,Bool.false_eq_true,if_false]
     obtain ⟨q,b,f1,f2,f3⟩:=Qwg (c:=c) (c.Log.getD i Qc.z).M.Client (c.Log.getD i Qc.z).M.Seq (by omega) hk
     have j2:∀ y,(y=true↔0 < i/\¬ ltS (stE (c.Log.getD (i - 1) Qc.z)) (stE (c.Log.getD i Qc.z)))->(Xk.j2 c (i:Int) y=some (.inl (.l1 ((i+1:Nat):Int)))/\Qs5 c i)\/(Xk.j2 c (i:Int) y=some (.inr false)/\¬ Qs5 c i):=by
      intro y hy
      unfold Xk.j2 Xk.j3
      cases y with
      | true=>
       right
       obtain ⟨p1,p2⟩:=hy.1 rfl
       exact ⟨by rw [if_pos rfl],fun h=>p2 (h.2.2.2.1 p1)⟩
      | false=>
       have hord:0 < i->ltS (stE (c.Log.getD (i - 1) Qc.z)) (stE (c.Log.getD i Qc.z)):=fun h=>by
        by_cases h5:ltS (stE (c.Log.getD (i - 1) Qc.z)) (stE (c.Log.getD i Qc.z))
        ·exact h5
        exact absurd (hy.2 ⟨h,h5⟩) (by simp)
       simp only [Bool.false_eq_true,if_false,show (i:Int).toNat=i from rfl,wr1 hi (by omega:c.Log.length<=9223372036854775807)]
       rw [f1,Option.bind_some]
       cases b with
       | false=>
        right
        refine ⟨by simp,fun h=>?_⟩
        obtain ⟨j,j1,j2,_⟩:=h.2.2.2.2
        exact f3 rfl j j1 j2
       | true=>
        obtain ⟨g1,g2⟩:=f2 rfl
        simp only [if_true,show (q:Int).toNat=q from rfl]
        rw [if_pos (by omega)]
        have Qui:∀ j,j < c.Qs.length->isW (c.Log.getD i Qc.z).M.Client (c.Log.getD i Qc.z).M.Seq (c.Qs.getD j Qo.z)->j=q:=fun j j1 j2=>hk.uniq j1 g1 j2 g2
        by_cases a5:(c.Qs.getD q Qo.z).Time=(c.Log.getD i Qc.z).Time
        ·rw [if_pos a5]
         by_cases a6:(c.Qs.getD q Qo.z).Zw=(c.Log.getD i Qc.z).Zw
         ·left
          exact ⟨by rw [a6];simp,a1,a2,a3,hord,q,g1,g2,a5,a6⟩
         right
         refine ⟨by rw [if_pos];rw [Bool.not_eq_true',beq_eq_false_iff_ne];exact a6,fun h=>?_⟩
         obtain ⟨j,j1,j2,j3,j4⟩:=h.2.2.2.2
         rw [Qui j j1 j2] at j4
         exact a6 j4
        right
        refine ⟨by rw [if_neg a5],fun h=>?_⟩
        obtain ⟨j,j1,j2,j3,j4⟩:=h.2.2.2.2
        rw [Qui j j1 j2] at j3
        exact a5 j3
     by_cases a4:(i:Int) > 0
     ·rw [if_pos a4,Qvq (by omega) (by omega),if_pos (by omega),show ((i - 1:Nat):Int).toNat=i - 1 from rfl,show (i:Int).toNat=i from rfl]
      rw [show Qbr (c.Log.getD (i - 1) Qc.z).Time (c.Log.getD (i - 1) Qc.z).M=stE (c.Log.getD (i - 1) Qc.z) from rfl,show Qbr (c.Log.getD i Qc.z).Time (c.Log.getD i Qc.z).M=stE (c.Log.getD i Qc.z) from rfl,Qjt,Option.bind_some]
      refine j2 _ ?_
      rw [decide_eq_true_iff,<- Qoq]
      exact ⟨fun h=>⟨by omega,by omega⟩,fun h=>by omega⟩
     rw [if_neg a4]
     refine j2 false ?_
     simp only [Bool.false_eq_true,false_iff]
     omega
    right
    refine ⟨?_,fun h=>a3 h.2.2.1⟩
    rw [show Qbj (c.Log.getD i Qc.z).Time 0 c.Clock=false by rw [Bool.eq_false_iff,ne_eq,Qk7];exact a3]
    rfl
   right;exact ⟨by rw [if_neg a2];rfl,fun h=>a2 h.2.1⟩
  right;exact ⟨by rw [if_neg a1];rfl,fun h=>a1 h.1⟩)
theorem Wjd {c:Qm} (hf:Qik c) (hs:SOk [c.Keys]) (hk:KnS c.Qs):∃ r,Qp (trO c)=some r/\(r=true↔Qs6 c):=by
 have hkn:=hf.known
 have hlg:=hf.log
 unfold Qp
 exact Qim (step:=Qp.step (trO c)) (n:=c.Log.length) (fun i=>.l1 (i:Int)) (Qs5 c) (E:=c.Log.length<=c.Qs.length) ⟨decide ((c.Log.length:Int)<=(c.Qs.length:Int)),by rw [Zc];simp [Qp.step,Qp.l1,stk,trO],by simp⟩ (fun i hi=>by
  have Xu:(0:Int)<=(i:Int)/\(i:Int) < (c.Log.length:Int):=by omega
  have hp:=hf.lp _ (Qbo (z:=Qc.z) hi)
  simp only [Qp.step,Qp.l1,show (trO c).Log=c.Log.map trE from rfl,List.length_map,Xu.2,if_true,Xu,and_self,show (i:Int).toNat=i from rfl,Qke c.Log hi]
  rw [show (trE (c.Log.getD i Qc.z)).M=trM (c.Log.getD i Qc.z).M from rfl,Qne _ (by omega),Option.bind_some]
  by_cases a1:mOk (c.Log.getD i Qc.z).M=true
  ·rw [if_pos a1,Qs1 a1 hs,Option.bind_some]
   by_cases a2:Qht (c.Log.getD i Qc.z).M [c.Keys]=true
   ·rw [if_pos a2]
    simp only [bnd]
    rw [show (trE (c.Log.getD i Qc.z)).Time=(c.Log.getD i Qc.z).Time from rfl,show (trO c).Clock=c.Clock from rfl]
    by_cases a3:0<=(c.Log.getD i Qc.z).Time/\(c.Log.getD i Qc.z).Time<=c.Clock
    ·rw [(Qfi _ _ _).2 a3]
     simp only [Qp.j1,Bool.not_true,Bool.false_eq_true,if_false,show (trO c).Log=c.Log.map trE from rfl,show (i:Int).toNat=i from rfl,Qke c.Log hi]
     rw [show (trE (c.Log.getD i Qc.z)).M.Client=(c.Log.getD i Qc.z).M.Client from rfl,show (trE (c.Log.getD i Qc.z)).M.Seq=(c.Log.getD i Qc.z).M.Seq from rfl]
     obtain ⟨v,f1,f2⟩:=Qws (c:=c) (c.Log.getD i Qc.z).M.Client (c.Log.getD i Qc.z).M.Seq (by omega)
     rw [f1,Option.bind_some]
     have j2:∀ y P,(y=true↔¬ P)->(P↔∃ j,j < c.Qs.length/\isW (c.Log.getD i Qc.z).M.Client (c.Log.getD i Qc.z).M.Seq (c.Qs.getD j Qo.z)/\(c.Qs.getD j Qo.z).Time=(c.Log.getD i Qc.z).Time/\(c.Qs.getD j Qo.z).Zw=(c.Log.getD i Qc.z).Zw) ->
       (Qp.j2 (trO c) (i:Int) y=some (.inl (.l1 ((i+1:Nat):Int)))/\Qs5 c i)\/(Qp.j2 (trO c) (i:Int) y=some (.inr false)/\¬ Qs5 c i):=by
      intro y P hy hP
      unfold Qp.j2 Qp.j3
      cases y with
      | true=>
       right
       exact ⟨by rw [if_pos rfl],fun h=>(hy.1 rfl) (hP.2 h.2.2.2.2)⟩
      | false=>
       have hex:=hP.1 (Classical.byContradiction fun h=>absurd (hy.2 h) (by simp))
       simp only [Bool.false_eq_true,if_false,show (trO c).Log=c.Log.map trE from rfl,List.length_map,wr1 hi (by omega:c.Log.length<=9223372036854775807)]
       by_cases a4:(i:Int) > 0
       ·rw [if_pos a4,Qvq (by omega) (by omega),if_pos (by omega),show ((i - 1:Nat):Int).toNat=i - 1 from rfl,show (i:Int).toNat=i from rfl,Qke c.Log hi,Qke c.Log (by omega:i - 1 < c.Log.length)]
        rw [show Jh (trE (c.Log.getD (i - 1) Qc.z)).M (trE (c.Log.getD (i - 1) Qc.z)).Time=⟨(stE (c.Log.getD (i - 1) Qc.z)).Time,(stE (c.Log.getD (i - 1) Qc.z)).Client,(stE (c.Log.getD (i - 1) Qc.z)).Seq⟩ from rfl,
         show Jh (trE (c.Log.getD i Qc.z)).M (trE (c.Log.getD i Qc.z)).Time=⟨(stE (c.Log.getD i Qc.z)).Time,(stE (c.Log.getD i Qc.z)).Client,(stE (c.Log.getD i Qc.z)).Seq⟩ from rfl]
        by_cases a5:ltS (stE (c.Log.getD (i - 1) Qc.z)) (stE (c.Log.getD i Qc.z))
        ·left
         exact ⟨by rw [Qs2 a5];rfl,a1,a2,a3,fun _=>a5,hex⟩
        right
        exact ⟨by rw [Qqd a5];rfl,fun h=>a5 (h.2.2.2.1 (by omega))⟩
       left
       exact ⟨by rw [if_neg a4],a1,a2,a3,fun h=>by omega,hex⟩
     rcases f2 with ⟨rfl,f3⟩ | ⟨q,rfl,g1,g2⟩
     ·rw [if_pos (by decide)]
      refine j2 true False (by simp) ⟨fun h=>h.elim, ?_⟩
      rintro ⟨j,j1,j2,_⟩
      exact f3 j j1 j2
     have Qui:∀ j,j < c.Qs.length->isW (c.Log.getD i Qc.z).M.Client (c.Log.getD i Qc.z).M.Seq (c.Qs.getD j Qo.z)->j=q:=fun j j1 j2=>hk.uniq j1 g1 j2 g2
     rw [if_neg (by omega),show (trO c).Qs=c.Qs.map trN from rfl,List.length_map,if_pos (by omega),show (q:Int).toNat=q from rfl,Qlc c.Qs g1]
     rw [show (trN (c.Qs.getD q Qo.z)).Time=(c.Qs.getD q Qo.z).Time from rfl,show (trN (c.Qs.getD q Qo.z)).Zw=(c.Qs.getD q Qo.z).Zw from rfl,show (trE (c.Log.getD i Qc.z)).Time=(c.Log.getD i Qc.z).Time from rfl,show (trE (c.Log.getD i Qc.z)).Zw=(c.Log.getD i Qc.z).Zw from rfl]
     by_cases a5:(c.Qs.getD q Qo.z).Time=(c.Log.getD i Qc.z).Time
     ·rw [if_pos a5]
      refine j2 _ ((c.Qs.getD q Qo.z).Zw=(c.Log.getD i Qc.z).Zw) ?_ ⟨fun h=>⟨q,g1,g2,a5,h⟩, ?_⟩
      ·rw [Bool.not_eq_true',beq_eq_false_iff_ne]
      rintro ⟨j,j1,j2,_,j4⟩
      rw [Qui j j1 j2] at j4
      exact j4
     rw [if_neg a5]
     refine j2 true False (by simp) ⟨fun h=>h.elim, ?_⟩
     rintro ⟨j,j1,j2,j3,_⟩
     rw [Qui j j1 j2] at j3
     exact a5 j3
    right
    refine ⟨?_,fun h=>a3 h.2.2.1⟩
    rw [show Zf (c.Log.getD i Qc.z).Time 0 c.Clock=false by rw [Bool.eq_false_iff,ne_eq,Qfi];exact a3]
    rfl
   right;exact ⟨by rw [if_neg a2];rfl,fun h=>a2 h.2.1⟩
  right;exact ⟨by rw [if_neg a1];rfl,fun h=>a1 h.1⟩)
end Go.SyP
