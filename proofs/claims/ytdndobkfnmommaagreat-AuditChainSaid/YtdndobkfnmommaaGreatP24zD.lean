/- Tables: leaving out; which mutations may be. -/
import Derived.Test.YtdndobkfnmommaaGreatP24zC
set_option linter.unusedVariables false
set_option linter.unusedSimpArgs false
namespace Go.SyP
open Go Go.Sy Sets
def hasB (on:List Qb) (k:Int):Bool:=(on.map pa).any fun x=>decide (Ok x) && decide (x.1<=k) && decide (k < x.2)
def SOk (on:List Qb):Prop:=Canon (on.map pa)/\on.length<=64
theorem has_eq (on:List Qb) (hn:on.length<=5000) (k:Int):Qge on k=some (hasB on k):=Qx7 on (by omega) k
theorem Whi (on:List Qb) (hn:on.length<=5000) (k:Int):Xv (on.map toR) k=some (hasB on k):=by
 rw [Wax _ (by simp;omega),Wd1]
 rfl
theorem Qzg (on:List Qb) (hn:on.length<=5000):∃ r,Yw on=some r/\(r=true↔SOk on):=Qom on (by omega)
theorem Qzh (on:List Qb) (hn:on.length<=5000):∃ r,Yd (on.map toR)=some r/\(r=true↔SOk on):=by
 have h:=Qji (on.map toR) (by simp;omega)
 rw [Wd1,List.length_map] at h
 exact h
theorem Wjr {on:List Qb} (h:SOk on) {k:Int}:hasB on k=true↔mem (on.map pa) k:=by
 unfold hasB mem
 simp only [List.any_eq_true,Bool.and_eq_true,decide_eq_true_eq]
 constructor
 ·rintro ⟨x,h1,⟨h2,h3⟩,h4⟩
  exact ⟨x,h1,h3,h4⟩
 rintro ⟨x,h1,h3,h4⟩
 exact ⟨x,h1,⟨h.1.ok x h1,h3⟩,h4⟩
theorem Wc9 (a:List Qa) (hn:a.length<=9223372036854775807) (q:Qa->Bool):∃ r,Za a (fun z=>some (q z))=some r /\
  ((r=-1/\∀ x∈a,q x=false)\/∃ i:Nat,r=i/\i < a.length/\q (a.getD i Qa.z)=true/\∀ x∈a.take i,q x=false):=by
 unfold Za
 refine Qbi (n:=a.length) (fun i (_:Unit)=>Za.S.l1 (i:Int)) (fun i _=>∀ x∈a.take i,q x=false) _ ?_ ?_ 0 () (Nat.zero_le _) (by simp)
 ·intro _ h
  rw [Qbp (Nat.le_refl _)] at h
  exact ⟨-1,by simp [Za.step,Za.l1],.inl ⟨rfl,h⟩⟩
 intro i _ hi h
 have Ye:(0:Int)<=(i:Int)/\(i:Int) < (a.length:Int):=by omega
 simp only [Za.step,Za.l1,Ye.2,if_true,Ye,and_self,Option.bind_some,wr1 hi hn]
 have hx:=Qch (l:=a) (z:=Qa.z) hi
 have hg:a.getD (i:Int).toNat Qa.z=a.getD i Qa.z:=rfl
 rw [hg] at hx ⊢
 cases hq:q (a.getD i Qa.z) with
 | true=>
  right
  exact ⟨i,by simp,.inr ⟨i,rfl,hi,hq,h⟩⟩
 | false=>
  left
  refine ⟨(),by simp,fun x hxm=>?_⟩
  rw [hx] at hxm
  rcases List.mem_append.1 hxm with hm | hm
  ·exact h x hm
  simp at hm;rw [hm,<- hq];simp [List.getD_eq_getElem?_getD]
theorem Wbt (a:List Qa) (hn:a.length<=9223372036854775807) (q:Qa->Bool):Qcm a (fun z=>some (q z))=some (a.any q):=by
 unfold Qcm
 obtain ⟨r,h1,h2⟩:=Wc9 a hn q
 rw [h1,Option.bind_some]
 congr 1
 rcases h2 with ⟨rfl,h⟩ | ⟨i,rfl,hi,hq,_⟩
 ·rw [Bool.eq_iff_iff]
  simp only [decide_eq_true_eq,List.any_eq_true]
  constructor
  ·intro h;omega
  rintro ⟨x,hx,hq⟩
  rw [h x hx] at hq
  cases hq
 rw [decide_eq_true (by omega)]
 symm
 rw [List.any_eq_true]
 refine ⟨_, ?_,hq⟩
 simp [List.getD_eq_getElem?_getD,hi]
theorem Wbu (a:List Qa) (hn:a.length<=5000) (q:Qa->Bool):Xy a (fun z=>some (q z))=some (a.filter fun x=>!q x):=by
 unfold Xy
 obtain ⟨r,h1,h2⟩:=Wc9 a (by omega) q
 rw [h1,Option.bind_some]
 rcases h2 with ⟨rfl,h⟩ | ⟨p,rfl,hp,hq,hpre⟩
 ·rw [if_pos rfl,List.filter_eq_self.2 fun x hx=>by rw [h x hx];rfl]
 rw [if_neg (by omega),wr1 hp (by omega)]
 obtain ⟨r,e1,e2⟩:∃ r,Yb (Xy.step fun z=>some (q z)) (.l1 (p:Int) ((p+1:Nat):Int) a)=some r/\r=a.filter fun x=>!q x:=by
  refine Qbi (n:=a.length) (fun j (x:Nat × List Qa)=>Xy.S.l1 (x.1:Int) (j:Int) x.2)
   (fun j x=>x.1<=j/\x.2.length=a.length/\x.2.take x.1=(a.take j).filter (fun x=>!q x)/\x.2.drop j=a.drop j) _ ?_ ?_ (p+1) (p,a) (by omega) ?_
  ·rintro ⟨i,row⟩ ⟨hi,hl,ht,hd⟩
   simp only at hi hl ht hd ⊢
   rw [Qbp (Nat.le_refl _)] at ht
   refine ⟨row.take i, ?_,ht⟩
   simp only [Xy.step,Xy.l1,hl,Int.lt_irrefl,if_false]
   rw [if_pos (by omega)]
   rfl
  ·rintro j ⟨i,row⟩ hj ⟨hi,hl,ht,hd⟩
   simp only at hi hl ht hd ⊢
   have Ye:(0:Int)<=(j:Int)/\(j:Int) < (row.length:Int):=by omega
   have hx:=Qch (l:=a) (z:=Qa.z) hj
   have d1:=Qhf (l:=a) (z:=Qa.z) hj
   have d2:=Qhf (l:=row) (z:=Qa.z) (i:=j) (by omega)
   rw [hd,d1] at d2
   injection d2 with d3 d4
   simp only [Xy.step,Xy.l1,Ye.2,if_true,Ye,and_self,Option.bind_some,<- d3]
   generalize a.getD (j:Int).toNat Qa.z=X at hx ⊢
   left
   cases hqX:q X with
   | true=>
    refine ⟨(i,row),by simp [Xy.j1,wr1 hj (by omega:a.length<=9223372036854775807)],by simp only;omega,hl, ?_,d4.symm⟩
    rw [hx,List.filter_append,List.filter_cons,if_neg (by simp [hqX]),ht]
    simp
   | false=>
    have hi2:i < row.length:=by omega
    refine ⟨(i+1,row.set i X), ?_,by simp only;omega,by simp [hl], ?_, ?_⟩
    ·rw [if_neg (by decide),if_pos (by omega)]
     simp only [Xy.j1,wr1 hj (by omega:a.length<=9223372036854775807),wr1 hi2 (by omega:row.length<=9223372036854775807)]
     rfl
    ·simp only
     rw [hx,List.filter_append,List.filter_cons,if_pos (by simp [hqX]),<- ht,take_at (z:=Qa.z) (by simpa using hi2),List.take_set_of_le (Nat.le_refl _)]
     simp [List.getD_eq_getElem?_getD,hi2]
    simp only
    rw [List.drop_set_of_lt (by omega),d4]
  refine ⟨by simp only;omega,rfl, ?_,rfl⟩
  simp only
  rw [take_at (z:=Qa.z) hp,List.filter_append,List.filter_cons,if_neg (by rw [hq];decide),List.filter_eq_self.2 fun x hx=>by rw [hpre x hx];rfl]
  simp
 rw [e1,e2]
theorem Wif (a:List Qa) (hn:a.length<=5000) (s:Qb) (on:List Qb) (ho:on.length<=5000):
  Qi6 a s on=some (a.filter fun x=>!((decide (s.Lo<=x.Key) && decide (x.Key < s.Hi)) && hasB on x.Key)):=by
 unfold Qi6
 have:(fun z0=>Qdn z0 s on)=fun z:Qa=>some ((decide (s.Lo<=z.Key) && decide (z.Key < s.Hi)) && hasB on z.Key):=by
  funext z
  unfold Qdn Qdn.j1
  rw [has_eq on ho]
  by_cases h1:z.Key>=s.Lo<;>by_cases h2:z.Key < s.Hi<;>simp [h1,h2]
 rw [this,Wbu a hn]
 rfl
def prs (l:List Qa):Bool:=l.all fun x=>decide (okP x)
theorem Qys {l:List Qa}:prs l=true↔∀ x∈l,okP x:=by simp [prs]
def Qet (l:List Qa) (lo hi:Int):Bool:=(decide (lo<=(l.length:Int)) && decide ((l.length:Int)<=hi)) && prs l
def Qj5 (v:Int):Bool:=decide (-1099511627776<=v) && decide (v<=1099511627776)
theorem Qpf (v:Int):Qct v=Qj5 v:=by
 unfold Qct Qct.j1 Qj5
 by_cases h:v>=-1099511627776
 ·rw [if_pos h,decide_eq_true (show (-1099511627776:Int)<=v by omega)];rfl
 rw [if_neg h,decide_eq_false (show ¬ (-1099511627776:Int)<=v by omega)];rfl
theorem Qpj (v:Int):Qaj v=Qj5 v:=by
 unfold Qaj Qaj.j1 Qj5
 by_cases h:v>=-1099511627776
 ·rw [if_pos h,decide_eq_true (show (-1099511627776:Int)<=v by omega)];rfl
 rw [if_neg h,decide_eq_false (show ¬ (-1099511627776:Int)<=v by omega)];rfl
theorem Qx2 (x:Qa):Qd9 x=decide (okP x):=by
 unfold Qd9 Qd9.j1
 rw [Qpf]
 unfold Qj5 okP
 by_cases h1:x.Key>=0<;>by_cases h2:x.Key < 4096<;>simp [h1,h2]
theorem Qw2 (m:Ql) (lo hi:Int) (hn:m.Pairs.length<=5000):Qcj m lo hi=some (Qet m.Pairs lo hi):=by
 unfold Qcj Qcj.j1 Qet
 rw [Wbt _ (by omega)]
 have e:(!m.Pairs.any fun z0=>Qf2 z0)=prs m.Pairs:=by
  unfold prs Qf2
  rw [List.not_any_eq_all_not]
  congr 1
  funext x
  rw [Qx2]
  simp
 rw [Option.bind_some,e]
 by_cases h1:(m.Pairs.length:Int)>=lo
 ·by_cases h2:(m.Pairs.length:Int)<=hi
  ·rw [if_pos h1,if_pos h2,decide_eq_true (show lo<=(m.Pairs.length:Int) from h1),decide_eq_true h2];simp
  rw [if_pos h1,if_neg h2,decide_eq_false h2];simp
 rw [if_neg h1,decide_eq_false (show ¬ lo<=(m.Pairs.length:Int) from h1)];simp
instance (l:List Qa):Decidable (Up l):=by unfold Up;exact inferInstance
theorem Qtr {l:List Qa} {x:Qa}:Up (l ++ [x])↔Up l/\∀ y∈l,y.Key < x.Key:=by
 unfold Up
 rw [List.pairwise_append]
 simp
theorem Wh1 {l:List Qa} {x:Qa} (h:Up (l ++ [x])):∀ y∈l ++ [x],y.Key<=x.Key:=by
 intro y hy
 rcases List.mem_append.1 hy with hy | hy
 ·exact Int.le_of_lt ((Qtr.1 h).2 y hy)
 simp at hy;subst hy;exact Int.le_refl _
theorem Qts {l m:List Qa} (h:Up (l ++ m)):Up l:=(List.pairwise_append.1 h).1
theorem Qy2 {l:List Qa} {i:Nat} (h0:0 < i) (hi:i < l.length) (h:Up (l.take i)):Up (l.take (i+1))↔(l.getD (i - 1) Qa.z).Key < (l.getD i Qa.z).Key:=by
 have hx:=take_at (l:=l) (z:=Qa.z) hi
 have hp:=take_at (l:=l) (z:=Qa.z) (i:=i - 1) (by omega)
 rw [show i - 1+1=i by omega] at hp
 rw [hx,Qtr]
 constructor
 ·rintro ⟨_,h2⟩
  exact h2 _ (by rw [hp];simp)
 intro h2
 refine ⟨h,fun y hy=>?_⟩
 rw [hp] at h hy
 have:=Wh1 h y hy
 omega
theorem Wd7 (l:List Qa) (hn:l.length<=5000):Qb3 l=some (decide (Up l)):=by
 unfold Qb3
 rcases Nat.eq_zero_or_pos l.length with h0 | h0
 ·rw [List.length_eq_zero_iff] at h0
  subst h0
  rw [Qau]
  rfl
 obtain ⟨r,e1,e2⟩:∃ r,Yb (Qb3.step l) (.l1 ((1:Nat):Int))=some r/\r=decide (Up l):=by
  refine Qbi (n:=l.length) (fun i (_:Unit)=>Qb3.S.l1 (i:Int)) (fun i _=>0 < i/\Up (l.take i)) _ ?_ ?_ 1 () (by omega) ⟨by omega,by
   rw [take_at (z:=Qa.z) h0]
   simp [Up]⟩
  ·rintro _ ⟨_,h⟩
   rw [Qbp (Nat.le_refl _)] at h
   exact ⟨true,by simp [Qb3.step,Qb3.l1],by simp [h]⟩
  rintro i _ hi ⟨hp,h⟩
  have hw:IntKind.wrap .i64 ((i:Int) - 1)=((i - 1:Nat):Int):=by rw [wr (by omega)];omega
  simp only [Qb3.step,Qb3.l1,hw]
  rw [if_pos (by omega),if_pos (by omega),if_pos (by omega),wr1 hi (by omega:l.length<=9223372036854775807)]
  have hm:=Qy2 hp hi h
  rw [show ((i - 1:Nat):Int).toNat=i - 1 from rfl,show ((i:Nat):Int).toNat=i from rfl]
  by_cases hc:(l.getD (i - 1) Qa.z).Key>=(l.getD i Qa.z).Key
  ·right
   refine ⟨false,by rw [if_pos hc], ?_⟩
   symm
   rw [decide_eq_false_iff_not]
   intro hu
   rw [<- List.take_append_drop (i+1) l] at hu
   have:=hm.1 (Qts hu)
   omega
  left
  exact ⟨(),by rw [if_neg hc],by omega,hm.2 (by omega)⟩
 rw [show ((1:Nat):Int)=1 from rfl] at e1
 rw [e1,e2]
def Qn1 (m:Ql):Bool:=
 if m.Kind=2 then (decide (m.Pairs.length=0) && decide (m.Old=0)) && decide (Ok (pa m.Over))
 else (decide (m.Over.Lo=0) && decide (m.Over.Hi=0)) &&
  (if m.Kind=4 then Qet m.Pairs 1 1 && (Qj5 m.Old || decide (m.Old=1099511627777))
  else decide (m.Old=0) &&
   (if m.Kind=1 then Qet m.Pairs 1 8 && decide (Up m.Pairs)
   else if m.Kind=3 then Qet m.Pairs 1 1
   else if m.Kind=5 then Qet m.Pairs 2 2 && (decide ((m.Pairs.getD 0 Qa.z).Key≠(m.Pairs.getD 1 Qa.z).Key) && (decide ((m.Pairs.getD 0 Qa.z).Val=(m.Pairs.getD 1 Qa.z).Val) && decide ((m.Pairs.getD 0 Qa.z).Val>=0)))
   else false))
def mOk (m:Ql):Bool:=(decide (1<=m.Client/\m.Client<=1048576) && decide (1<=m.Seq/\m.Seq<=1073741824)) && Qn1 m
theorem Qry {l:List Qa} {lo hi:Int} (h:Qet l lo hi=true):lo<=(l.length:Int)/\(l.length:Int)<=hi:=by
 unfold Qet at h
 simp only [Bool.and_eq_true,decide_eq_true_eq] at h
 exact h.1
theorem Whj (m:Ql) (hn:m.Pairs.length<=5000) (b:Bool):Yz.j1 m b=some (!b &&
  (if m.Kind=1 then Qet m.Pairs 1 8 && decide (Up m.Pairs)
  else if m.Kind=2 then decide (m.Pairs.length=0) && decide (Ok (pa m.Over))
  else if m.Kind=3 then Qet m.Pairs 1 1
  else if m.Kind=4 then Qet m.Pairs 1 1 && (Qj5 m.Old || decide (m.Old=1099511627777))
  else if m.Kind=5 then Qet m.Pairs 2 2 && (decide ((m.Pairs.getD 0 Qa.z).Key≠(m.Pairs.getD 1 Qa.z).Key) && (decide ((m.Pairs.getD 0 Qa.z).Val=(m.Pairs.getD 1 Qa.z).Val) && decide ((m.Pairs.getD 0 Qa.z).Val>=0)))
  else false)):=by
 unfold Yz.j1
 cases b with
 | true=>simp
 | false=>
  rw [if_neg (by decide)]
  have e1:∀ lo hi,Qcj (⟨m.Client,m.Seq,m.Kind,m.Pairs,(⟨m.Over.Lo,m.Over.Hi⟩:Qb),m.Old⟩:Ql) lo hi=some (Qet m.Pairs lo hi):=fun lo hi=>Qw2 m lo hi hn
  simp only [e1,Option.bind_some,Wd7 _ hn,Qkd,Qpf,Yz.j2,Yz.j3,Yz.j4,Yz.j5,Bool.not_false,Bool.true_and]
  by_cases k1:m.Kind=1
  ·rw [if_pos k1,if_pos k1]
   cases Qet m.Pairs 1 8<;>simp
  by_cases k2:m.Kind=2
  ·rw [if_neg k1,if_pos k2,if_neg k1,if_pos k2]
   by_cases h:m.Pairs.length=0
   ·rw [if_pos (by omega),decide_eq_true h];simp
   rw [if_neg (by omega),decide_eq_false h];simp
  by_cases k3:m.Kind=3
  ·simp [k3]
  by_cases k4:m.Kind=4
  ·simp only [k4,if_neg (show ¬ (4:Int)=1 by decide),if_neg (show ¬ (4:Int)=2 by decide),if_neg (show ¬ (4:Int)=3 by decide),if_true]
   cases Qet m.Pairs 1 1<;>cases Qj5 m.Old<;>first | rfl | simp
  by_cases k5:m.Kind=5
  ·simp only [k5,if_neg (show ¬ (5:Int)=1 by decide),if_neg (show ¬ (5:Int)=2 by decide),if_neg (show ¬ (5:Int)=3 by decide),if_neg (show ¬ (5:Int)=4 by decide),if_true]
   cases hp:Qet m.Pairs 2 2 with
   | false=>simp
   | true=>
    have:=Qry hp
    rw [if_pos rfl,if_pos (by omega),if_pos (by omega)]
    generalize m.Pairs.getD 0 Qa.z=P0
    generalize m.Pairs.getD 1 Qa.z=P1
    by_cases h1:P0.Key=P1.Key
    ·rw [if_pos h1];simp [h1]
    rw [if_neg h1]
    by_cases h2:P0.Val=P1.Val
    ·rw [if_pos h2];simp [h1,h2]
    rw [if_neg h2];simp [h2]
  simp only [if_neg k1,if_neg k2,if_neg k3,if_neg k4,if_neg k5]
theorem Qx1 (m:Ql) (hn:m.Pairs.length<=5000):Yz m=some (Qn1 m):=by
 unfold Yz Qn1
 simp only [Whj m hn]
 by_cases k2:m.Kind=2
 ·have k4:¬ m.Kind=4:=by omega
  have k1:¬ m.Kind=1:=by omega
  simp only [if_pos k2,if_neg k4,if_neg k1]
  by_cases h:m.Old=0<;>simp [h]
 simp only [if_neg k2]
 by_cases h1:m.Over.Lo=0
 ·by_cases h2:m.Over.Hi=0
  ·by_cases k4:m.Kind=4
   ·have k1:¬ m.Kind=1:=by omega
    have k3:¬ m.Kind=3:=by omega
    simp [h1,h2,if_pos k4,if_neg k1,if_neg k3]
   simp only [if_neg k4,if_pos h1,if_pos h2]
   by_cases h:m.Old=0<;>simp [h1,h2,h]
  simp [h1,h2]
 by_cases h2:m.Over.Hi=0
 ·simp [h1,h2]
 simp [h1,h2]
theorem Qfj (m:Ql) (hn:m.Pairs.length<=5000):Qbg m=some (mOk m):=by
 unfold Qbg Qbg.j1 mOk
 have e1:Yz (⟨m.Client,m.Seq,m.Kind,m.Pairs,(⟨m.Over.Lo,m.Over.Hi⟩:Qb),m.Old⟩:Ql)=some (Qn1 m):=Qx1 m hn
 simp only [e1,Option.bind_some]
 by_cases h1:m.Client>=1
 ·by_cases h2:m.Client<=1048576
  ·by_cases h3:m.Seq>=1
   ·by_cases h4:m.Seq<=1073741824
    ·rw [if_pos h1,if_pos h2,if_pos h3,if_pos h4,decide_eq_true (show 1<=m.Client/\m.Client<=1048576 from ⟨h1,h2⟩),decide_eq_true (show 1<=m.Seq/\m.Seq<=1073741824 from ⟨h3,h4⟩)]
     simp
    rw [if_pos h1,if_pos h2,if_pos h3,if_neg h4,decide_eq_false (p:=1<=m.Seq/\m.Seq<=1073741824) (by omega)]
    simp
   rw [if_pos h1,if_pos h2,if_neg h3,decide_eq_false (p:=1<=m.Seq/\m.Seq<=1073741824) (by omega)]
   simp
  rw [if_pos h1,if_neg h2,decide_eq_false (p:=1<=m.Client/\m.Client<=1048576) (by omega)]
  simp
 rw [if_neg h1,decide_eq_false (p:=1<=m.Client/\m.Client<=1048576) (by omega)]
 simp
end Go.SyP
namespace Go.SyP
open Go Go.Sy Sets
theorem Wil {σ ρ α:Type} {step:σ->Option (σ ⊕ ρ)} {n:Nat} (st:Nat->α->σ) (I:Nat->α->Prop)
  (Ye:∀ i x,i < n->I i x->∃ y,step (st i x)=some (.inl (st (i+1) y))/\I (i+1) y):∀ i x,i<=n->I i x->∃ y,Yb step (st i x)=Yb step (st n y)/\I n y:=by
 have key:∀ m i x,i+m=n->I i x->∃ y,Yb step (st i x)=Yb step (st n y)/\I n y:=by
  intro m
  induction m with
  | zero=>
   intro i x hi hI
   obtain rfl:i=n:=by omega
   exact ⟨x,rfl,hI⟩
  | succ m ih=>
   intro i x hi hI
   obtain ⟨y,h1,h2⟩:=Ye i x (by omega) hI
   obtain ⟨z,h3,h4⟩:=ih (i+1) y (by omega) h2
   exact ⟨z,by rw [Qau,h1];exact h3,h4⟩
 exact fun i x h=>key (n - i) i x (by omega)
theorem Qlz (l:List Qa) (lo hi:Int) (hn:l.length<=5000):Wu (l.map tr) lo hi=some (Qet l lo hi):=by
 unfold Wu Qet
 have e:Yb (Wu.step (l.map tr)) (.l1 0)=some (prs l):=by
  obtain ⟨r,h1,h2⟩:∃ r,Yb (Wu.step (l.map tr)) (.l1 0)=some r/\(r=true↔∀ x∈l,okP x):=by
   refine Qbi (n:=l.length) (fun i (_:Unit)=>Wu.S.l1 (i:Int)) (fun i _=>∀ x∈l.take i,okP x) _ ?_ ?_ 0 () (Nat.zero_le _) (by simp)
   ·intro _ h
    rw [Qbp (Nat.le_refl _)] at h
    exact ⟨true,by simp [Wu.step,Wu.l1],by simpa using h⟩
   intro i _ hi h
   have Ye:(0:Int)<=(i:Int)/\(i:Int) < (l.length:Int):=by omega
   have hx:=Qch (l:=l) (z:=Qa.z) hi
   have hin:l.getD (i:Int).toNat Qa.z∈l:=by
    show l.getD i Qa.z∈l
    simp [List.getD_eq_getElem?_getD,hi]
   simp only [Wu.step,Wu.l1,Wu.j2,List.length_map,Ye.2,if_true,Ye,and_self,Qim l hi,wr1 hi (by omega:l.length<=9223372036854775807),Qpj]
   generalize l.getD (i:Int).toNat Qa.z=X at hx hin ⊢
   by_cases ho:okP X
   ·obtain ⟨o1,o2,o3,o4⟩:=id ho
    left
    refine ⟨(), ?_, ?_⟩
    ·rw [if_neg (show ¬ (tr X).Key < 0 by show ¬ X.Key < 0;omega),if_neg (show ¬ (tr X).Key > 4095 by show ¬ X.Key > 4095;omega)]
     have:Qj5 (tr X).Val=true:=by
      show (decide (_<=X.Val) && decide (X.Val<=_))=true
      rw [decide_eq_true o3,decide_eq_true o4];rfl
     rw [this]
     rfl
    rw [hx]
    intro x hxm
    rcases List.mem_append.1 hxm with hm | hm
    ·exact h x hm
    simp at hm;subst hm;exact ho
   right
   refine ⟨false, ?_, ?_⟩
   ·by_cases h1:(tr X).Key < 0
    ·rw [if_pos h1]
    by_cases h2:(tr X).Key > 4095
    ·rw [if_neg h1,if_pos h2]
    have:Qj5 (tr X).Val=false:=by
     cases hv:Qj5 (tr X).Val with
     | false=>rfl
     | true=>
      have hv:(decide (-1099511627776<=X.Val) && decide (X.Val<=1099511627776))=true:=hv
      simp only [tr,Bool.and_eq_true,decide_eq_true_eq] at hv h1 h2
      exact absurd ⟨by omega,by omega,hv.1,hv.2⟩ ho
    rw [if_neg h1,if_neg h2,this]
    rfl
   simp only [Bool.false_eq_true,false_iff]
   exact fun hh=>ho (hh X hin)
  rw [h1]
  congr 1
  rw [Bool.eq_iff_iff,h2,Qys]
 simp only [Wu.j1,e,List.length_map]
 by_cases h1:(l.length:Int) < lo
 ·rw [if_pos h1,decide_eq_false (show ¬ lo<=(l.length:Int) by omega)]
  rfl
 rw [if_neg h1,decide_eq_true (show lo<=(l.length:Int) by omega)]
 by_cases h2:(l.length:Int) > hi
 ·rw [decide_eq_true h2,decide_eq_false (show ¬ (l.length:Int)<=hi by omega)]
  rfl
 rw [decide_eq_false h2,decide_eq_true (show (l.length:Int)<=hi by omega)]
 rfl
theorem Qxa (m:Ql) (hn:m.Pairs.length<=5000):Yb (Qo.step (trM m)) (.l1 1)=some (Qet m.Pairs 1 8 && decide (Up m.Pairs)):=by
 rcases Nat.eq_zero_or_pos m.Pairs.length with h0 | h0
 ·rw [Qau]
  simp only [Qo.step,Qo.l1]
  rw [if_neg (by simp [trM];omega),show (trM m).Pairs=m.Pairs.map tr from rfl,Qlz _ _ _ hn]
  have:m.Pairs=[]:=List.length_eq_zero_iff.1 h0
  rw [this]
  rfl
 obtain ⟨r,e1,e2⟩:∃ r,Yb (Qo.step (trM m)) (.l1 ((1:Nat):Int))=some r/\r=(Qet m.Pairs 1 8 && decide (Up m.Pairs)):=by
  refine Qbi (n:=m.Pairs.length) (fun i (_:Unit)=>Qo.S.l1 (i:Int)) (fun i _=>0 < i/\Up (m.Pairs.take i)) _ ?_ ?_ 1 () (by omega) ⟨by omega,by
   rw [take_at (z:=Qa.z) h0]
   simp [Up]⟩
  ·rintro _ ⟨_,h⟩
   rw [Qbp (Nat.le_refl _)] at h
   refine ⟨_, ?_,rfl⟩
   simp only [Qo.step,Qo.l1,show (trM m).Pairs=m.Pairs.map tr from rfl,List.length_map,Int.lt_irrefl,if_false,Qlz _ _ _ hn,Option.bind_some,decide_eq_true h,Bool.and_true]
  rintro i _ hi ⟨hp,h⟩
  have hw:IntKind.wrap .i64 ((i:Int) - 1)=((i - 1:Nat):Int):=by rw [wr (by omega)];omega
  simp only [Qo.step,Qo.l1,show (trM m).Pairs=m.Pairs.map tr from rfl,List.length_map,hw,Qim m.Pairs hi,Qim m.Pairs (i:=i - 1) (by omega)]
  rw [if_pos (by omega),if_pos (by omega),if_pos (by omega),wr1 hi (by omega:m.Pairs.length<=9223372036854775807)]
  have hm:=Qy2 hp hi h
  rw [show ((i - 1:Nat):Int).toNat=i - 1 from rfl,show ((i:Nat):Int).toNat=i from rfl]
  by_cases hc:(tr (m.Pairs.getD (i - 1) Qa.z)).Key>=(tr (m.Pairs.getD i Qa.z)).Key
  ·right
   refine ⟨false,by rw [if_pos hc], ?_⟩
   have:¬ Up m.Pairs:=by
    intro hu
    rw [<- List.take_append_drop (i+1) m.Pairs] at hu
    have:=hm.1 (Qts hu)
    simp only [tr] at hc
    omega
   rw [decide_eq_false this,Bool.and_false]
  left
  exact ⟨(),by rw [if_neg hc],by omega,hm.2 (by simp only [tr] at hc;omega)⟩
 rw [show ((1:Nat):Int)=1 from rfl] at e1
 rw [e1,e2]
theorem Qh2 (m:Ql) (hn:m.Pairs.length<=5000):Qo (trM m)=some (mOk m):=by
 have hp:∀ lo hi,Wu (trM m).Pairs lo hi=some (Qet m.Pairs lo hi):=fun lo hi=>Qlz _ _ _ hn
 have hl:((trM m).Pairs.length:Int)=(m.Pairs.length:Int):=by simp [trM]
 have hk:(trM m).Kind=m.Kind:=rfl
 have ho:(trM m).Old=m.Old:=rfl
 have h1o:(trM m).Over.Lo=m.Over.Lo:=rfl
 have h2o:(trM m).Over.Hi=m.Over.Hi:=rfl
 have j3:∀ b,Qo.j3 (trM m) b=some (!b && (if m.Kind=4 then Qet m.Pairs 1 1 && (Qj5 m.Old || decide (m.Old=1099511627777))
  else decide (m.Old=0) &&
   (if m.Kind=1 then Qet m.Pairs 1 8 && decide (Up m.Pairs)
   else if m.Kind=3 then Qet m.Pairs 1 1
   else if m.Kind=5 then Qet m.Pairs 2 2 && (decide ((m.Pairs.getD 0 Qa.z).Key≠(m.Pairs.getD 1 Qa.z).Key) && (decide ((m.Pairs.getD 0 Qa.z).Val=(m.Pairs.getD 1 Qa.z).Val) && decide ((m.Pairs.getD 0 Qa.z).Val>=0)))
   else false))):=by
  intro b
  unfold Qo.j3
  cases b with
  | true=>rfl
  | false=>
   rw [if_neg (by decide),Bool.not_false,Bool.true_and]
   simp only [hp,hk,ho,Option.bind_some,Qpj,Qo.j4,Qo.j5,Qxa m hn,hl]
   by_cases k4:m.Kind=4
   ·rw [if_pos k4,if_pos k4]
    cases Qet m.Pairs 1 1<;>cases Qj5 m.Old<;>first | rfl | simp
   rw [if_neg k4,if_neg k4]
   by_cases h0:m.Old=0
   ·rw [if_pos h0,decide_eq_true h0,Bool.true_and]
    by_cases k1:m.Kind=1
    ·rw [if_pos k1,if_pos k1]
    rw [if_neg k1,if_neg k1]
    by_cases k3:m.Kind=3
    ·rw [if_pos k3,if_pos k3]
    rw [if_neg k3,if_neg k3]
    by_cases k5:m.Kind=5
    ·rw [if_pos k5,if_pos k5]
     cases hp:Qet m.Pairs 2 2 with
     | false=>simp
     | true=>
      have hln:=Qry hp
      rw [if_pos rfl,if_pos (by omega),if_pos (by omega)]
      have g0:(trM m).Pairs.getD 0 Qc.z=tr (m.Pairs.getD 0 Qa.z):=Qim m.Pairs (i:=0) (by omega)
      have g1:(trM m).Pairs.getD 1 Qc.z=tr (m.Pairs.getD 1 Qa.z):=Qim m.Pairs (i:=1) (by omega)
      rw [g0,g1]
      generalize m.Pairs.getD 0 Qa.z=P0
      generalize m.Pairs.getD 1 Qa.z=P1
      by_cases h1:(tr P0).Key=(tr P1).Key
      ·rw [if_pos h1]
       have h1:P0.Key=P1.Key:=h1
       simp [h1]
      rw [if_neg h1]
      have h1:¬ P0.Key=P1.Key:=h1
      by_cases h2:(tr P0).Val=(tr P1).Val
      ·rw [if_pos h2]
       have h2:P0.Val=P1.Val:=h2
       simp [h1,h2,tr]
      rw [if_neg h2]
      have h2:¬ P0.Val=P1.Val:=h2
      simp [h2]
    rw [if_neg k5,if_neg k5]
   rw [if_neg h0,decide_eq_false h0,Bool.false_and]
 have j1:∀ b,Qo.j1 (trM m) b=some (!b && Qn1 m):=by
  intro b
  unfold Qo.j1 Qn1
  cases b with
  | true=>rfl
  | false=>
   rw [if_neg (by decide),Bool.not_false,Bool.true_and]
   simp only [hk,ho,h1o,h2o,hl,j3,Qh4,Qo.j2]
   by_cases k2:m.Kind=2
   ·rw [if_pos k2,if_pos k2]
    by_cases h1:m.Pairs.length=0
    ·rw [if_pos (by omega),decide_eq_true h1]
     by_cases h2:m.Old=0
     ·rw [if_pos h2,decide_eq_true h2];rfl
     rw [if_neg h2,decide_eq_false h2];rfl
    rw [if_neg (by omega),decide_eq_false h1];rfl
   rw [if_neg k2,if_neg k2]
   by_cases h1:m.Over.Lo=0
   ·rw [if_pos h1,decide_eq_true h1]
    by_cases h2:m.Over.Hi=0
    ·simp [h2]
    simp [h2]
   rw [if_neg h1,decide_eq_false h1];rfl
 unfold Qo
 simp only [j1,show (trM m).Client=m.Client from rfl,show (trM m).Seq=m.Seq from rfl,mOk]
 by_cases h1:m.Client < 1
 ·rw [if_pos h1,decide_eq_false (p:=1<=m.Client/\m.Client<=1048576) (by omega)];rfl
 by_cases h2:m.Client > 1048576
 ·rw [if_neg h1,if_pos h2,decide_eq_false (p:=1<=m.Client/\m.Client<=1048576) (by omega)];rfl
 rw [if_neg h1,if_neg h2,decide_eq_true (p:=1<=m.Client/\m.Client<=1048576) (by omega)]
 by_cases h3:m.Seq < 1
 ·rw [if_pos h3,decide_eq_false (p:=1<=m.Seq/\m.Seq<=1073741824) (by omega)];rfl
 rw [if_neg h3]
 by_cases h4:m.Seq > 1073741824
 ·rw [decide_eq_true h4,decide_eq_false (p:=1<=m.Seq/\m.Seq<=1073741824) (by omega)];rfl
 rw [decide_eq_false h4,decide_eq_true (p:=1<=m.Seq/\m.Seq<=1073741824) (by omega)];rfl
def Qc1 (m:Ql) (k:Int):Bool:=if m.Kind=2 then decide (m.Over.Lo<=k) && decide (k < m.Over.Hi) else (look m.Pairs k).isSome
theorem Qs3 (m:Ql) (k:Int) (hn:m.Pairs.length<=5000):Xl (trM m) k=some (Qc1 m k):=by
 unfold Xl Xl.j1 Qc1
 simp only [show (trM m).Kind=m.Kind from rfl,show (trM m).Over.Lo=m.Over.Lo from rfl,show (trM m).Over.Hi=m.Over.Hi from rfl]
 by_cases k2:m.Kind=2
 ·rw [if_pos k2,if_pos k2]
  by_cases h:k>=m.Over.Lo
  ·rw [if_pos h,decide_eq_true (show m.Over.Lo<=k from h),Bool.true_and]
  rw [if_neg h,decide_eq_false (show ¬ m.Over.Lo<=k from h),Bool.false_and]
 rw [if_neg k2,if_neg k2]
 obtain ⟨r,h1,h2⟩:∃ r,Yb (Xl.step (trM m) k) (.l1 0)=some r/\r=(look m.Pairs k).isSome:=by
  refine Qbi (n:=m.Pairs.length) (fun i (_:Unit)=>Xl.S.l1 (i:Int)) (fun i _=>look m.Pairs k=look (m.Pairs.drop i) k) _ ?_ ?_ 0 () (Nat.zero_le _) (by simp)
  ·intro _ h
   rw [List.drop_length] at h
   exact ⟨false,by simp [Xl.step,Xl.l1,trM],by rw [h];rfl⟩
  intro i _ hi h
  have Ye:(0:Int)<=(i:Int)/\(i:Int) < (m.Pairs.length:Int):=by omega
  have hd:=Qhf (l:=m.Pairs) (z:=Qa.z) hi
  simp only [Xl.step,Xl.l1,show (trM m).Pairs=m.Pairs.map tr from rfl,List.length_map,Ye.2,if_true,Ye,and_self,Qim m.Pairs hi,wr1 hi (by omega:m.Pairs.length<=9223372036854775807)]
  generalize m.Pairs.getD (i:Int).toNat Qa.z=X at hd ⊢
  rw [hd,look] at h
  by_cases hk:X.Key=k
  ·right
   rw [if_pos hk] at h
   exact ⟨true,by simp [tr,hk],by rw [h];rfl⟩
  left
  rw [if_neg hk] at h
  exact ⟨(),by simp [tr,hk],h⟩
 rw [h1,h2]
def within (v:Int):Int:=if v > 1099511627776 then 1099511627776 else if v < -1099511627776 then -1099511627776 else v
theorem Qps (v:Int):-1099511627776<=within v/\within v<=1099511627776:=by
 unfold within
 split
 ·omega
 split<;>omega
def Qfu (m:Ql) (k:Int) (c:Option Int):Option (Option Int):=
 if m.Kind=2 then some none
 else if m.Kind=3 then (if c.getD 0+(m.Pairs.getD 0 Qa.z).Val < 0\/c.getD 0+(m.Pairs.getD 0 Qa.z).Val > 1099511627776 then none else some (some (c.getD 0+(m.Pairs.getD 0 Qa.z).Val)))
 else if m.Kind=4 then (if c.getD 1099511627777=m.Old then some (some (m.Pairs.getD 0 Qa.z).Val) else none)
 else if m.Kind=5 then (if k=(m.Pairs.getD 0 Qa.z).Key then some (some (within (c.getD 0 - (m.Pairs.getD 0 Qa.z).Val))) else some (some (within (c.getD 0+(m.Pairs.getD 0 Qa.z).Val))))
 else some (match look m.Pairs k with | some v=>some v | none=>c)
def cellOf (c:Option Int):Xf:=⟨c.getD 0,c.isSome⟩
structure Qpw (m:Ql):Prop where
 ok:∀ x∈m.Pairs,okP x
 len:m.Pairs.length<=8
 del:m.Kind=2->m.Pairs=[]
 put:m.Kind=1->Up m.Pairs
 one:m.Kind=3\/m.Kind=4->∃ p,m.Pairs=[p]
 two:m.Kind=5->∃ p q,m.Pairs=[p,q]/\p.Key≠q.Key/\p.Val=q.Val
 kind:m.Kind=1\/m.Kind=2\/m.Kind=3\/m.Kind=4\/m.Kind=5
 Wf7:m.Kind=2->Ok (pa m.Over)
theorem Qn7 {m:Ql} (h:mOk m=true):Qpw m:=by
 unfold mOk at h
 simp only [Bool.and_eq_true,decide_eq_true_eq] at h
 have hk:=h.2
 clear h
 unfold Qn1 at hk
 have hp:∀ {lo hi},Qet m.Pairs lo hi=true->(∀ x∈m.Pairs,okP x)/\lo<=(m.Pairs.length:Int)/\(m.Pairs.length:Int)<=hi:=fun h=>by
  have h2:=Qry h
  unfold Qet at h
  simp only [Bool.and_eq_true] at h
  exact ⟨Qys.1 h.2,h2⟩
 by_cases k2:m.Kind=2
 ·rw [if_pos k2] at hk
  simp only [Bool.and_eq_true,decide_eq_true_eq] at hk
  have e:=List.length_eq_zero_iff.1 hk.1.1
  exact ⟨by simp [e],by simp [e],fun _=>e,fun h=>by omega,fun h=>by omega,fun h=>by omega,by omega,fun _=>hk.2⟩
 rw [if_neg k2] at hk
 simp only [Bool.and_eq_true,decide_eq_true_eq] at hk
 have hk:=hk.2
 by_cases k4:m.Kind=4
 ·rw [if_pos k4] at hk
  simp only [Bool.and_eq_true] at hk
  have h:=hp hk.1
  have:∃ p,m.Pairs=[p]:=List.length_eq_one_iff.1 (by omega)
  exact ⟨h.1,by omega,fun h=>by omega,fun h=>by omega,fun _=>this,fun h=>by omega,by omega,fun h=>by omega⟩
 rw [if_neg k4] at hk
 simp only [Bool.and_eq_true,decide_eq_true_eq] at hk
 have hk:=hk.2
 by_cases k1:m.Kind=1
 ·rw [if_pos k1] at hk
  simp only [Bool.and_eq_true,decide_eq_true_eq] at hk
  have h:=hp hk.1
  exact ⟨h.1,by omega,fun h=>by omega,fun _=>hk.2,fun h=>by omega,fun h=>by omega,by omega,fun h=>by omega⟩
 rw [if_neg k1] at hk
 by_cases k3:m.Kind=3
 ·rw [if_pos k3] at hk
  have h:=hp hk
  have:∃ p,m.Pairs=[p]:=List.length_eq_one_iff.1 (by omega)
  exact ⟨h.1,by omega,fun h=>by omega,fun h=>by omega,fun _=>this,fun h=>by omega,by omega,fun h=>by omega⟩
 rw [if_neg k3] at hk
 by_cases k5:m.Kind=5
 ·rw [if_pos k5] at hk
  simp only [Bool.and_eq_true,decide_eq_true_eq] at hk
  have h:=hp hk.1
  refine ⟨h.1,by omega,fun h=>by omega,fun h=>by omega,fun h=>by omega,fun _=>?_,by omega,fun h=>by omega⟩
  match hm:m.Pairs,h.2 with
  | [p,q],_=>
   rw [hm] at hk
   exact ⟨p,q,rfl,hk.2.1,hk.2.2.1⟩
  | [],h=>simp at h
  | [p],h=>simp at h
  | p :: q :: r :: l,h=>simp at h;omega
 rw [if_neg k5] at hk
 cases hk
theorem We6 (m:Ql) (hm:Qpw m) (k:Int) (c:Option Int) (hc:-1099511627776<=c.getD 0/\c.getD 0<=1099511627776):
  ∃ r,Qv (cellOf c) (trM m) k=some r/\((Qfu m k c=none/\r.2=false)\/∃ d,Qfu m k c=some d/\r=(cellOf d,true)):=by
 have hl:=hm.len
 unfold Qv Qfu
 simp only [show (trM m).Kind=m.Kind from rfl,show (trM m).Old=m.Old from rfl,show (trM m).Pairs=m.Pairs.map tr from rfl,List.length_map]
 by_cases k2:m.Kind=2
 ·rw [if_pos k2,if_pos k2]
  exact ⟨_,rfl,.inr ⟨none,rfl,rfl⟩⟩
 rw [if_neg k2,if_neg k2]
 by_cases k3:m.Kind=3
 ·obtain ⟨p,hp⟩:=hm.one (.inl k3)
  have ho:=hm.ok p (by rw [hp];simp)
  unfold okP at ho
  rw [if_pos k3,if_pos k3,hp]
  simp only [List.length_singleton,List.map_cons,List.map_nil,List.getD_cons_zero]
  rw [if_pos (by omega),show (cellOf c).Val=c.getD 0 from rfl,show (tr p).Val=p.Val from rfl,wr (by omega)]
  simp only [bnd,Qv.j1]
  by_cases h1:c.getD 0+p.Val < 0
  ·rw [if_pos h1,if_pos trivial,if_pos (.inl h1)]
   exact ⟨_,rfl,.inl ⟨rfl,rfl⟩⟩
  rw [if_neg h1]
  by_cases h2:c.getD 0+p.Val > 1099511627776
  ·rw [decide_eq_true h2,if_pos rfl,if_pos (.inr h2)]
   exact ⟨_,rfl,.inl ⟨rfl,rfl⟩⟩
  rw [decide_eq_false h2,if_neg (by decide),if_neg (by omega)]
  exact ⟨_,rfl,.inr ⟨_,rfl,rfl⟩⟩
 rw [if_neg k3,if_neg k3]
 by_cases k4:m.Kind=4
 ·obtain ⟨p,hp⟩:=hm.one (.inr k4)
  rw [if_pos k4,if_pos k4,hp]
  simp only [Qv.j2,show (trM m).Pairs=m.Pairs.map tr from rfl,hp,List.length_map,List.length_singleton,List.map_cons,List.map_nil,List.getD_cons_zero]
  cases c with
  | none=>
   simp only [cellOf,Option.isSome_none,Bool.false_eq_true,if_false,Option.getD_none]
   by_cases h:m.Old=1099511627777
   ·rw [h,if_pos rfl]
    exact ⟨(⟨p.Val,true⟩,true),by simp [tr],.inr ⟨some p.Val,rfl,rfl⟩⟩
   rw [show (m.Old != 1099511627777)=true by simpa using h,if_neg (fun e:(1099511627777:Int)=m.Old=>h e.symm)]
   exact ⟨(⟨0,false⟩,false),by simp,.inl ⟨rfl,rfl⟩⟩
  | some v=>
   simp only [cellOf,Option.isSome_some,if_true,Option.getD_some]
   by_cases h:v=m.Old
   ·rw [if_pos h,if_pos h]
    exact ⟨(⟨p.Val,true⟩,true),by simp [tr],.inr ⟨some p.Val,rfl,rfl⟩⟩
   rw [if_neg h,if_neg h]
   exact ⟨(⟨v,true⟩,false),by simp,.inl ⟨rfl,rfl⟩⟩
 rw [if_neg k4,if_neg k4]
 by_cases k5:m.Kind=5
 ·obtain ⟨p,q,hp,_,_⟩:=hm.two k5
  have ho:=hm.ok p (by rw [hp];simp)
  unfold okP at ho
  rw [if_pos k5,if_pos k5,hp]
  simp only [List.length_cons,List.length_nil,List.map_cons,List.map_nil,List.getD_cons_zero]
  rw [if_pos (by omega),show (tr p).Key=p.Key from rfl,show (cellOf c).Val=c.getD 0 from rfl,show (tr p).Val=p.Val from rfl,wr (by omega),wr (by omega)]
  simp only [bnd]
  by_cases h:k=p.Key
  ·rw [if_pos h,if_pos h]
   exact ⟨_,rfl,.inr ⟨_,rfl,rfl⟩⟩
  rw [if_neg h,if_neg h]
  exact ⟨_,rfl,.inr ⟨_,rfl,rfl⟩⟩
 rw [if_neg k5,if_neg k5]
 obtain ⟨r,h1,h2⟩:∃ r,Yb (Qv.step (cellOf c) (trM m) k) (.l1 0)=some r/\r=(cellOf (match look m.Pairs k with | some v=>some v | none=>c),true):=by
  refine Qbi (n:=m.Pairs.length) (fun i (_:Unit)=>Qv.S.l1 (i:Int)) (fun i _=>look m.Pairs k=look (m.Pairs.drop i) k) _ ?_ ?_ 0 () (Nat.zero_le _) (by simp)
  ·intro _ h
   rw [List.drop_length] at h
   exact ⟨(cellOf c,true),by simp [Qv.step,Qv.l1,trM],by rw [h];rfl⟩
  intro i _ hi h
  have Ye:(0:Int)<=(i:Int)/\(i:Int) < (m.Pairs.length:Int):=by omega
  have hd:=Qhf (l:=m.Pairs) (z:=Qa.z) hi
  simp only [Qv.step,Qv.l1,show (trM m).Pairs=m.Pairs.map tr from rfl,List.length_map,Ye.2,if_true,Ye,and_self,Qim m.Pairs hi,wr1 hi (by omega:m.Pairs.length<=9223372036854775807)]
  generalize m.Pairs.getD (i:Int).toNat Qa.z=X at hd ⊢
  rw [hd,look] at h
  by_cases hk:X.Key=k
  ·right
   rw [if_pos hk] at h
   exact ⟨(⟨X.Val,true⟩,true),by simp [tr,hk],by rw [h];rfl⟩
  left
  rw [if_neg hk] at h
  exact ⟨(),by simp [tr,hk],h⟩
 exact ⟨r,h1,.inr ⟨_,rfl,h2⟩⟩
end Go.SyP
