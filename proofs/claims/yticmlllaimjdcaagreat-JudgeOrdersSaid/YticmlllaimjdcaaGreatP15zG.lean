/- Tables: what the program makes of a table. -/
import Derived.Test.YticmlllaimjdcaaGreatP15zE
set_option linter.unusedVariables false
set_option linter.unusedSimpArgs false
namespace Go.SyP
open Go Go.Sy Sets
theorem Wh9 (m:We) (hn:m.Pairs.length<=5000):Qfz m=some (mOk m && (decide (m.Kind=3) || decide (m.Kind=4))):=by
 have eta:(⟨m.Client,m.Seq,m.Kind,m.Pairs,(⟨m.Over.Lo,m.Over.Hi⟩:Qb),m.Old⟩:We)=m:=rfl
 unfold Qfz Qfz.j1
 rw [Qgg m hn,Option.bind_some]
 cases mOk m with
 | false=>rfl
 | true=>
  rw [if_pos rfl]
  by_cases h:m.Kind=3
  ·rw [if_pos h,decide_eq_true h];rfl
  rw [if_neg h,decide_eq_false h]
  simp only [Bool.true_and,Bool.false_or]
  rfl
theorem Qsw (a b:List Qa) (k:Int):look (a ++ b) k=match look a k with | some v=>some v | none=>look b k:=by
 induction a with
 | nil=>rfl
 | cons x a ih=>
  rw [List.cons_append,look,look]
  by_cases h:x.Key=k
  ·rw [if_pos h,if_pos h]
  rw [if_neg h,if_neg h,ih]
theorem Qzn (v:Int):Qh3 (Qf6 v (-1099511627776)) 1099511627776=within v:=by
 unfold Qh3 Qf6 within
 by_cases h1:v > 1099511627776
 ·rw [if_pos h1]
  repeat split
  all_goals omega
 rw [if_neg h1]
 by_cases h2:v < -1099511627776
 ·rw [if_pos h2]
  repeat split
  all_goals omega
 rw [if_neg h2]
 repeat split
 all_goals omega
theorem Wkr (a:List Qa) (k by':Int) (hn:a.length<=5000) (h:Tb a) (hb:-1099511627776<=by'/\by'<=1099511627776):Qg0 a k by'=some (Qfw a k (within ((look a k).getD 0+by'))):=by
 unfold Qg0
 have hk:=Qul h k
 rw [get_eq a k hn h.up,Option.bind_some]
 simp only [Wdj]
 rw [wr (by omega),Qzn,put_eq a k _ hn h.up]
 rfl
theorem Wjb (l:List Qa) (m:We) (on:List Qb) (hl:l.length<=1000) (ho:on.length<=5000) (ht:Tb l) (hmi:Wa6 m) (k1:m.Kind=1):
  ∃ out,Xf (Wz.step m on) (.l1 0 l)=some (out,true)/\Tb out/\out.length<=l.length+m.Pairs.length/\∀ j,look out j=if hasB on j=true then (match look m.Pairs j with | some v=>some v | none=>look l j) else look l j:=by
 have hpl:=hmi.len
 have hu:=hmi.put k1
 obtain ⟨r,e1,out,e2,e3⟩:∃ r,Xf (Wz.step m on) (.l1 0 l)=some r/\∃ out,r=(out,true)/\Tb out/\out.length<=l.length+m.Pairs.length/\∀ j,look out j=if hasB on j=true then (match look m.Pairs j with | some v=>some v | none=>look l j) else look l j:=by
  refine Qbi (n:=m.Pairs.length) (fun i x=>Wz.S.l1 (i:Int) x) (fun i x=>Tb x/\x.length<=l.length+i/\∀ j,look x j=if hasB on j=true then (match look (m.Pairs.take i) j with | some v=>some v | none=>look l j) else look l j) _ ?_ ?_ 0 l (Nat.zero_le _) ⟨ht,by omega,fun j=>by simp [look]⟩
  ·rintro x ⟨h1,h2,h3⟩
   rw [Qa3 (Nat.le_refl _)] at h3
   exact ⟨(x,true),by simp [Wz.step,Wz.l1],x,rfl,h1,h2,h3⟩
  rintro i x hi ⟨h1,h2,h3⟩
  left
  have Xu:(0:Int)<=(i:Int)/\(i:Int) < (m.Pairs.length:Int):=by omega
  have hx:=Qd2 (l:=m.Pairs) (z:=Qa.z) hi
  have hin:m.Pairs.getD (i:Int).toNat Qa.z∈m.Pairs:=by
   show m.Pairs.getD i Qa.z∈m.Pairs
   simp [List.getD_eq_getElem?_getD,hi]
  have hup:Up (m.Pairs.take (i+1)):=by
   rw [<- List.take_append_drop (i+1) m.Pairs] at hu
   exact Qvp hu
  simp only [Wz.step,Wz.l1,Wz.j2,Xu.2,if_true,Xu,and_self,has_eq on ho,Option.bind_some,k1,put_eq x _ _ (by omega:x.length<=5000) h1.up,wr1 hi (by omega:m.Pairs.length<=9223372036854775807)]
  generalize m.Pairs.getD (i:Int).toNat Qa.z=X at hx hin ⊢
  rw [hx] at hup ⊢
  have Wir:look (m.Pairs.take i) X.Key=none:=Qkt fun p hp=>by have:=(Qvo.1 hup).2 p hp;omega
  have Jp:=hmi.ok X hin
  by_cases hc:hasB on X.Key=true
  ·rw [if_pos hc]
   refine ⟨_,rfl,h1.Qfw Jp, ?_,fun j=>?_⟩
   ·have:=Ql1 x X.Key X.Val
    omega
   rw [Qn0,h3 j,Qsw]
   by_cases hj:j=X.Key
   ·subst hj
    rw [if_pos rfl,if_pos hc,Wir]
    simp [look]
   rw [if_neg hj]
   by_cases hb:hasB on j=true
   ·rw [if_pos hb,if_pos hb]
    cases look (m.Pairs.take i) j with
    | some v=>rfl
    | none=>simp [look,if_neg (fun e:X.Key=j=>hj e.symm)]
   rw [if_neg hb,if_neg hb]
  rw [if_neg hc]
  refine ⟨_,rfl,h1,by omega,fun j=>?_⟩
  rw [h3 j,Qsw]
  by_cases hb:hasB on j=true
  ·rw [if_pos hb,if_pos hb]
   have hj:¬ X.Key=j:=by rintro rfl;exact hc hb
   cases look (m.Pairs.take i) j with
   | some v=>rfl
   | none=>simp [look,if_neg hj]
  rw [if_neg hb,if_neg hb]
 rw [e2] at e1
 exact ⟨out,e1,e3⟩
theorem Wgy (l:List Qa) (m:We) (on:List Qb) (hl:l.length<=1000) (ho:on.length<=5000) (ht:Tb l) (hmi:Wa6 m) (k5:m.Kind=5) (p q:Qa) (hp:m.Pairs=[p,q]) (hne:p.Key≠q.Key) (hv:p.Val=q.Val):
  ∃ out,Xf (Wz.step m on) (.l1 0 l)=some (out,true)/\Tb out/\out.length<=l.length+2/\∀ j,look out j=if hasB on j=true then (if j=p.Key then some (within ((look l j).getD 0 - p.Val)) else if j=q.Key then some (within ((look l j).getD 0+q.Val)) else look l j) else look l j:=by
 have op:=hmi.ok p (by rw [hp];simp)
 have oq:=hmi.ok q (by rw [hp];simp)
 have one:∀ (x:List Qa) (k d:Int),Tb x->x.length<=2000->0<=k->k < 4096->-1099511627776<=d->d<=1099511627776->∃ y,(if hasB on k=true then Qg0 x k d else some x)=some y/\Tb y/\y.length<=x.length+1 /\
   ∀ j,look y j=if hasB on j=true/\j=k then some (within ((look x j).getD 0+d)) else look x j:=by
  intro x k d hx hn hk0 hk hd0 hd
  by_cases hc:hasB on k=true
  ·rw [if_pos hc,Wkr x k d (by omega) hx ⟨hd0,hd⟩]
   refine ⟨_,rfl,hx.Qfw ⟨hk0,hk,(Qrj _).1,(Qrj _).2⟩,Ql1 _ _ _,fun j=>?_⟩
   rw [Qn0]
   by_cases hj:j=k
   ·subst hj
    rw [if_pos rfl,if_pos ⟨hc,rfl⟩]
   rw [if_neg hj,if_neg (fun h=>hj h.2)]
  rw [if_neg hc]
  refine ⟨_,rfl,hx,by omega,fun j=>?_⟩
  rw [if_neg]
  rintro ⟨h1,rfl⟩
  exact hc h1
 unfold okP at op oq
 obtain ⟨y,y1,y2,y3,y4⟩:=one l p.Key (-p.Val) ht (by omega) op.1 op.2.1 (by omega) (by omega)
 obtain ⟨z,z1,z2,z3,z4⟩:=one y q.Key q.Val y2 (by omega) oq.1 oq.2.1 (by omega) (by omega)
 have s0:Wz.step m on (.l1 0 l)=some (.inl (.l1 1 y)):=by
  simp only [Wz.step,Wz.l1,Wz.j2,hp,List.length_cons,List.length_nil,has_eq on ho,Option.bind_some,k5]
  rw [if_pos (by decide),if_pos (by decide)]
  simp only [show (0:Int).toNat=0 from rfl,List.getD_cons_zero]
  rw [wr (n:=0 - p.Val) (by omega),show (0:Int) - p.Val=-p.Val by omega]
  by_cases hc:hasB on p.Key=true
  ·rw [if_pos hc] at y1 ⊢
   rw [if_neg (by decide),y1]
   rfl
  rw [if_neg hc] at y1 ⊢
  injection y1 with y1
  rw [y1]
  rfl
 have s1:Wz.step m on (.l1 1 y)=some (.inl (.l1 2 z)):=by
  simp only [Wz.step,Wz.l1,Wz.j2,hp,List.length_cons,List.length_nil,has_eq on ho,Option.bind_some,k5]
  rw [if_pos (by decide),if_pos (by decide)]
  simp only [show (1:Int).toNat=1 from rfl,List.getD_cons_succ,List.getD_cons_zero]
  by_cases hc:hasB on q.Key=true
  ·rw [if_pos hc] at z1 ⊢
   rw [if_neg (by decide),if_neg (by decide),z1]
   rfl
  rw [if_neg hc] at z1 ⊢
  injection z1 with z1
  rw [z1]
  rfl
 have s2:Wz.step m on (.l1 2 z)=some (.inr (z,true)):=by
  simp only [Wz.step,Wz.l1,hp,List.length_cons,List.length_nil]
  rw [if_neg (by decide)]
 refine ⟨z, ?_,z2,by omega,fun j=>?_⟩
 ·rw [Zc,s0]
  simp only [stk]
  rw [Zc,s1]
  simp only [stk]
  rw [Zc,s2]
  rfl
 rw [z4 j,y4 j]
 by_cases hb:hasB on j=true
 ·rw [if_pos hb]
  by_cases h1:j=p.Key
  ·subst h1
   rw [if_neg (fun h=>hne h.2),if_pos ⟨hb,rfl⟩,if_pos rfl]
   rfl
  by_cases h2:j=q.Key
  ·rw [if_pos ⟨hb,h2⟩,if_neg (fun h=>h1 h.2),if_neg h1,if_pos h2]
  rw [if_neg (fun h=>h2 h.2),if_neg (fun h=>h1 h.2),if_neg h1,if_neg h2]
 rw [if_neg (fun h=>hb h.1),if_neg (fun h=>hb h.1),if_neg hb]
theorem Qvm (l:List Qa) (m:We) (on:List Qb) (hl:l.length<=1000) (hpl:m.Pairs.length<=1000) (ho:on.length<=5000) (ht:Tb l) (hm:mOk m=true) (hs:SOk on):
  ∃ r:List Qa × Bool,Wz l m on=some r/\Qiw l m on r/\Tb r.1/\r.1.length<=l.length+8:=by
 have hmi:=Qxk hm
 have eta:(⟨m.Client,m.Seq,m.Kind,m.Pairs,(⟨m.Over.Lo,m.Over.Hi⟩:Qb),m.Old⟩:We)=m:=rfl
 have etaO:(⟨m.Over.Lo,m.Over.Hi⟩:Qb)=m.Over:=rfl
 obtain ⟨r1,c1,c2⟩:=Qjv l (by omega)
 obtain ⟨r3,c5,c6⟩:=Wbe on ho
 unfold Wz Wz.j1
 simp only [eta,etaO]
 rw [c1,c2.2 ht,Option.bind_some,if_pos rfl,Qgg m (by omega),hm,Option.bind_some,if_pos rfl,c5,c6.2 hs,Option.bind_some]
 rw [if_neg (by decide),if_pos (by omega)]
 by_cases k2:m.Kind=2
 ·rw [if_pos k2,Wli l (by omega) _ on ho,Option.bind_some]
  refine ⟨_,rfl,⟨fun _=>?_,fun h=>by cases h⟩,ht.filter _,Nat.le_trans (List.length_filter_le ..) (by omega)⟩
  refine ⟨ht.up.filter _,fun j=>?_⟩
  have hlk:=Qsx l (fun k=>!((decide (m.Over.Lo<=k) && decide (k < m.Over.Hi)) && hasB on k)) j
  simp only at hlk ⊢
  rw [hlk]
  unfold Ql4 Qh6 Qkg
  rw [if_pos k2,if_pos k2]
  cases ((decide (m.Over.Lo<=j) && decide (j < m.Over.Hi)) && hasB on j)<;>simp
 rw [if_neg k2,Wh9 m (by omega),Option.bind_some,hm,Bool.true_and]
 by_cases k34:m.Kind=3\/m.Kind=4
 ·obtain ⟨p,hp⟩:=hmi.one k34
  have op:=hmi.ok p (by rw [hp];simp)
  unfold okP at op
  have hb:=Qul ht p.Key
  have Wiy:∀ j,Qh6 m j=decide (j=p.Key):=fun j=>by
   unfold Qh6
   rw [if_neg k2,hp]
   simp only [look]
   by_cases h:p.Key=j
   ·rw [if_pos h,decide_eq_true h.symm];rfl
   rw [if_neg h,decide_eq_false (fun e=>h e.symm)];rfl
  have hd:(decide (m.Kind=3) || decide (m.Kind=4))=true:=by simpa using k34
  -- what a put does
  have Qcs:∀ v,Qkg m p.Key (look l p.Key)=some (some v)->hasB on p.Key=true->-1099511627776<=v->v<=1099511627776 ->
    ∃ r:List Qa × Bool,((Qe6 l p.Key v).bind fun v2=>some (v2,true))=some r/\Qiw l m on r/\Tb r.1/\r.1.length<=l.length+8:=by
   intro v hc hh hv1 hv2
   rw [put_eq l _ _ (by omega) ht.up]
   refine ⟨_,rfl,⟨fun _=>⟨ht.up.Qfw _ _,fun j=>?_⟩,fun h=>by cases h⟩,ht.Qfw ⟨op.1,op.2.1,hv1,hv2⟩,Nat.le_trans (Ql1 _ _ _) (by omega)⟩
   simp only
   unfold Ql4
   rw [Wiy,Qn0]
   by_cases hj:j=p.Key
   ·subst hj
    rw [hh,decide_eq_true rfl,if_pos (show (true && true)=true from rfl),if_pos rfl,hc]
   rw [decide_eq_false hj,if_neg (by simp),if_neg hj]
  have hno:Qkg m p.Key (look l p.Key)=none->hasB on p.Key=true->Qiw l m on (l,false):=fun hc hh=>
   ⟨(fun h=>by cases h),fun _=>⟨rfl,p.Key,by unfold Ql4;rw [Wiy,hh,decide_eq_true rfl,if_pos (show (true && true)=true from rfl),hc]⟩⟩
  rw [hd,if_pos rfl,hp]
  simp only [List.length_singleton,List.getD_cons_zero]
  rw [if_pos (by omega),has_eq on ho,Option.bind_some]
  by_cases hh:hasB on p.Key=true
  ·rw [if_pos hh]
   unfold Qcb Qcb.j1 Qcb.j2
   simp only [eta,hp,List.length_singleton,List.getD_cons_zero]
   rw [if_pos (by omega),get_eq l _ (by omega) ht.up,Option.bind_some]
   have hw:=wr (n:=(look l p.Key).getD 0+p.Val) (by omega)
   simp only [Wdj,hw]
   by_cases k3:m.Kind=3
   ·have Qhl:Qkg m p.Key (look l p.Key)=if (look l p.Key).getD 0+p.Val < 0\/(look l p.Key).getD 0+p.Val > 1099511627776 then none else some (some ((look l p.Key).getD 0+p.Val)):=by
     unfold Qkg
     rw [if_neg k2,if_pos k3,hp]
     rfl
    rw [if_pos k3]
    by_cases h1:(look l p.Key).getD 0+p.Val < 0
    ·rw [if_pos h1,if_pos trivial]
     refine ⟨_,rfl,hno (by rw [Qhl,if_pos (.inl h1)]) hh,ht,by simp⟩
    rw [if_neg h1]
    by_cases h2:(look l p.Key).getD 0+p.Val > 1099511627776
    ·rw [decide_eq_true h2,if_pos rfl]
     refine ⟨_,rfl,hno (by rw [Qhl,if_pos (.inr h2)]) hh,ht,by simp⟩
    rw [decide_eq_false h2,if_neg (by decide)]
    obtain ⟨r,q1,q2⟩:=Qcs _ (by rw [Qhl,if_neg (by omega)]) hh (by omega) (by omega)
    refine ⟨r, ?_,q2⟩
    rw [put_eq l _ _ (by omega) ht.up] at q1 ⊢
    exact q1
   have k4:m.Kind=4:=by omega
   have Qhl:Qkg m p.Key (look l p.Key)=if (look l p.Key).getD 1099511627777=m.Old then some (some p.Val) else none:=by
    unfold Qkg
    rw [if_neg k2,if_neg k3,if_pos k4,hp]
    rfl
   rw [if_neg k3]
   have yes:(look l p.Key).getD 1099511627777=m.Old->∃ r:List Qa × Bool,(((Qe6 l p.Key p.Val).bind fun v2=>some (v2,true)).bind fun v7=>some (v7.1,v7.2))=some r/\Qiw l m on r/\Tb r.1/\r.1.length<=l.length+8:=fun hc=>by
    obtain ⟨r,q1,q2⟩:=Qcs _ (by rw [Qhl,if_pos hc]) hh op.2.2.1 op.2.2.2
    refine ⟨r, ?_,q2⟩
    rw [put_eq l _ _ (by omega) ht.up] at q1 ⊢
    exact q1
   have no:¬ (look l p.Key).getD 1099511627777=m.Old->∃ r:List Qa × Bool,((some (l,false):Option (List Qa × Bool)).bind fun v7=>some (v7.1,v7.2))=some r/\Qiw l m on r/\Tb r.1/\r.1.length<=l.length+8:=fun hc=>
    ⟨_,rfl,hno (by rw [Qhl,if_neg hc]) hh,ht,by simp⟩
   by_cases hs:(look l p.Key).isSome=true
   ·rw [if_pos hs]
    have e:(look l p.Key).getD 1099511627777=(look l p.Key).getD 0:=by
     revert hs
     cases look l p.Key<;>simp
    rw [e] at yes no
    by_cases hc:(look l p.Key).getD 0=m.Old
    ·rw [if_pos hc]
     exact yes hc
    rw [if_neg hc]
    exact no hc
   rw [if_neg hs]
   have e:(look l p.Key).getD 1099511627777=1099511627777:=by
    revert hs
    cases look l p.Key<;>simp
   rw [e] at yes no
   by_cases hc:(1099511627777:Int)=m.Old
   ·rw [if_pos hc]
    exact yes hc
   rw [if_neg hc]
   exact no hc
  rw [if_neg hh]
  refine ⟨_,rfl,⟨fun _=>⟨ht.up,fun j=>?_⟩,fun h=>by cases h⟩,ht,by simp⟩
  unfold Ql4
  rw [Wiy]
  by_cases hj:j=p.Key
  ·subst hj
   rw [if_neg (by simp [hh])]
  rw [decide_eq_false hj,if_neg (by simp)]
 have hd:(decide (m.Kind=3) || decide (m.Kind=4))=false:=by
  rw [Bool.eq_false_iff]
  intro h
  simp only [Bool.or_eq_true,decide_eq_true_eq] at h
  exact k34 h
 rw [hd,if_neg (by decide)]
 have k3:¬ m.Kind=3:=fun e=>k34 (.inl e)
 have k4:¬ m.Kind=4:=fun e=>k34 (.inr e)
 have hkind:=hmi.kind
 by_cases k1:m.Kind=1
 ·obtain ⟨out,q1,q2,q3,q4⟩:=Wjb l m on hl ho ht hmi k1
  have hpl8:=hmi.len
  refine ⟨_,q1,⟨fun _=>⟨q2.up,fun j=>?_⟩,fun h=>by cases h⟩,q2,by simp only;omega⟩
  simp only
  rw [q4 j]
  unfold Ql4 Qh6 Qkg
  rw [if_neg k2,if_neg k2,if_neg k3,if_neg k4,if_neg (show ¬ m.Kind=5 by omega)]
  cases hlp:look m.Pairs j with
  | none=>simp
  | some v=>
   by_cases hb:hasB on j=true
   ·simp [hb]
   simp [hb]
 have k5:m.Kind=5:=by omega
 obtain ⟨p,q,hp,hne,hv⟩:=hmi.two k5
 obtain ⟨out,q1,q2,q3,q4⟩:=Wgy l m on hl ho ht hmi k5 p q hp hne hv
 refine ⟨_,q1,⟨fun _=>⟨q2.up,fun j=>?_⟩,fun h=>by cases h⟩,q2,by simp only;omega⟩
 simp only
 rw [q4 j]
 unfold Ql4 Qh6 Qkg
 rw [if_neg k2,if_neg k2,if_neg k3,if_neg k4,if_pos k5,hp]
 simp only [look,List.getD_cons_zero]
 by_cases hb:hasB on j=true
 ·rw [if_pos hb,hb,Bool.and_true]
  by_cases h1:j=p.Key
  ·subst h1
   simp
  simp only [if_neg h1,if_neg (show ¬ p.Key=j from fun e=>h1 e.symm)]
  by_cases h2:j=q.Key
  ·rw [if_pos h2,if_pos h2.symm,if_pos (by rfl),hv]
  rw [if_neg h2,if_neg (show ¬ q.Key=j from fun e=>h2 e.symm),if_neg (by simp)]
 rw [if_neg hb]
 simp [hb]
end Go.SyP
namespace Go.SyP
open Go Go.Sy Sets
theorem Qin {σ ρ α β:Type} {step:σ->Option (σ ⊕ ρ)} (l:List α) (z:α) (st:Nat->β->σ) (f:β->α->β) (I:Nat->β->Prop)
  (Xu:∀ i x,i < l.length->I i x->step (st i x)=some (.inl (st (i+1) (f x (l.getD i z))))/\I (i+1) (f x (l.getD i z))) (x:β) (h0:I 0 x):
  Xf step (st 0 x)=Xf step (st l.length (l.foldl f x))/\I l.length (l.foldl f x):=by
 have key:∀ m i x,i+m=l.length->I i x->Xf step (st i x)=Xf step (st l.length ((l.drop i).foldl f x))/\I l.length ((l.drop i).foldl f x):=by
  intro m
  induction m with
  | zero=>
   intro i x hi hI
   obtain rfl:i=l.length:=by omega
   rw [List.drop_length]
   exact ⟨rfl,hI⟩
  | succ m ih=>
   intro i x hi hI
   have hi':i < l.length:=by omega
   obtain ⟨h1,h2⟩:=Xu i x hi' hI
   obtain ⟨h3,h4⟩:=ih (i+1) _ (by omega) h2
   rw [List.drop_eq_getElem_cons hi',List.foldl_cons,show l[i]=l.getD i z by simp [hi']]
   exact ⟨by rw [Zc,h1];exact h3,h4⟩
 have:=key l.length 0 x (by omega) h0
 simpa using this
theorem Qbo {α:Type} {l:List α} {i:Nat} {z:α} (h:i < l.length):l.getD i z∈l:=by
 simp [List.getD_eq_getElem?_getD,h]
theorem Qix {x:Qb} (h:Ok (pa x)):SOk [x]:=⟨⟨fun y hy=>by simp at hy;subst hy;exact h,by simp⟩,by simp⟩
theorem Qti {x:Qb} (h:Ok (pa x)) (k:Int):hasB [x] k=(decide (x.Lo<=k) && decide (k < x.Hi)):=by
 unfold hasB
 simp only [List.map_cons,List.map_nil,List.any_cons,List.any_nil,decide_eq_true h,Bool.true_and,Bool.or_false]
 rfl
noncomputable def apD (on:List Qb) (t:List Qa) (m:We):List Qa × Bool:=(Wz t m on).getD ([],false)
structure ApD (on:List Qb) (t:List Qa) (m:We):Prop where
 run:Wz t m on=some (apD on t m)
 to:Qiw t m on (apD on t m)
 tb:Tb (apD on t m).1
 len:(apD on t m).1.length<=t.length+8
theorem Qs9 {on:List Qb} {t:List Qa} {m:We} (hl:t.length<=1000) (ho:on.length<=5000) (ht:Tb t) (hm:mOk m=true) (hs:SOk on):ApD on t m:=by
 have hp:=(Qxk hm).len
 obtain ⟨r,q1,q2,q3,q4⟩:=Qvm t m on hl (by omega) ho ht hm hs
 have e:apD on t m=r:=by unfold apD;rw [q1];rfl
 exact ⟨by rw [e];exact q1,by rw [e];exact q2,by rw [e];exact q3,by rw [e];exact q4⟩
theorem Wem {on:List Qb} {t:List Qa} {m:We} {r:List Qa × Bool} (hl:t.length<=1000) (ho:on.length<=5000) (ht:Tb t) (hm:mOk m=true) (hs:SOk on) (h:Qiw t m on r):apD on t m=r:=
 (Qs9 hl ho ht hm hs).to.unique h
noncomputable def foldM (on:List Qb) (t:List Qa) (ms:List We):List Qa:=ms.foldl (fun t m=>(apD on t m).1) t
def trE (e:Qc):Qd:=⟨trM e.M,e.Time,e.Zw⟩
def Wc1 (mark:Int) (e:Qc):Bool:=e.Zw && decide (e.Time<=mark)
def Zp (mark:Int) (l:List Qc):List We:=(l.filter (Wc1 mark)).map (·.M)
noncomputable def Qxo (on:List Qb) (mark:Int) (t:List Qa) (e:Qc):List Qa:=if Wc1 mark e=true then (apD on t e.M).1 else t
theorem Wjz (on:List Qb) (mark:Int):∀ (l:List Qc) (t:List Qa),l.foldl (Qxo on mark) t=foldM on t (Zp mark l)
 | [],_=>rfl
 | e :: l,t=>by
  rw [List.foldl_cons,Wjz on mark l]
  unfold Qxo Zp
  rw [List.filter_cons]
  by_cases h:Wc1 mark e=true
  ·rw [if_pos h,if_pos h];rfl
  rw [if_neg h,if_neg h]
theorem Wga (a:List Qc) (hn:a.length<=9223372036854775807) (p:Qc->Option Bool) (q:Qc->Bool) (hp:∀ x∈a,p x=some (q x)):∃ r,Yy a p=some r /\
  ((r=-1/\∀ x∈a,q x=false)\/∃ i:Nat,r=i/\i < a.length/\q (a.getD i Qc.z)=true/\∀ x∈a.take i,q x=false):=by
 unfold Yy
 refine Qbi (n:=a.length) (fun i (_:Unit)=>Yy.S.l1 (i:Int)) (fun i _=>∀ x∈a.take i,q x=false) _ ?_ ?_ 0 () (Nat.zero_le _) (by simp)
 ·intro _ h
  rw [Qa3 (Nat.le_refl _)] at h
  exact ⟨-1,by simp [Yy.step,Yy.l1],.inl ⟨rfl,h⟩⟩
 intro i _ hi h
 have Xu:(0:Int)<=(i:Int)/\(i:Int) < (a.length:Int):=by omega
 have hg:a.getD (i:Int).toNat Qc.z=a.getD i Qc.z:=rfl
 simp only [Yy.step,Yy.l1,Xu.2,if_true,Xu,and_self,hg,hp _ (Qbo (z:=Qc.z) hi),Option.bind_some,wr1 hi hn]
 have hx:=take_at (l:=a) (z:=Qc.z) hi
 cases hq:q (a.getD i Qc.z) with
 | true=>
  right
  exact ⟨i,by simp,.inr ⟨i,rfl,hi,hq,h⟩⟩
 | false=>
  left
  refine ⟨(),by simp,fun x hxm=>?_⟩
  rw [hx] at hxm
  rcases List.mem_append.1 hxm with hm | hm
  ·exact h x hm
  simp only [List.mem_singleton] at hm;rw [hm,<- hq]
theorem Qvy (a:List Qc) (hn:a.length<=9223372036854775807) (p:Qc->Option Bool) (q:Qc->Bool) (hp:∀ x∈a,p x=some (q x)):Qbl a p=some (a.any q):=by
 unfold Qbl
 obtain ⟨r,h1,h2⟩:=Wga a hn p q hp
 rw [h1,Option.bind_some]
 congr 1
 rcases h2 with ⟨rfl,h⟩ | ⟨i,rfl,hi,hq,_⟩
 ·rw [Bool.eq_iff_iff]
  simp only [decide_eq_true_eq,List.any_eq_true]
  constructor
  ·intro h;omega
  rintro ⟨x,hx,hq⟩
  rw [h x hx] at hq
  cases hq
 rw [decide_eq_true (by omega)]
 symm
 rw [List.any_eq_true]
 exact ⟨_,Qbo hi,hq⟩
theorem Wlp (a:List We) (hn:a.length<=9223372036854775807) (p:We->Option Bool) (q:We->Bool) (hp:∀ x∈a,p x=some (q x)):∃ r,Jc a p=some r /\
  ((r=-1/\∀ x∈a,q x=false)\/∃ i:Nat,r=i/\i < a.length/\q (a.getD i We.z)=true/\∀ x∈a.take i,q x=false):=by
 unfold Jc
 refine Qbi (n:=a.length) (fun i (_:Unit)=>Jc.S.l1 (i:Int)) (fun i _=>∀ x∈a.take i,q x=false) _ ?_ ?_ 0 () (Nat.zero_le _) (by simp)
 ·intro _ h
  rw [Qa3 (Nat.le_refl _)] at h
  exact ⟨-1,by simp [Jc.step,Jc.l1],.inl ⟨rfl,h⟩⟩
 intro i _ hi h
 have Xu:(0:Int)<=(i:Int)/\(i:Int) < (a.length:Int):=by omega
 have hg:a.getD (i:Int).toNat We.z=a.getD i We.z:=rfl
 simp only [Jc.step,Jc.l1,Xu.2,if_true,Xu,and_self,hg,hp _ (Qbo (z:=We.z) hi),Option.bind_some,wr1 hi hn]
 have hx:=take_at (l:=a) (z:=We.z) hi
 cases hq:q (a.getD i We.z) with
 | true=>
  right
  exact ⟨i,by simp,.inr ⟨i,rfl,hi,hq,h⟩⟩
 | false=>
  left
  refine ⟨(),by simp,fun x hxm=>?_⟩
  rw [hx] at hxm
  rcases List.mem_append.1 hxm with hm | hm
  ·exact h x hm
  simp only [List.mem_singleton] at hm;rw [hm,<- hq]
theorem Wet (a:List We) (hn:a.length<=9223372036854775807) (p:We->Option Bool) (q:We->Bool) (hp:∀ x∈a,p x=some (q x)):Qcp a p=some (a.any q):=by
 unfold Qcp
 obtain ⟨r,h1,h2⟩:=Wlp a hn p q hp
 rw [h1,Option.bind_some]
 congr 1
 rcases h2 with ⟨rfl,h⟩ | ⟨i,rfl,hi,hq,_⟩
 ·rw [Bool.eq_iff_iff]
  simp only [decide_eq_true_eq,List.any_eq_true]
  constructor
  ·intro h;omega
  rintro ⟨x,hx,hq⟩
  rw [h x hx] at hq
  cases hq
 rw [decide_eq_true (by omega)]
 symm
 rw [List.any_eq_true]
 exact ⟨_,Qbo hi,hq⟩
structure Few (l:List Qc):Prop where
 len:l.length<=61
 prs:∀ e∈l,e.M.Pairs.length<=20
def okE (l:List Qc):Bool:=l.all fun e=>mOk e.M
theorem Quj (l:List Qc) (on:List Qb) (mark:Int) (hf:Few l) (ho:on.length<=5000) (hs:SOk on) (Jp:okE l=true):
  Xf (Zn.step l on mark) (.l1 0 [])=some (foldM on [] (Zp mark l))/\Tb (foldM on [] (Zp mark l))/\(foldM on [] (Zp mark l)).length<=8 * l.length:=by
 have hl:=hf.len
 have h:=Qin (step:=Zn.step l on mark) l Qc.z (fun i t=>Zn.S.l1 (i:Int) t) (Qxo on mark) (fun i t=>Tb t/\t.length<=8 * i) (fun i t hi ⟨hb,hlen⟩=>by
  have Xu:(0:Int)<=(i:Int)/\(i:Int) < (l.length:Int):=by omega
  have hg:l.getD (i:Int).toNat Qc.z=l.getD i Qc.z:=rfl
  have hm:mOk (l.getD i Qc.z).M=true:=by
   have:=List.all_eq_true.1 Jp _ (Qbo (z:=Qc.z) hi)
   simpa using this
  simp only [Zn.step,Zn.l1,Zn.j2,Zn.j3,Xu.2,if_true,Xu,and_self,hg,decide_eq_true_eq,Bool.false_eq_true,if_false,wr1 hi (by omega:l.length<=9223372036854775807)]
  generalize l.getD i Qc.z=e at hm ⊢
  have a:=Qs9 (on:=on) (t:=t) (m:=e.M) (by omega) ho hb hm hs
  have:=a.len
  unfold Qxo Wc1
  by_cases hd:e.Zw=true
  ·rw [if_pos hd,hd,Bool.true_and]
   by_cases ht:e.Time<=mark
   ·rw [if_pos ht,decide_eq_true ht,if_pos rfl,a.run,Option.bind_some]
    exact ⟨rfl,a.tb,by omega⟩
   rw [if_neg ht,decide_eq_false ht,if_neg (by decide)]
   exact ⟨rfl,hb,by omega⟩
  rw [if_neg hd,if_neg (by simp [hd])]
  exact ⟨rfl,hb,by omega⟩) [] ⟨Tb.nil,by simp⟩
 rw [Wjz] at h
 refine ⟨?_,h.2.1,h.2.2⟩
 have e:=h.1
 simp only [Int.natCast_zero,show ((0:Nat):Int)=0 from rfl] at e
 rw [e,Zc]
 simp [Zn.step,Zn.l1,stk]
theorem Wil (l:List Qc) (hf:Few l):Qbl l (fun z0=>Qg8 z0)=some (!okE l):=by
 rw [Qvy l (by have:=hf.len;omega) _ (fun e=>!mOk e.M) (fun x hx=>by
  have:=hf.prs x hx
  unfold Qg8
  rw [Qgg _ (by omega),Option.bind_some])]
 unfold okE
 rw [List.not_all_eq_any_not]
theorem Qvu {l:List Qc} {on:List Qb} (mark:Int) (hf:Few l) (ho:on.length<=5000) (hs:SOk on) (Jp:okE l=true):Zn l on mark=some (foldM on [] (Zp mark l)):=by
 obtain ⟨r,c1,c2⟩:=Wbe on ho
 unfold Zn
 rw [c1,Option.bind_some,if_pos (c2.2 hs),Wil l hf,Option.bind_some,Jp]
 simp only [Bool.not_true,Zn.j1,Bool.false_eq_true,if_false]
 exact (Quj l on mark hf ho hs Jp).1
theorem Qke (l:List Qc) {i:Nat} (hi:i < l.length):(l.map trE).getD i Qd.z=trE (l.getD i Qc.z):=by
 simp [List.getD_eq_getElem?_getD,hi]
def okM (l:List We):Bool:=l.all mOk
theorem Wi8 (l:List We) (hl:l.length<=5000) (hp:∀ m∈l,m.Pairs.length<=20):Qcp l (fun z0=>Qg9 z0)=some (!okM l):=by
 rw [Wet l (by omega) _ (fun e=>!mOk e) (fun x hx=>by
  have:=hp x hx
  unfold Qg9
  try simp only [show (⟨x.Client,x.Seq,x.Kind,x.Pairs,(⟨x.Over.Lo,x.Over.Hi⟩:Qb),x.Old⟩:We)=x from rfl]
  rw [Qgg _ (by omega),Option.bind_some])]
 unfold okM
 rw [List.not_all_eq_any_not]
theorem Wd6 {on:List Qb} {base:List Qa} {l:List We} (hl:base.length+8 * l.length<=1000) (ho:on.length<=5000) (ht:Tb base) (hs:SOk on) (Jp:okM l=true):
  Xf (Qbk.step l on) (.l1 0 base)=some (foldM on base l):=by
 have h:=Qin (step:=Qbk.step l on) l We.z (fun i t=>Qbk.S.l1 (i:Int) t) (fun t m=>(apD on t m).1) (fun i t=>Tb t/\t.length<=base.length+8 * i) (fun i t hi ⟨hb,hlen⟩=>by
  have Xu:(0:Int)<=(i:Int)/\(i:Int) < (l.length:Int):=by omega
  have hg:l.getD (i:Int).toNat We.z=l.getD i We.z:=rfl
  have hm:mOk (l.getD i We.z)=true:=List.all_eq_true.1 Jp _ (Qbo (z:=We.z) hi)
  simp only [Qbk.step,Qbk.l1,Xu.2,if_true,Xu,and_self,hg,wr1 hi (by omega:l.length<=9223372036854775807)]
  generalize l.getD i We.z=m at hm ⊢
  have a:=Qs9 (on:=on) (t:=t) (m:=m) (by omega) ho hb hm hs
  have:=a.len
  rw [a.run,Option.bind_some]
  exact ⟨rfl,a.tb,by omega⟩) base ⟨ht,by simp⟩
 have e:=h.1
 simp only [show ((0:Nat):Int)=0 from rfl] at e
 rw [e,Zc]
 simp [Qbk.step,Qbk.l1,stk,foldM]
theorem Wd5 {on:List Qb} {base:List Qa} {l:List We} (hl:base.length+8 * l.length<=1000) (hp:∀ m∈l,m.Pairs.length<=20) (ho:on.length<=5000) (ht:Tb base) (hs:SOk on) (Jp:okM l=true):
  Qbk base l on=some (foldM on base l):=by
 obtain ⟨r,c1,c2⟩:=Qjv base (by omega)
 obtain ⟨s,c3,c4⟩:=Wbe on ho
 unfold Qbk
 rw [c1,Option.bind_some,if_pos (c2.2 ht),c3,Option.bind_some,if_pos (c4.2 hs),Wi8 l (by omega) hp,Option.bind_some,Jp]
 unfold Qbk.j1
 rw [if_neg (by decide),if_pos (by omega)]
 exact Wd6 hl ho ht hs Jp
def Qql (o e:Qc):Bool:=decide (o.M.Client=e.M.Client) && decide (o.M.Seq>=e.M.Seq)
def Wme (l:List Qc):Prop:=∀ j i,j < i->i < l.length->Qql (l.getD j Qc.z) (l.getD i Qc.z)=false
theorem Qzp (o e:Qc):Qcu o e=Qql o e:=by
 unfold Qcu Qcu.j1 Qql
 by_cases h:o.M.Client=e.M.Client
 ·rw [if_pos h,decide_eq_true h,Bool.true_and]
 rw [if_neg h,decide_eq_false h,Bool.false_and]
theorem Qx5 (l:List Qc) (i:Nat) (hi:i < l.length) (e:Qc):(l.take i).any (fun o=>Qql o e)=false↔∀ j,j < i->Qql (l.getD j Qc.z) e=false:=by
 rw [List.any_eq_false]
 constructor
 ·intro h j hj
  have:l.getD j Qc.z∈l.take i:=by
   rw [List.mem_take_iff_getElem]
   exact ⟨j,by omega,by simp [List.getD_eq_getElem?_getD,show j < l.length by omega]⟩
  simpa using h _ this
 intro h x hx
 obtain ⟨j,hj,rfl⟩:=List.mem_take_iff_getElem.1 hx
 have:=h j (by omega)
 rw [List.getD_eq_getElem?_getD,List.getElem?_eq_getElem (by omega),Option.getD_some] at this
 rw [this]
 decide
theorem Wa2 (l:List Qc) (hl:l.length<=5000):∃ r,Qau l=some r/\(r=true↔Wme l):=by
 unfold Qau
 refine Qbi (n:=l.length) (fun i (_:Unit)=>Qau.S.l1 (i:Int)) (fun i _=>∀ j q,j < q->q < i->Qql (l.getD j Qc.z) (l.getD q Qc.z)=false) _ ?_ ?_ 0 () (Nat.zero_le _) (by intro j q h1 h2;omega)
 ·intro _ h
  exact ⟨true,by simp [Qau.step,Qau.l1],iff_of_true rfl fun j i h1 h2=>h j i h1 h2⟩
 intro i _ hi h
 have Xu:(0:Int)<=(i:Int)/\(i:Int) < (l.length:Int):=by omega
 have h3:(0:Int)<=(0:Int)/\(0:Int)<=(i:Int)/\(i:Int)<=(l.length:Int):=by omega
 simp only [Qau.step,Qau.l1,Xu.2,if_true,Xu,and_self,show (i:Int).toNat=i from rfl,List.drop_zero,Nat.sub_zero,Qzp,wr1 hi (by omega:l.length<=9223372036854775807)]
 rw [if_pos (by exact ⟨by omega,trivial,by omega⟩),Qvy _ (by simp;omega) _ (fun o=>Qql o (l.getD i Qc.z)) (fun x _=>rfl),Option.bind_some]
 cases hb:(l.take i).any (fun o=>Qql o (l.getD i Qc.z)) with
 | true=>
  right
  refine ⟨false,by simp, ?_⟩
  simp only [Bool.false_eq_true,false_iff]
  intro hc
  have:=(Qx5 l i hi _).2 fun j hj=>hc j i hj hi
  rw [this] at hb
  cases hb
 | false=>
  left
  refine ⟨(),by simp,fun j q h1 h2=>?_⟩
  rcases Nat.lt_or_ge q i with h4 | h4
  ·exact h j q h1 h4
  obtain rfl:q=i:=by omega
  exact (Qx5 l q hi _).1 hb j h1
theorem Wa3 (l:List Qc) (hl:l.length<=5000) (hp:∀ e∈l,e.M.Pairs.length<=5000):Qcx l=some (l.map trE):=by
 unfold Qcx Qw
 rw [Qxy [] (by simp),Option.bind_some,Zc]
 show ((Xf (Qw.step l (List.map tr [])) (.l2 ((0:Nat):Int) [])).bind fun v1=>some v1.Log)=some (l.map trE)
 have h:=Qin (step:=Qw.step l (List.map tr [])) l Qc.z (fun i t=>Qw.S.l2 (i:Int) t) (fun t e=>t ++ [trE e]) (fun i t=>t.length=i) (fun i t hi hlen=>by
  have Xu:(0:Int)<=(i:Int)/\(i:Int) < (l.length:Int):=by omega
  have hpp:=hp _ (Qbo (z:=Qc.z) hi)
  simp only [Qw.step,Qw.l2,Xu.2,if_true,Xu,and_self,show (i:Int).toNat=i from rfl,Quz _ hpp,Option.bind_some,wr1 hi (by omega:l.length<=9223372036854775807)]
  rw [if_pos (by omega)]
  exact ⟨rfl,by simp [hlen]⟩) [] rfl
 have e:=h.1
 rw [e,Zc]
 have hf:∀ (l:List Qc) (t:List Qd),l.foldl (fun t e=>t ++ [trE e]) t=t ++ l.map trE:=by
  intro l
  induction l with
  | nil=>intro t;simp
  | cons e l ih=>intro t;rw [List.foldl_cons,ih];simp
 rw [hf,List.nil_append]
 have s2:Qw.step l (List.map tr []) (.l2 (l.length:Int) (l.map trE))=some (.inl (.l3 (l.map trE))):=by
  simp only [Qw.step,Qw.l2,Int.lt_irrefl,if_false]
 rw [s2]
 show ((Xf (Qw.step l (List.map tr [])) (.l3 (l.map trE))).bind fun v1=>some v1.Log)=some (l.map trE)
 rw [Zc]
 simp only [Qw.step,Qw.l3]
 rfl
theorem tb5 {v:Int} (h:-1099511627776<=v/\v<=1099511627776):Tb [⟨5,v⟩]:=⟨fun x hx=>by simp at hx;subst hx;exact ⟨by show (0:Int)<=5;decide,by show (5:Int) < 4096;decide,h.1,h.2⟩,by simp [Up]⟩
theorem s09:SOk [⟨0,9⟩]:=Qix (by decide)
theorem ap1:apD [⟨0,9⟩] [] ⟨1,1,1,[⟨5,1⟩],⟨0,0⟩,0⟩=([⟨5,1⟩],true):=
 Wem (by decide) (by decide) Tb.nil (by decide) s09 ⟨fun _=>⟨by simp [Up],fun j=>by
  unfold Ql4 Qh6 Qkg
  by_cases hj:j=5
  ·subst hj
   rw [Qti (by decide)]
   simp [look]
  simp [look,if_neg (show ¬ (5:Int)=j from fun e=>hj e.symm)]⟩,fun h=>by cases h⟩
theorem ap3 {v w:Int} (h:0<=v/\0<=w/\v+w<=1099511627776):apD [⟨0,9⟩] [⟨5,v⟩] ⟨1,3,3,[⟨5,w⟩],⟨0,0⟩,0⟩=([⟨5,v+w⟩],true):=
 Wem (by simp) (by simp) (tb5 (by omega)) (by
  have hw:okP ⟨5,w⟩:=⟨by show (0:Int)<=5;decide,by show (5:Int) < 4096;decide,by show _<=w;omega,by show w<=_;omega⟩
  have:prs [⟨5,w⟩]=true:=Qvi.2 (fun x hx=>by simp at hx;subst hx;exact hw)
  simp [mOk,Qnz,Qfp,this]) s09 ⟨fun _=>⟨by simp [Up],fun j=>by
  unfold Ql4 Qh6 Qkg
  by_cases hj:j=5
  ·subst hj
   rw [Qti (by decide)]
   simp [look]
   omega
  simp [look,if_neg (show ¬ (5:Int)=j from fun e=>hj e.symm)]⟩,fun h=>by cases h⟩
theorem Qz7:Qu=some true:=by
 have hm:∀ k v,(k=1\/k=3)->(v=1\/v=2\/v=4)->mOk ⟨1,k,k,[⟨5,v⟩],⟨0,0⟩,0⟩=true:=by
  rintro k v (rfl | rfl) (rfl | rfl | rfl)<;>decide
 have hfew:Few [⟨⟨1,1,1,[⟨5,1⟩],⟨0,0⟩,0⟩,3,true⟩,⟨⟨1,3,3,[⟨5,2⟩],⟨0,0⟩,0⟩,4,true⟩]:=⟨by decide,by simp⟩
 have Jp:okE [⟨⟨1,1,1,[⟨5,1⟩],⟨0,0⟩,0⟩,3,true⟩,⟨⟨1,3,3,[⟨5,2⟩],⟨0,0⟩,0⟩,4,true⟩]=true:=by decide
 unfold Qu Qbv
 simp only [bnd]
 rw [Qvu 3 hfew (by decide) s09 Jp,Option.bind_some,Qvu 9 hfew (by decide) s09 Jp,Option.bind_some]
 have e1:foldM [⟨0,9⟩] [] (Zp 3 [⟨⟨1,1,1,[⟨5,1⟩],⟨0,0⟩,0⟩,3,true⟩,⟨⟨1,3,3,[⟨5,2⟩],⟨0,0⟩,0⟩,4,true⟩])=[⟨5,1⟩]:=by
  show (apD [⟨0,9⟩] [] _).1=_
  rw [ap1]
 have e2:foldM [⟨0,9⟩] [] (Zp 9 [⟨⟨1,1,1,[⟨5,1⟩],⟨0,0⟩,0⟩,3,true⟩,⟨⟨1,3,3,[⟨5,2⟩],⟨0,0⟩,0⟩,4,true⟩])=[⟨5,3⟩]:=by
  show (apD [⟨0,9⟩] (apD [⟨0,9⟩] [] ⟨1,1,1,[⟨5,1⟩],⟨0,0⟩,0⟩).1 ⟨1,3,3,[⟨5,2⟩],⟨0,0⟩,0⟩).1=_
  rw [ap1,ap3 (by decide)]
  rfl
 rw [e1,e2,Wd5 (by decide) (by simp) (by decide) (tb5 (by decide)) s09 (by decide),Option.bind_some]
 have e3:foldM [⟨0,9⟩] [⟨5,3⟩] [⟨1,3,3,[⟨5,4⟩],⟨0,0⟩,0⟩]=[⟨5,7⟩]:=by
  show (apD [⟨0,9⟩] _ _).1=_
  rw [ap3 (by decide)]
  rfl
 rw [e3]
 obtain ⟨r,c1,c2⟩:=Wa2 [⟨⟨1,1,1,[⟨5,1⟩],⟨0,0⟩,0⟩,3,true⟩,⟨⟨1,3,3,[⟨5,2⟩],⟨0,0⟩,0⟩,4,true⟩] (by decide)
 have hr:r=true:=c2.2 (fun j i h1 h2=>by
  have:j=0/\i=1:=by simp at h2;omega
  obtain ⟨rfl,rfl⟩:=this
  decide)
 rw [c1,hr]
 simp [Qu.j1]
end Go.SyP
