/- Tables: what the program makes of a table. -/
import Derived.Test.YtdhmflhncidjaaaGreatPthzE
set_option linter.unusedVariables false
set_option linter.unusedSimpArgs false
namespace Go.SyP
open Go Go.Sy Sets
theorem Wi8 (m:Qp) (hn:m.Pairs.length<=5000):Qey m=some (mOk m && (decide (m.Kind=3) || decide (m.Kind=4))):=by
 have eta:(⟨m.Client,m.Seq,m.Kind,m.Pairs,(⟨m.Over.Lo,m.Over.Hi⟩:Qb),m.Old⟩:Qp)=m:=rfl
 unfold Qey Qey.j1
 rw [Qge m hn,Option.bind_some]
 cases mOk m with
 | false=>rfl
 | true=>
  rw [if_pos rfl]
  by_cases h:m.Kind=3
  ·rw [if_pos h,decide_eq_true h];rfl
  rw [if_neg h,decide_eq_false h]
  simp only [Bool.true_and,Bool.false_or]
  rfl
theorem Qst (a b:List Qa) (k:Int):look (a ++ b) k=match look a k with | some v=>some v | none=>look b k:=by
 induction a with
 | nil=>rfl
 | cons x a ih=>
  rw [List.cons_append,look,look]
  by_cases h:x.Key=k
  ·rw [if_pos h,if_pos h]
  rw [if_neg h,if_neg h,ih]
theorem Wak (v:Int):Qhd (Qb6 v (-1099511627776)) 1099511627776=within v:=by
 unfold Qhd Qb6 within
 by_cases h1:v > 1099511627776
 ·rw [if_pos h1]
  repeat split
  all_goals omega
 rw [if_neg h1]
 by_cases h2:v < -1099511627776
 ·rw [if_pos h2]
  repeat split
  all_goals omega
 rw [if_neg h2]
 repeat split
 all_goals omega
theorem Wmh (a:List Qa) (k by':Int) (hn:a.length<=5000) (h:Tb a) (hb:-1099511627776<=by'/\by'<=1099511627776):Qfw a k by'=some (Qes a k (within ((look a k).getD 0+by'))):=by
 unfold Qfw
 have hk:=Quj h k
 rw [get_eq a k hn h.up,Option.bind_some]
 simp only [Weq]
 rw [wr (by omega),Wak,put_eq a k _ hn h.up]
 rfl
theorem Wk2 (l:List Qa) (m:Qp) (on:List Qb) (hl:l.length<=1000) (ho:on.length<=5000) (ht:Tb l) (hmi:Qxe m) (k1:m.Kind=1):
  ∃ out,Yy (Wm.step m on) (.l1 0 l)=some (out,true)/\Tb out/\out.length<=l.length+m.Pairs.length/\∀ j,look out j=if hasB on j=true then (match look m.Pairs j with | some v=>some v | none=>look l j) else look l j:=by
 have hpl:=hmi.len
 have hu:=hmi.put k1
 obtain ⟨r,e1,out,e2,e3⟩:∃ r,Yy (Wm.step m on) (.l1 0 l)=some r/\∃ out,r=(out,true)/\Tb out/\out.length<=l.length+m.Pairs.length/\∀ j,look out j=if hasB on j=true then (match look m.Pairs j with | some v=>some v | none=>look l j) else look l j:=by
  refine Qd7 (n:=m.Pairs.length) (fun i x=>Wm.S.l1 (i:Int) x) (fun i x=>Tb x/\x.length<=l.length+i/\∀ j,look x j=if hasB on j=true then (match look (m.Pairs.take i) j with | some v=>some v | none=>look l j) else look l j) _ ?_ ?_ 0 l (Nat.zero_le _) ⟨ht,by omega,fun j=>by simp [look]⟩
  ·rintro x ⟨h1,h2,h3⟩
   rw [Qe7 (Nat.le_refl _)] at h3
   exact ⟨(x,true),by simp [Wm.step,Wm.l1],x,rfl,h1,h2,h3⟩
  rintro i x hi ⟨h1,h2,h3⟩
  left
  have Qay:(0:Int)<=(i:Int)/\(i:Int) < (m.Pairs.length:Int):=by omega
  have hx:=Qfo (l:=m.Pairs) (z:=Qa.z) hi
  have hin:m.Pairs.getD (i:Int).toNat Qa.z∈m.Pairs:=by
   show m.Pairs.getD i Qa.z∈m.Pairs
   simp [List.getD_eq_getElem?_getD,hi]
  have hup:Up (m.Pairs.take (i+1)):=by
   rw [<- List.take_append_drop (i+1) m.Pairs] at hu
   exact Wby hu
  simp only [Wm.step,Wm.l1,Wm.j2,Qay.2,if_true,Qay,and_self,has_eq on ho,Option.bind_some,k1,put_eq x _ _ (by omega:x.length<=5000) h1.up,wr1 hi (by omega:m.Pairs.length<=9223372036854775807)]
  generalize m.Pairs.getD (i:Int).toNat Qa.z=X at hx hin ⊢
  rw [hx] at hup ⊢
  have Wj0:look (m.Pairs.take i) X.Key=none:=Qj3 fun p hp=>by have:=(Qvt.1 hup).2 p hp;omega
  have Jj:=hmi.ok X hin
  by_cases hc:hasB on X.Key=true
  ·rw [if_pos hc]
   refine ⟨_,rfl,h1.Qes Jj, ?_,fun j=>?_⟩
   ·have:=Qli x X.Key X.Val
    omega
   rw [Qno,h3 j,Qst]
   by_cases hj:j=X.Key
   ·subst hj
    rw [if_pos rfl,if_pos hc,Wj0]
    simp [look]
   rw [if_neg hj]
   by_cases hb:hasB on j=true
   ·rw [if_pos hb,if_pos hb]
    cases look (m.Pairs.take i) j with
    | some v=>rfl
    | none=>simp [look,if_neg (fun e:X.Key=j=>hj e.symm)]
   rw [if_neg hb,if_neg hb]
  rw [if_neg hc]
  refine ⟨_,rfl,h1,by omega,fun j=>?_⟩
  rw [h3 j,Qst]
  by_cases hb:hasB on j=true
  ·rw [if_pos hb,if_pos hb]
   have hj:¬ X.Key=j:=by rintro rfl;exact hc hb
   cases look (m.Pairs.take i) j with
   | some v=>rfl
   | none=>simp [look,if_neg hj]
  rw [if_neg hb,if_neg hb]
 rw [e2] at e1
 exact ⟨out,e1,e3⟩
theorem Whu (l:List Qa) (m:Qp) (on:List Qb) (hl:l.length<=1000) (ho:on.length<=5000) (ht:Tb l) (hmi:Qxe m) (k5:m.Kind=5) (p q:Qa) (hp:m.Pairs=[p,q]) (hne:p.Key≠q.Key) (hv:p.Val=q.Val):
  ∃ out,Yy (Wm.step m on) (.l1 0 l)=some (out,true)/\Tb out/\out.length<=l.length+2/\∀ j,look out j=if hasB on j=true then (if j=p.Key then some (within ((look l j).getD 0 - p.Val)) else if j=q.Key then some (within ((look l j).getD 0+q.Val)) else look l j) else look l j:=by
 have op:=hmi.ok p (by rw [hp];simp)
 have oq:=hmi.ok q (by rw [hp];simp)
 have one:∀ (x:List Qa) (k d:Int),Tb x->x.length<=2000->0<=k->k < 4096->-1099511627776<=d->d<=1099511627776->∃ y,(if hasB on k=true then Qfw x k d else some x)=some y/\Tb y/\y.length<=x.length+1 /\
   ∀ j,look y j=if hasB on j=true/\j=k then some (within ((look x j).getD 0+d)) else look x j:=by
  intro x k d hx hn hk0 hk hd0 hd
  by_cases hc:hasB on k=true
  ·rw [if_pos hc,Wmh x k d (by omega) hx ⟨hd0,hd⟩]
   refine ⟨_,rfl,hx.Qes ⟨hk0,hk,(Qrc _).1,(Qrc _).2⟩,Qli _ _ _,fun j=>?_⟩
   rw [Qno]
   by_cases hj:j=k
   ·subst hj
    rw [if_pos rfl,if_pos ⟨hc,rfl⟩]
   rw [if_neg hj,if_neg (fun h=>hj h.2)]
  rw [if_neg hc]
  refine ⟨_,rfl,hx,by omega,fun j=>?_⟩
  rw [if_neg]
  rintro ⟨h1,rfl⟩
  exact hc h1
 unfold okP at op oq
 obtain ⟨y,y1,y2,y3,y4⟩:=one l p.Key (-p.Val) ht (by omega) op.1 op.2.1 (by omega) (by omega)
 obtain ⟨z,z1,z2,z3,z4⟩:=one y q.Key q.Val y2 (by omega) oq.1 oq.2.1 (by omega) (by omega)
 have s0:Wm.step m on (.l1 0 l)=some (.inl (.l1 1 y)):=by
  simp only [Wm.step,Wm.l1,Wm.j2,hp,List.length_cons,List.length_nil,has_eq on ho,Option.bind_some,k5]
  rw [if_pos (by decide),if_pos (by decide)]
  simp only [show (0:Int).toNat=0 from rfl,List.getD_cons_zero]
  rw [wr (n:=0 - p.Val) (by omega),show (0:Int) - p.Val=-p.Val by omega]
  by_cases hc:hasB on p.Key=true
  ·rw [if_pos hc] at y1 ⊢
   rw [if_neg (by decide),y1]
   rfl
  rw [if_neg hc] at y1 ⊢
  injection y1 with y1
  rw [y1]
  rfl
 have s1:Wm.step m on (.l1 1 y)=some (.inl (.l1 2 z)):=by
  simp only [Wm.step,Wm.l1,Wm.j2,hp,List.length_cons,List.length_nil,has_eq on ho,Option.bind_some,k5]
  rw [if_pos (by decide),if_pos (by decide)]
  simp only [show (1:Int).toNat=1 from rfl,List.getD_cons_succ,List.getD_cons_zero]
  by_cases hc:hasB on q.Key=true
  ·rw [if_pos hc] at z1 ⊢
   rw [if_neg (by decide),if_neg (by decide),z1]
   rfl
  rw [if_neg hc] at z1 ⊢
  injection z1 with z1
  rw [z1]
  rfl
 have s2:Wm.step m on (.l1 2 z)=some (.inr (z,true)):=by
  simp only [Wm.step,Wm.l1,hp,List.length_cons,List.length_nil]
  rw [if_neg (by decide)]
 refine ⟨z, ?_,z2,by omega,fun j=>?_⟩
 ·rw [Ya,s0]
  simp only [Jq]
  rw [Ya,s1]
  simp only [Jq]
  rw [Ya,s2]
  rfl
 rw [z4 j,y4 j]
 by_cases hb:hasB on j=true
 ·rw [if_pos hb]
  by_cases h1:j=p.Key
  ·subst h1
   rw [if_neg (fun h=>hne h.2),if_pos ⟨hb,rfl⟩,if_pos rfl]
   rfl
  by_cases h2:j=q.Key
  ·rw [if_pos ⟨hb,h2⟩,if_neg (fun h=>h1 h.2),if_neg h1,if_pos h2]
  rw [if_neg (fun h=>h2 h.2),if_neg (fun h=>h1 h.2),if_neg h1,if_neg h2]
 rw [if_neg (fun h=>hb h.1),if_neg (fun h=>hb h.1),if_neg hb]
theorem Qvo (l:List Qa) (m:Qp) (on:List Qb) (hl:l.length<=1000) (hpl:m.Pairs.length<=1000) (ho:on.length<=5000) (ht:Tb l) (hm:mOk m=true) (hs:SOk on):
  ∃ r:List Qa × Bool,Wm l m on=some r/\Qma l m on r/\Tb r.1/\r.1.length<=l.length+8:=by
 have hmi:=Ql5 hm
 have eta:(⟨m.Client,m.Seq,m.Kind,m.Pairs,(⟨m.Over.Lo,m.Over.Hi⟩:Qb),m.Old⟩:Qp)=m:=rfl
 have etaO:(⟨m.Over.Lo,m.Over.Hi⟩:Qb)=m.Over:=rfl
 obtain ⟨r1,c1,c2⟩:=Qf7 l (by omega)
 obtain ⟨r3,c5,c6⟩:=Wn1 on ho
 unfold Wm Wm.j1
 simp only [eta,etaO]
 rw [c1,c2.2 ht,Option.bind_some,if_pos rfl,Qge m (by omega),hm,Option.bind_some,if_pos rfl,c5,c6.2 hs,Option.bind_some]
 rw [if_neg (by decide),if_pos (by omega)]
 by_cases k2:m.Kind=2
 ·rw [if_pos k2,Wn4 l (by omega) _ on ho,Option.bind_some]
  refine ⟨_,rfl,⟨fun _=>?_,fun h=>by cases h⟩,ht.filter _,Nat.le_trans (List.length_filter_le ..) (by omega)⟩
  refine ⟨ht.up.filter _,fun j=>?_⟩
  have hlk:=Qsu l (fun k=>!((decide (m.Over.Lo<=k) && decide (k < m.Over.Hi)) && hasB on k)) j
  simp only at hlk ⊢
  rw [hlk]
  unfold Qnv Qig Qld
  rw [if_pos k2,if_pos k2]
  cases ((decide (m.Over.Lo<=j) && decide (j < m.Over.Hi)) && hasB on j)<;>simp
 rw [if_neg k2,Wi8 m (by omega),Option.bind_some,hm,Bool.true_and]
 by_cases k34:m.Kind=3\/m.Kind=4
 ·obtain ⟨p,hp⟩:=hmi.one k34
  have op:=hmi.ok p (by rw [hp];simp)
  unfold okP at op
  have hb:=Quj ht p.Key
  have Wj4:∀ j,Qig m j=decide (j=p.Key):=fun j=>by
   unfold Qig
   rw [if_neg k2,hp]
   simp only [look]
   by_cases h:p.Key=j
   ·rw [if_pos h,decide_eq_true h.symm];rfl
   rw [if_neg h,decide_eq_false (fun e=>h e.symm)];rfl
  have hd:(decide (m.Kind=3) || decide (m.Kind=4))=true:=by simpa using k34
  -- what a put does
  have Qat:∀ v,Qld m p.Key (look l p.Key)=some (some v)->hasB on p.Key=true->-1099511627776<=v->v<=1099511627776 ->
    ∃ r:List Qa × Bool,((Qea l p.Key v).bind fun v2=>some (v2,true))=some r/\Qma l m on r/\Tb r.1/\r.1.length<=l.length+8:=by
   intro v hc hh hv1 hv2
   rw [put_eq l _ _ (by omega) ht.up]
   refine ⟨_,rfl,⟨fun _=>⟨ht.up.Qes _ _,fun j=>?_⟩,fun h=>by cases h⟩,ht.Qes ⟨op.1,op.2.1,hv1,hv2⟩,Nat.le_trans (Qli _ _ _) (by omega)⟩
   simp only
   unfold Qnv
   rw [Wj4,Qno]
   by_cases hj:j=p.Key
   ·subst hj
    rw [hh,decide_eq_true rfl,if_pos (show (true && true)=true from rfl),if_pos rfl,hc]
   rw [decide_eq_false hj,if_neg (by simp),if_neg hj]
  have hno:Qld m p.Key (look l p.Key)=none->hasB on p.Key=true->Qma l m on (l,false):=fun hc hh=>
   ⟨(fun h=>by cases h),fun _=>⟨rfl,p.Key,by unfold Qnv;rw [Wj4,hh,decide_eq_true rfl,if_pos (show (true && true)=true from rfl),hc]⟩⟩
  rw [hd,if_pos rfl,hp]
  simp only [List.length_singleton,List.getD_cons_zero]
  rw [if_pos (by omega),has_eq on ho,Option.bind_some]
  by_cases hh:hasB on p.Key=true
  ·rw [if_pos hh]
   unfold Qb3 Qb3.j1 Qb3.j2
   simp only [eta,hp,List.length_singleton,List.getD_cons_zero]
   rw [if_pos (by omega),get_eq l _ (by omega) ht.up,Option.bind_some]
   have hw:=wr (n:=(look l p.Key).getD 0+p.Val) (by omega)
   simp only [Weq,hw]
   by_cases k3:m.Kind=3
   ·have Qhw:Qld m p.Key (look l p.Key)=if (look l p.Key).getD 0+p.Val < 0\/(look l p.Key).getD 0+p.Val > 1099511627776 then none else some (some ((look l p.Key).getD 0+p.Val)):=by
     unfold Qld
     rw [if_neg k2,if_pos k3,hp]
     rfl
    rw [if_pos k3]
    by_cases h1:(look l p.Key).getD 0+p.Val < 0
    ·rw [if_pos h1,if_pos trivial]
     refine ⟨_,rfl,hno (by rw [Qhw,if_pos (.inl h1)]) hh,ht,by simp⟩
    rw [if_neg h1]
    by_cases h2:(look l p.Key).getD 0+p.Val > 1099511627776
    ·rw [decide_eq_true h2,if_pos rfl]
     refine ⟨_,rfl,hno (by rw [Qhw,if_pos (.inr h2)]) hh,ht,by simp⟩
    rw [decide_eq_false h2,if_neg (by decide)]
    obtain ⟨r,q1,q2⟩:=Qat _ (by rw [Qhw,if_neg (by omega)]) hh (by omega) (by omega)
    refine ⟨r, ?_,q2⟩
    rw [put_eq l _ _ (by omega) ht.up] at q1 ⊢
    exact q1
   have k4:m.Kind=4:=by omega
   have Qhw:Qld m p.Key (look l p.Key)=if (look l p.Key).getD 1099511627777=m.Old then some (some p.Val) else none:=by
    unfold Qld
    rw [if_neg k2,if_neg k3,if_pos k4,hp]
    rfl
   rw [if_neg k3]
   have yes:(look l p.Key).getD 1099511627777=m.Old->∃ r:List Qa × Bool,(((Qea l p.Key p.Val).bind fun v2=>some (v2,true)).bind fun v7=>some (v7.1,v7.2))=some r/\Qma l m on r/\Tb r.1/\r.1.length<=l.length+8:=fun hc=>by
    obtain ⟨r,q1,q2⟩:=Qat _ (by rw [Qhw,if_pos hc]) hh op.2.2.1 op.2.2.2
    refine ⟨r, ?_,q2⟩
    rw [put_eq l _ _ (by omega) ht.up] at q1 ⊢
    exact q1
   have no:¬ (look l p.Key).getD 1099511627777=m.Old->∃ r:List Qa × Bool,((some (l,false):Option (List Qa × Bool)).bind fun v7=>some (v7.1,v7.2))=some r/\Qma l m on r/\Tb r.1/\r.1.length<=l.length+8:=fun hc=>
    ⟨_,rfl,hno (by rw [Qhw,if_neg hc]) hh,ht,by simp⟩
   by_cases hs:(look l p.Key).isSome=true
   ·rw [if_pos hs]
    have e:(look l p.Key).getD 1099511627777=(look l p.Key).getD 0:=by
     revert hs
     cases look l p.Key<;>simp
    rw [e] at yes no
    by_cases hc:(look l p.Key).getD 0=m.Old
    ·rw [if_pos hc]
     exact yes hc
    rw [if_neg hc]
    exact no hc
   rw [if_neg hs]
   have e:(look l p.Key).getD 1099511627777=1099511627777:=by
    revert hs
    cases look l p.Key<;>simp
   rw [e] at yes no
   by_cases hc:(1099511627777:Int)=m.Old
   ·rw [if_pos hc]
    exact yes hc
   rw [if_neg hc]
   exact no hc
  rw [if_neg hh]
  refine ⟨_,rfl,⟨fun _=>⟨ht.up,fun j=>?_⟩,fun h=>by cases h⟩,ht,by simp⟩
  unfold Qnv
  rw [Wj4]
  by_cases hj:j=p.Key
  ·subst hj
   rw [if_neg (by simp [hh])]
  rw [decide_eq_false hj,if_neg (by simp)]
 have hd:(decide (m.Kind=3) || decide (m.Kind=4))=false:=by
  rw [Bool.eq_false_iff]
  intro h
  simp only [Bool.or_eq_true,decide_eq_true_eq] at h
  exact k34 h
 rw [hd,if_neg (by decide)]
 have k3:¬ m.Kind=3:=fun e=>k34 (.inl e)
 have k4:¬ m.Kind=4:=fun e=>k34 (.inr e)
 have hkind:=hmi.kind
 by_cases k1:m.Kind=1
 ·obtain ⟨out,q1,q2,q3,q4⟩:=Wk2 l m on hl ho ht hmi k1
  have hpl8:=hmi.len
  refine ⟨_,q1,⟨fun _=>⟨q2.up,fun j=>?_⟩,fun h=>by cases h⟩,q2,by simp only;omega⟩
  simp only
  rw [q4 j]
  unfold Qnv Qig Qld
  rw [if_neg k2,if_neg k2,if_neg k3,if_neg k4,if_neg (show ¬ m.Kind=5 by omega)]
  cases hlp:look m.Pairs j with
  | none=>simp
  | some v=>
   by_cases hb:hasB on j=true
   ·simp [hb]
   simp [hb]
 have k5:m.Kind=5:=by omega
 obtain ⟨p,q,hp,hne,hv⟩:=hmi.two k5
 obtain ⟨out,q1,q2,q3,q4⟩:=Whu l m on hl ho ht hmi k5 p q hp hne hv
 refine ⟨_,q1,⟨fun _=>⟨q2.up,fun j=>?_⟩,fun h=>by cases h⟩,q2,by simp only;omega⟩
 simp only
 rw [q4 j]
 unfold Qnv Qig Qld
 rw [if_neg k2,if_neg k2,if_neg k3,if_neg k4,if_pos k5,hp]
 simp only [look,List.getD_cons_zero]
 by_cases hb:hasB on j=true
 ·rw [if_pos hb,hb,Bool.and_true]
  by_cases h1:j=p.Key
  ·subst h1
   simp
  simp only [if_neg h1,if_neg (show ¬ p.Key=j from fun e=>h1 e.symm)]
  by_cases h2:j=q.Key
  ·rw [if_pos h2,if_pos h2.symm,if_pos (by rfl),hv]
  rw [if_neg h2,if_neg (show ¬ q.Key=j from fun e=>h2 e.symm),if_neg (by simp)]
 rw [if_neg hb]
 simp [hb]
end Go.SyP
namespace Go.SyP
open Go Go.Sy Sets
theorem Qms {σ ρ α β:Type} {step:σ->Option (σ ⊕ ρ)} (l:List α) (z:α) (st:Nat->β->σ) (f:β->α->β) (I:Nat->β->Prop)
  (Qay:∀ i x,i < l.length->I i x->step (st i x)=some (.inl (st (i+1) (f x (l.getD i z))))/\I (i+1) (f x (l.getD i z))) (x:β) (h0:I 0 x):
  Yy step (st 0 x)=Yy step (st l.length (l.foldl f x))/\I l.length (l.foldl f x):=by
 have key:∀ m i x,i+m=l.length->I i x->Yy step (st i x)=Yy step (st l.length ((l.drop i).foldl f x))/\I l.length ((l.drop i).foldl f x):=by
  intro m
  induction m with
  | zero=>
   intro i x hi hI
   obtain rfl:i=l.length:=by omega
   rw [List.drop_length]
   exact ⟨rfl,hI⟩
  | succ m ih=>
   intro i x hi hI
   have hi':i < l.length:=by omega
   obtain ⟨h1,h2⟩:=Qay i x hi' hI
   obtain ⟨h3,h4⟩:=ih (i+1) _ (by omega) h2
   rw [List.drop_eq_getElem_cons hi',List.foldl_cons,show l[i]=l.getD i z by simp [hi']]
   exact ⟨by rw [Ya,h1];exact h3,h4⟩
 have:=key l.length 0 x (by omega) h0
 simpa using this
theorem Qgl {α:Type} {l:List α} {i:Nat} {z:α} (h:i < l.length):l.getD i z∈l:=by
 simp [List.getD_eq_getElem?_getD,h]
theorem Qn6 {x:Qb} (h:Ok (pa x)):SOk [x]:=⟨⟨fun y hy=>by simp at hy;subst hy;exact h,by simp⟩,by simp⟩
theorem Qmt {x:Qb} (h:Ok (pa x)) (k:Int):hasB [x] k=(decide (x.Lo<=k) && decide (k < x.Hi)):=by
 unfold hasB
 simp only [List.map_cons,List.map_nil,List.any_cons,List.any_nil,decide_eq_true h,Bool.true_and,Bool.or_false]
 rfl
noncomputable def apD (on:List Qb) (t:List Qa) (m:Qp):List Qa × Bool:=(Wm t m on).getD ([],false)
structure ApD (on:List Qb) (t:List Qa) (m:Qp):Prop where
 run:Wm t m on=some (apD on t m)
 to:Qma t m on (apD on t m)
 tb:Tb (apD on t m).1
 len:(apD on t m).1.length<=t.length+8
theorem Qot {on:List Qb} {t:List Qa} {m:Qp} (hl:t.length<=1000) (ho:on.length<=5000) (ht:Tb t) (hm:mOk m=true) (hs:SOk on):ApD on t m:=by
 have hp:=(Ql5 hm).len
 obtain ⟨r,q1,q2,q3,q4⟩:=Qvo t m on hl (by omega) ho ht hm hs
 have e:apD on t m=r:=by unfold apD;rw [q1];rfl
 exact ⟨by rw [e];exact q1,by rw [e];exact q2,by rw [e];exact q3,by rw [e];exact q4⟩
def Wp7 (mark:Int) (e:Qe):Bool:=e.Qa3 && decide (e.Time<=mark)
def Yu (mark:Int) (l:List Qe):List Qp:=(l.filter (Wp7 mark)).map (·.M)
structure Few (l:List Qe):Prop where
 len:l.length<=61
 prs:∀ e∈l,e.M.Pairs.length<=20
end Go.SyP
