/- What entries make up: the plain folds. -/
import Derived.Test.YtdndobkfnmommaaGreatP24zF
set_option linter.unusedVariables false
set_option linter.unusedSimpArgs false
namespace Go.SyP
open Go Go.Sy Sets
theorem Qge {σ ρ α β:Type} {step:σ->Option (σ ⊕ ρ)} (l:List α) (z:α) (st:Nat->β->σ) (f:β->α->β) (I:Nat->β->Prop)
  (Yj:∀ i x,i < l.length->I i x->step (st i x)=some (.inl (st (i+1) (f x (l.getD i z))))/\I (i+1) (f x (l.getD i z))) (x:β) (h0:I 0 x):
  Xx step (st 0 x)=Xx step (st l.length (l.foldl f x))/\I l.length (l.foldl f x):=by
 have key:∀ m i x,i+m=l.length->I i x->Xx step (st i x)=Xx step (st l.length ((l.drop i).foldl f x))/\I l.length ((l.drop i).foldl f x):=by
  intro m
  induction m with
  | zero=>
   intro i x hi hI
   obtain rfl:i=l.length:=by omega
   rw [List.drop_length]
   exact ⟨rfl,hI⟩
  | succ m ih=>
   intro i x hi hI
   have hi':i < l.length:=by omega
   obtain ⟨h1,h2⟩:=Yj i x hi' hI
   obtain ⟨h3,h4⟩:=ih (i+1) _ (by omega) h2
   rw [List.drop_eq_getElem_cons hi',List.foldl_cons,show l[i]=l.getD i z by simp [hi']]
   exact ⟨by rw [Ji,h1];exact h3,h4⟩
 have:=key l.length 0 x (by omega) h0
 simpa using this
theorem Qeo {α:Type} {l:List α} {i:Nat} {z:α} (h:i < l.length):l.getD i z∈l:=by
 simp [List.getD_eq_getElem?_getD,h]
theorem Qmo {x:Qb} (h:Ok (pa x)):SOk [x]:=⟨⟨fun y hy=>by simp at hy;subst hy;exact h,by simp⟩,by simp⟩
theorem Qnp {x:Qb} (h:Ok (pa x)) (k:Int):hasB [x] k=(decide (x.Lo<=k) && decide (k < x.Hi)):=by
 unfold hasB
 simp only [List.map_cons,List.map_nil,List.any_cons,List.any_nil,decide_eq_true h,Bool.true_and,Bool.or_false]
 rfl
noncomputable def apD (on:List Qb) (t:List Qa) (m:Qn):List Qa × Bool:=(Wp t m on).getD ([],false)
structure ApD (on:List Qb) (t:List Qa) (m:Qn):Prop where
 run:Wp t m on=some (apD on t m)
 to:Qg8 t m on (apD on t m)
 tb:Tb (apD on t m).1
 len:(apD on t m).1.length<=t.length+8
 ref:Qu (t.map tr) (trM m) (on.map toR)=some ((apD on t m).1.map tr,(apD on t m).2)
theorem Qhr {on:List Qb} {t:List Qa} {m:Qn} (hl:t.length<=1000) (ho:on.length<=5000) (ht:Tb t) (hm:mOk m=true) (hs:SOk on):ApD on t m:=by
 have hp:=(Qnz hm).len
 obtain ⟨r,q1,q2,q3,q4⟩:=Qtq t m on hl (by omega) ho ht hm hs
 obtain ⟨s,q5,q6⟩:=Qw8 t m on hl (by omega) ho ht hm hs
 have e:apD on t m=r:=by unfold apD;rw [q1];rfl
 have e2:=q2.unique q6
 subst e2
 exact ⟨by rw [e];exact q1,by rw [e];exact q2,by rw [e];exact q3,by rw [e];exact q4,by rw [e];exact q5⟩
theorem Wio {on:List Qb} {t:List Qa} {m:Qn} {r:List Qa × Bool} (hl:t.length<=1000) (ho:on.length<=5000) (ht:Tb t) (hm:mOk m=true) (hs:SOk on) (h:Qg8 t m on r):apD on t m=r:=
 (Qhr hl ho ht hm hs).to.unique h
noncomputable def foldM (on:List Qb) (t:List Qa) (ms:List Qn):List Qa:=ms.foldl (fun t m=>(apD on t m).1) t
theorem Qrk {on:List Qb} (ho:on.length<=5000) (hs:SOk on):∀ {ms:List Qn} {t:List Qa},Tb t->(∀ m∈ms,mOk m=true)->t.length+8 * ms.length<=1000->Tb (foldM on t ms)/\(foldM on t ms).length<=t.length+8 * ms.length
 | [],t,ht,_,_=>⟨ht,by simp [foldM]⟩
 | m :: ms,t,ht,hm,hl=>by
  simp only [List.length_cons] at hl
  have a:=Qhr (on:=on) (t:=t) (m:=m) (by omega) ho ht (hm m (List.mem_cons_self ..)) hs
  have b:=Qrk ho hs (ms:=ms) a.tb (fun x hx=>hm x (List.mem_cons_of_mem _ hx)) (by have:=a.len;omega)
  have e:foldM on t (m :: ms)=foldM on (apD on t m).1 ms:=rfl
  rw [e]
  refine ⟨b.1, ?_⟩
  have:=a.len
  have:=b.2
  simp only [List.length_cons]
  omega
def trE (e:Qe):Qg:=⟨trM e.M,e.Time,e.Qai⟩
def Qmj (mark:Int) (e:Qe):Bool:=e.Qai && decide (e.Time<=mark)
def Zi (mark:Int) (l:List Qe):List Qn:=(l.filter (Qmj mark)).map (·.M)
noncomputable def Qp2 (on:List Qb) (mark:Int) (t:List Qa) (e:Qe):List Qa:=if Qmj mark e=true then (apD on t e.M).1 else t
theorem Qz4 (on:List Qb) (mark:Int):∀ (l:List Qe) (t:List Qa),l.foldl (Qp2 on mark) t=foldM on t (Zi mark l)
 | [],_=>rfl
 | e :: l,t=>by
  rw [List.foldl_cons,Qz4 on mark l]
  unfold Qp2 Zi
  rw [List.filter_cons]
  by_cases h:Qmj mark e=true
  ·rw [if_pos h,if_pos h];rfl
  rw [if_neg h,if_neg h]
theorem Wiy (a:List Qe) (hn:a.length<=9223372036854775807) (p:Qe->Option Bool) (q:Qe->Bool) (hp:∀ x∈a,p x=some (q x)):∃ r,Zp a p=some r /\
  ((r=-1/\∀ x∈a,q x=false)\/∃ i:Nat,r=i/\i < a.length/\q (a.getD i Qe.z)=true/\∀ x∈a.take i,q x=false):=by
 unfold Zp
 refine Qbj (n:=a.length) (fun i (_:Unit)=>Zp.S.l1 (i:Int)) (fun i _=>∀ x∈a.take i,q x=false) _ ?_ ?_ 0 () (Nat.zero_le _) (by simp)
 ·intro _ h
  rw [Qbt (Nat.le_refl _)] at h
  exact ⟨-1,by simp [Zp.step,Zp.l1],.inl ⟨rfl,h⟩⟩
 intro i _ hi h
 have Yj:(0:Int)<=(i:Int)/\(i:Int) < (a.length:Int):=by omega
 have hg:a.getD (i:Int).toNat Qe.z=a.getD i Qe.z:=rfl
 simp only [Zp.step,Zp.l1,Yj.2,if_true,Yj,and_self,hg,hp _ (Qeo (z:=Qe.z) hi),Option.bind_some,wr1 hi hn]
 have hx:=take_at (l:=a) (z:=Qe.z) hi
 cases hq:q (a.getD i Qe.z) with
 | true=>
  right
  exact ⟨i,by simp,.inr ⟨i,rfl,hi,hq,h⟩⟩
 | false=>
  left
  refine ⟨(),by simp,fun x hxm=>?_⟩
  rw [hx] at hxm
  rcases List.mem_append.1 hxm with hm | hm
  ·exact h x hm
  simp only [List.mem_singleton] at hm;rw [hm,<- hq]
theorem Qt7 (a:List Qe) (hn:a.length<=9223372036854775807) (p:Qe->Option Bool) (q:Qe->Bool) (hp:∀ x∈a,p x=some (q x)):Qa5 a p=some (a.any q):=by
 unfold Qa5
 obtain ⟨r,h1,h2⟩:=Wiy a hn p q hp
 rw [h1,Option.bind_some]
 congr 1
 rcases h2 with ⟨rfl,h⟩ | ⟨i,rfl,hi,hq,_⟩
 ·rw [Bool.eq_iff_iff]
  simp only [decide_eq_true_eq,List.any_eq_true]
  constructor
  ·intro h;omega
  rintro ⟨x,hx,hq⟩
  rw [h x hx] at hq
  cases hq
 rw [decide_eq_true (by omega)]
 symm
 rw [List.any_eq_true]
 exact ⟨_,Qeo hi,hq⟩
theorem Wiz (a:List Qn) (hn:a.length<=9223372036854775807) (p:Qn->Option Bool) (q:Qn->Bool) (hp:∀ x∈a,p x=some (q x)):∃ r,Zt a p=some r /\
  ((r=-1/\∀ x∈a,q x=false)\/∃ i:Nat,r=i/\i < a.length/\q (a.getD i Qn.z)=true/\∀ x∈a.take i,q x=false):=by
 unfold Zt
 refine Qbj (n:=a.length) (fun i (_:Unit)=>Zt.S.l1 (i:Int)) (fun i _=>∀ x∈a.take i,q x=false) _ ?_ ?_ 0 () (Nat.zero_le _) (by simp)
 ·intro _ h
  rw [Qbt (Nat.le_refl _)] at h
  exact ⟨-1,by simp [Zt.step,Zt.l1],.inl ⟨rfl,h⟩⟩
 intro i _ hi h
 have Yj:(0:Int)<=(i:Int)/\(i:Int) < (a.length:Int):=by omega
 have hg:a.getD (i:Int).toNat Qn.z=a.getD i Qn.z:=rfl
 simp only [Zt.step,Zt.l1,Yj.2,if_true,Yj,and_self,hg,hp _ (Qeo (z:=Qn.z) hi),Option.bind_some,wr1 hi hn]
 have hx:=take_at (l:=a) (z:=Qn.z) hi
 cases hq:q (a.getD i Qn.z) with
 | true=>
  right
  exact ⟨i,by simp,.inr ⟨i,rfl,hi,hq,h⟩⟩
 | false=>
  left
  refine ⟨(),by simp,fun x hxm=>?_⟩
  rw [hx] at hxm
  rcases List.mem_append.1 hxm with hm | hm
  ·exact h x hm
  simp only [List.mem_singleton] at hm;rw [hm,<- hq]
theorem Wbs (a:List Qn) (hn:a.length<=9223372036854775807) (p:Qn->Option Bool) (q:Qn->Bool) (hp:∀ x∈a,p x=some (q x)):Qck a p=some (a.any q):=by
 unfold Qck
 obtain ⟨r,h1,h2⟩:=Wiz a hn p q hp
 rw [h1,Option.bind_some]
 congr 1
 rcases h2 with ⟨rfl,h⟩ | ⟨i,rfl,hi,hq,_⟩
 ·rw [Bool.eq_iff_iff]
  simp only [decide_eq_true_eq,List.any_eq_true]
  constructor
  ·intro h;omega
  rintro ⟨x,hx,hq⟩
  rw [h x hx] at hq
  cases hq
 rw [decide_eq_true (by omega)]
 symm
 rw [List.any_eq_true]
 exact ⟨_,Qeo hi,hq⟩
structure Few (l:List Qe):Prop where
 len:l.length<=61
 prs:∀ e∈l,e.M.Pairs.length<=20
def okE (l:List Qe):Bool:=l.all fun e=>mOk e.M
theorem Ql4 (l:List Qe) (on:List Qb) (mark:Int) (hf:Few l) (ho:on.length<=5000) (hs:SOk on) (Jh:okE l=true):
  Xx (Yy.step l on mark) (.l1 0 [])=some (foldM on [] (Zi mark l))/\Tb (foldM on [] (Zi mark l))/\(foldM on [] (Zi mark l)).length<=8 * l.length:=by
 have hl:=hf.len
 have h:=Qge (step:=Yy.step l on mark) l Qe.z (fun i t=>Yy.S.l1 (i:Int) t) (Qp2 on mark) (fun i t=>Tb t/\t.length<=8 * i) (fun i t hi ⟨hb,hlen⟩=>by
  have Yj:(0:Int)<=(i:Int)/\(i:Int) < (l.length:Int):=by omega
  have hg:l.getD (i:Int).toNat Qe.z=l.getD i Qe.z:=rfl
  have hm:mOk (l.getD i Qe.z).M=true:=by
   have:=List.all_eq_true.1 Jh _ (Qeo (z:=Qe.z) hi)
   simpa using this
  simp only [Yy.step,Yy.l1,Yy.j2,Yy.j3,Yj.2,if_true,Yj,and_self,hg,decide_eq_true_eq,Bool.false_eq_true,if_false,wr1 hi (by omega:l.length<=9223372036854775807)]
  generalize l.getD i Qe.z=e at hm ⊢
  have a:=Qhr (on:=on) (t:=t) (m:=e.M) (by omega) ho hb hm hs
  have:=a.len
  unfold Qp2 Qmj
  by_cases hd:e.Qai=true
  ·rw [if_pos hd,hd,Bool.true_and]
   by_cases ht:e.Time<=mark
   ·rw [if_pos ht,decide_eq_true ht,if_pos rfl,a.run,Option.bind_some]
    exact ⟨rfl,a.tb,by omega⟩
   rw [if_neg ht,decide_eq_false ht,if_neg (by decide)]
   exact ⟨rfl,hb,by omega⟩
  rw [if_neg hd,if_neg (by simp [hd])]
  exact ⟨rfl,hb,by omega⟩) [] ⟨Tb.nil,by simp⟩
 rw [Qz4] at h
 refine ⟨?_,h.2.1,h.2.2⟩
 have e:=h.1
 simp only [Int.natCast_zero,show ((0:Nat):Int)=0 from rfl] at e
 rw [e,Ji]
 simp [Yy.step,Yy.l1,stk]
theorem Wfi (l:List Qe) (hf:Few l):Qa5 l (fun z0=>Qgg z0)=some (!okE l):=by
 rw [Qt7 l (by have:=hf.len;omega) _ (fun e=>!mOk e.M) (fun x hx=>by
  have:=hf.prs x hx
  unfold Qgg
  rw [Qfs _ (by omega),Option.bind_some])]
 unfold okE
 rw [List.not_all_eq_any_not]
theorem Qt1 {l:List Qe} {on:List Qb} (mark:Int) (hf:Few l) (ho:on.length<=5000) (hs:SOk on) (Jh:okE l=true):Yy l on mark=some (foldM on [] (Zi mark l)):=by
 obtain ⟨r,c1,c2⟩:=Qrb on ho
 unfold Yy
 rw [c1,Option.bind_some,if_pos (c2.2 hs),Wfi l hf,Option.bind_some,Jh]
 simp only [Bool.not_true,Yy.j1,Bool.false_eq_true,if_false]
 exact (Ql4 l on mark hf ho hs Jh).1
theorem Qig (l:List Qe) {i:Nat} (hi:i < l.length):(l.map trE).getD i Qg.z=trE (l.getD i Qe.z):=by
 simp [List.getD_eq_getElem?_getD,hi]
theorem Qx1 {l:List Qe} {on:List Qb} (mark:Int) (hf:Few l) (ho:on.length<=5000):
  (SOk on/\okE l=true->Qw (l.map trE) (on.map toR) mark=some ((foldM on [] (Zi mark l)).map tr))/\(¬ (SOk on/\okE l=true)->Qw (l.map trE) (on.map toR) mark=some []):=by
 have hl:=hf.len
 obtain ⟨r,c1,c2⟩:=Wgw on ho
 -- the first loop
 have first:(okE l=true->Xx (Qw.step (l.map trE) (on.map toR) mark) (.l1 0)=Xx (Qw.step (l.map trE) (on.map toR) mark) (.l2 [] 0))/\(okE l=false->Xx (Qw.step (l.map trE) (on.map toR) mark) (.l1 0)=some []):=by
  have step1:∀ i,i < l.length->Qw.step (l.map trE) (on.map toR) mark (.l1 (i:Int))=if mOk (l.getD i Qe.z).M=true then some (.inl (.l1 ((i+1:Nat):Int))) else some (.inr []):=fun i hi=>by
   have Yj:(0:Int)<=(i:Int)/\(i:Int) < (l.length:Int):=by omega
   have hp:=hf.prs _ (Qeo (z:=Qe.z) hi)
   simp only [Qw.step,Qw.l1,List.length_map,Yj.2,if_true,Yj,and_self,show (i:Int).toNat=i from rfl,Qig l hi,trE,Qjc _ (by omega:(l.getD i Qe.z).M.Pairs.length<=5000),Option.bind_some,wr1 hi (by omega:l.length<=9223372036854775807)]
  have go1:∀ i,i<=l.length->Xx (Qw.step (l.map trE) (on.map toR) mark) (.l1 (i:Int))=if okE (l.drop i)=true then Xx (Qw.step (l.map trE) (on.map toR) mark) (.l2 [] 0) else some []:=by
   intro i
   induction hk:l.length - i generalizing i with
   | zero=>
    intro hi
    obtain rfl:i=l.length:=by omega
    rw [List.drop_length,Ji]
    simp [Qw.step,Qw.l1,stk,okE]
   | succ m ih=>
    intro hi
    have hi':i < l.length:=by omega
    rw [Ji,step1 i hi',List.drop_eq_getElem_cons hi']
    have e:l[i]=l.getD i Qe.z:=by simp [hi']
    unfold okE
    rw [List.all_cons,e]
    by_cases h:mOk (l.getD i Qe.z).M=true
    ·rw [if_pos h,h,Bool.true_and]
     exact ih (i+1) (by omega) (by omega)
    rw [if_neg h,if_neg (by rw [Bool.and_eq_true];exact fun hh=>h hh.1)]
    rfl
  have:=go1 0 (Nat.zero_le _)
  rw [List.drop_zero,show ((0:Nat):Int)=0 from rfl] at this
  exact ⟨fun h=>by rw [this,if_pos h],fun h=>by rw [this,if_neg (by rw [h];decide)]⟩
 have e0:Qw (l.map trE) (on.map toR) mark=Xx (Qw.step (l.map trE) (on.map toR) mark) (.l1 0):=rfl
 refine ⟨fun ⟨hs,Jh⟩=>?_,fun h=>?_⟩
 ·rw [e0,first.1 Jh]
  have hr:=c2.2 hs
  have h:=Qge (step:=Qw.step (l.map trE) (on.map toR) mark) l Qe.z (fun i t=>Qw.S.l2 (t.map tr) (i:Int)) (Qp2 on mark) (fun i t=>Tb t/\t.length<=8 * i) (fun i t hi ⟨hb,hlen⟩=>by
   have Yj:(0:Int)<=(i:Int)/\(i:Int) < (l.length:Int):=by omega
   have hm:mOk (l.getD i Qe.z).M=true:=by
    have:=List.all_eq_true.1 Jh _ (Qeo (z:=Qe.z) hi)
    simpa using this
   simp only [Qw.step,Qw.l2,Qw.j1,Qw.j2,Qw.j3,List.length_map,Yj.2,if_true,c1,Option.bind_some,hr,Yj,and_self,show (i:Int).toNat=i from rfl,Qig l hi,decide_eq_true_eq,Bool.false_eq_true,if_false,wr1 hi (by omega:l.length<=9223372036854775807)]
   generalize l.getD i Qe.z=e at hm ⊢
   have a:=Qhr (on:=on) (t:=t) (m:=e.M) (by omega) ho hb hm hs
   have:=a.len
   unfold Qp2 Qmj
   have ar:Qu (t.map tr) (trE e).M (on.map toR)=_:=a.ref
   by_cases hd:e.Qai=true
   ·rw [if_pos (show (trE e).Qai=true from hd),hd,Bool.true_and]
    by_cases ht:e.Time<=mark
    ·rw [if_pos (show (trE e).Time<=mark from ht),decide_eq_true ht,if_pos rfl,ar,Option.bind_some]
     exact ⟨rfl,a.tb,by omega⟩
    rw [if_neg (show ¬ (trE e).Time<=mark from ht),decide_eq_false ht,if_neg (by decide)]
    exact ⟨rfl,hb,by omega⟩
   rw [if_neg (show ¬ (trE e).Qai=true from hd),if_neg (by simp [hd])]
   exact ⟨rfl,hb,by omega⟩) [] ⟨Tb.nil,by simp⟩
  rw [Qz4] at h
  have e:=h.1
  simp only [List.map_nil,show ((0:Nat):Int)=0 from rfl] at e
  rw [e,Ji]
  simp [Qw.step,Qw.l2,Qw.j1,stk]
 rw [e0]
 cases Jh:okE l with
 | false=>exact first.2 Jh
 | true=>
  have hr:r=false:=by
   cases hr:r with
   | false=>rfl
   | true=>exact absurd ⟨c2.1 hr,Jh⟩ h
  rw [first.1 Jh,Ji]
  simp only [Qw.step,Qw.l2,List.length_map,c1,Option.bind_some,hr]
  split<;>simp [Qw.j1,stk]
end Go.SyP
namespace Go.SyP
open Go Go.Sy Sets
def okM (l:List Qn):Bool:=l.all mOk
theorem Wga (l:List Qn) (hl:l.length<=5000) (hp:∀ m∈l,m.Pairs.length<=20):Qck l (fun z0=>Qgh z0)=some (!okM l):=by
 rw [Wbs l (by omega) _ (fun e=>!mOk e) (fun x hx=>by
  have:=hp x hx
  unfold Qgh
  try simp only [show (⟨x.Client,x.Seq,x.Kind,x.Pairs,(⟨x.Over.Lo,x.Over.Hi⟩:Qb),x.Old⟩:Qn)=x from rfl]
  rw [Qfs _ (by omega),Option.bind_some])]
 unfold okM
 rw [List.not_all_eq_any_not]
theorem Wbc {on:List Qb} {base:List Qa} {l:List Qn} (hl:base.length+8 * l.length<=1000) (ho:on.length<=5000) (ht:Tb base) (hs:SOk on) (Jh:okM l=true):
  Xx (Jj.step l on) (.l1 0 base)=some (foldM on base l):=by
 have h:=Qge (step:=Jj.step l on) l Qn.z (fun i t=>Jj.S.l1 (i:Int) t) (fun t m=>(apD on t m).1) (fun i t=>Tb t/\t.length<=base.length+8 * i) (fun i t hi ⟨hb,hlen⟩=>by
  have Yj:(0:Int)<=(i:Int)/\(i:Int) < (l.length:Int):=by omega
  have hg:l.getD (i:Int).toNat Qn.z=l.getD i Qn.z:=rfl
  have hm:mOk (l.getD i Qn.z)=true:=List.all_eq_true.1 Jh _ (Qeo (z:=Qn.z) hi)
  simp only [Jj.step,Jj.l1,Yj.2,if_true,Yj,and_self,hg,wr1 hi (by omega:l.length<=9223372036854775807)]
  generalize l.getD i Qn.z=m at hm ⊢
  have a:=Qhr (on:=on) (t:=t) (m:=m) (by omega) ho hb hm hs
  have:=a.len
  rw [a.run,Option.bind_some]
  exact ⟨rfl,a.tb,by omega⟩) base ⟨ht,by simp⟩
 have e:=h.1
 simp only [show ((0:Nat):Int)=0 from rfl] at e
 rw [e,Ji]
 simp [Jj.step,Jj.l1,stk,foldM]
theorem Wbb {on:List Qb} {base:List Qa} {l:List Qn} (hl:base.length+8 * l.length<=1000) (hp:∀ m∈l,m.Pairs.length<=20) (ho:on.length<=5000) (ht:Tb base) (hs:SOk on) (Jh:okM l=true):
  Jj base l on=some (foldM on base l):=by
 obtain ⟨r,c1,c2⟩:=Qjx base (by omega)
 obtain ⟨s,c3,c4⟩:=Qrb on ho
 unfold Jj
 rw [c1,Option.bind_some,if_pos (c2.2 ht),c3,Option.bind_some,if_pos (c4.2 hs),Wga l (by omega) hp,Option.bind_some,Jh]
 unfold Jj.j1
 rw [if_neg (by decide),if_pos (by omega)]
 exact Wbc hl ho ht hs Jh
end Go.SyP
