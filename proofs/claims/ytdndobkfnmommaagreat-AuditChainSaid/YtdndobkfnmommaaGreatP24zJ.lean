/- What entries make up: the plain folds. -/
import Derived.Test.YtdndobkfnmommaaGreatP24zF
set_option linter.unusedVariables false
set_option linter.unusedSimpArgs false
namespace Go.SyP
open Go Go.Sy Sets
theorem Qhh {σ ρ α β:Type} {step:σ->Option (σ ⊕ ρ)} (l:List α) (z:α) (st:Nat->β->σ) (f:β->α->β) (I:Nat->β->Prop)
  (Ye:∀ i x,i < l.length->I i x->step (st i x)=some (.inl (st (i+1) (f x (l.getD i z))))/\I (i+1) (f x (l.getD i z))) (x:β) (h0:I 0 x):
  Yb step (st 0 x)=Yb step (st l.length (l.foldl f x))/\I l.length (l.foldl f x):=by
 have key:∀ m i x,i+m=l.length->I i x->Yb step (st i x)=Yb step (st l.length ((l.drop i).foldl f x))/\I l.length ((l.drop i).foldl f x):=by
  intro m
  induction m with
  | zero=>
   intro i x hi hI
   obtain rfl:i=l.length:=by omega
   rw [List.drop_length]
   exact ⟨rfl,hI⟩
  | succ m ih=>
   intro i x hi hI
   have hi':i < l.length:=by omega
   obtain ⟨h1,h2⟩:=Ye i x hi' hI
   obtain ⟨h3,h4⟩:=ih (i+1) _ (by omega) h2
   rw [List.drop_eq_getElem_cons hi',List.foldl_cons,show l[i]=l.getD i z by simp [hi']]
   exact ⟨by rw [Qau,h1];exact h3,h4⟩
 have:=key l.length 0 x (by omega) h0
 simpa using this
theorem Qd0 {α:Type} {l:List α} {i:Nat} {z:α} (h:i < l.length):l.getD i z∈l:=by
 simp [List.getD_eq_getElem?_getD,h]
theorem Qpx {x:Qb} (h:Ok (pa x)):SOk [x]:=⟨⟨fun y hy=>by simp at hy;subst hy;exact h,by simp⟩,by simp⟩
theorem Qnw {x:Qb} (h:Ok (pa x)) (k:Int):hasB [x] k=(decide (x.Lo<=k) && decide (k < x.Hi)):=by
 unfold hasB
 simp only [List.map_cons,List.map_nil,List.any_cons,List.any_nil,decide_eq_true h,Bool.true_and,Bool.or_false]
 rfl
noncomputable def apD (on:List Qb) (t:List Qa) (m:Ql):List Qa × Bool:=(Wm t m on).getD ([],false)
structure ApD (on:List Qb) (t:List Qa) (m:Ql):Prop where
 run:Wm t m on=some (apD on t m)
 to:Qgl t m on (apD on t m)
 tb:Tb (apD on t m).1
 len:(apD on t m).1.length<=t.length+8
 ref:Qt (t.map tr) (trM m) (on.map toR)=some ((apD on t m).1.map tr,(apD on t m).2)
theorem Qf8 {on:List Qb} {t:List Qa} {m:Ql} (hl:t.length<=1000) (ho:on.length<=5000) (ht:Tb t) (hm:mOk m=true) (hs:SOk on):ApD on t m:=by
 have hp:=(Qn7 hm).len
 obtain ⟨r,q1,q2,q3,q4⟩:=Qtq t m on hl (by omega) ho ht hm hs
 obtain ⟨s,q5,q6⟩:=Qw8 t m on hl (by omega) ho ht hm hs
 have e:apD on t m=r:=by unfold apD;rw [q1];rfl
 have e2:=q2.unique q6
 subst e2
 exact ⟨by rw [e];exact q1,by rw [e];exact q2,by rw [e];exact q3,by rw [e];exact q4,by rw [e];exact q5⟩
theorem Wib {on:List Qb} {t:List Qa} {m:Ql} {r:List Qa × Bool} (hl:t.length<=1000) (ho:on.length<=5000) (ht:Tb t) (hm:mOk m=true) (hs:SOk on) (h:Qgl t m on r):apD on t m=r:=
 (Qf8 hl ho ht hm hs).to.unique h
noncomputable def foldM (on:List Qb) (t:List Qa) (ms:List Ql):List Qa:=ms.foldl (fun t m=>(apD on t m).1) t
theorem Qnv {on:List Qb} (ho:on.length<=5000) (hs:SOk on):∀ {ms:List Ql} {t:List Qa},Tb t->(∀ m∈ms,mOk m=true)->t.length+8 * ms.length<=1000->Tb (foldM on t ms)/\(foldM on t ms).length<=t.length+8 * ms.length
 | [],t,ht,_,_=>⟨ht,by simp [foldM]⟩
 | m :: ms,t,ht,hm,hl=>by
  simp only [List.length_cons] at hl
  have a:=Qf8 (on:=on) (t:=t) (m:=m) (by omega) ho ht (hm m (List.mem_cons_self ..)) hs
  have b:=Qnv ho hs (ms:=ms) a.tb (fun x hx=>hm x (List.mem_cons_of_mem _ hx)) (by have:=a.len;omega)
  have e:foldM on t (m :: ms)=foldM on (apD on t m).1 ms:=rfl
  rw [e]
  refine ⟨b.1, ?_⟩
  have:=a.len
  have:=b.2
  simp only [List.length_cons]
  omega
def trE (e:Qd):Qe:=⟨trM e.M,e.Time,e.Jt⟩
def Qn0 (mark:Int) (e:Qd):Bool:=e.Jt && decide (e.Time<=mark)
def Yx (mark:Int) (l:List Qd):List Ql:=(l.filter (Qn0 mark)).map (·.M)
noncomputable def Qqa (on:List Qb) (mark:Int) (t:List Qa) (e:Qd):List Qa:=if Qn0 mark e=true then (apD on t e.M).1 else t
theorem Qz9 (on:List Qb) (mark:Int):∀ (l:List Qd) (t:List Qa),l.foldl (Qqa on mark) t=foldM on t (Yx mark l)
 | [],_=>rfl
 | e :: l,t=>by
  rw [List.foldl_cons,Qz9 on mark l]
  unfold Qqa Yx
  rw [List.filter_cons]
  by_cases h:Qn0 mark e=true
  ·rw [if_pos h,if_pos h];rfl
  rw [if_neg h,if_neg h]
theorem Win (a:List Qd) (hn:a.length<=9223372036854775807) (p:Qd->Option Bool) (q:Qd->Bool) (hp:∀ x∈a,p x=some (q x)):∃ r,Zg a p=some r /\
  ((r=-1/\∀ x∈a,q x=false)\/∃ i:Nat,r=i/\i < a.length/\q (a.getD i Qd.z)=true/\∀ x∈a.take i,q x=false):=by
 unfold Zg
 refine Qbi (n:=a.length) (fun i (_:Unit)=>Zg.S.l1 (i:Int)) (fun i _=>∀ x∈a.take i,q x=false) _ ?_ ?_ 0 () (Nat.zero_le _) (by simp)
 ·intro _ h
  rw [Qbp (Nat.le_refl _)] at h
  exact ⟨-1,by simp [Zg.step,Zg.l1],.inl ⟨rfl,h⟩⟩
 intro i _ hi h
 have Ye:(0:Int)<=(i:Int)/\(i:Int) < (a.length:Int):=by omega
 have hg:a.getD (i:Int).toNat Qd.z=a.getD i Qd.z:=rfl
 simp only [Zg.step,Zg.l1,Ye.2,if_true,Ye,and_self,hg,hp _ (Qd0 (z:=Qd.z) hi),Option.bind_some,wr1 hi hn]
 have hx:=take_at (l:=a) (z:=Qd.z) hi
 cases hq:q (a.getD i Qd.z) with
 | true=>
  right
  exact ⟨i,by simp,.inr ⟨i,rfl,hi,hq,h⟩⟩
 | false=>
  left
  refine ⟨(),by simp,fun x hxm=>?_⟩
  rw [hx] at hxm
  rcases List.mem_append.1 hxm with hm | hm
  ·exact h x hm
  simp only [List.mem_singleton] at hm;rw [hm,<- hq]
theorem Qt5 (a:List Qd) (hn:a.length<=9223372036854775807) (p:Qd->Option Bool) (q:Qd->Bool) (hp:∀ x∈a,p x=some (q x)):Qay a p=some (a.any q):=by
 unfold Qay
 obtain ⟨r,h1,h2⟩:=Win a hn p q hp
 rw [h1,Option.bind_some]
 congr 1
 rcases h2 with ⟨rfl,h⟩ | ⟨i,rfl,hi,hq,_⟩
 ·rw [Bool.eq_iff_iff]
  simp only [decide_eq_true_eq,List.any_eq_true]
  constructor
  ·intro h;omega
  rintro ⟨x,hx,hq⟩
  rw [h x hx] at hq
  cases hq
 rw [decide_eq_true (by omega)]
 symm
 rw [List.any_eq_true]
 exact ⟨_,Qd0 hi,hq⟩
theorem Wio (a:List Ql) (hn:a.length<=9223372036854775807) (p:Ql->Option Bool) (q:Ql->Bool) (hp:∀ x∈a,p x=some (q x)):∃ r,Zn a p=some r /\
  ((r=-1/\∀ x∈a,q x=false)\/∃ i:Nat,r=i/\i < a.length/\q (a.getD i Ql.z)=true/\∀ x∈a.take i,q x=false):=by
 unfold Zn
 refine Qbi (n:=a.length) (fun i (_:Unit)=>Zn.S.l1 (i:Int)) (fun i _=>∀ x∈a.take i,q x=false) _ ?_ ?_ 0 () (Nat.zero_le _) (by simp)
 ·intro _ h
  rw [Qbp (Nat.le_refl _)] at h
  exact ⟨-1,by simp [Zn.step,Zn.l1],.inl ⟨rfl,h⟩⟩
 intro i _ hi h
 have Ye:(0:Int)<=(i:Int)/\(i:Int) < (a.length:Int):=by omega
 have hg:a.getD (i:Int).toNat Ql.z=a.getD i Ql.z:=rfl
 simp only [Zn.step,Zn.l1,Ye.2,if_true,Ye,and_self,hg,hp _ (Qd0 (z:=Ql.z) hi),Option.bind_some,wr1 hi hn]
 have hx:=take_at (l:=a) (z:=Ql.z) hi
 cases hq:q (a.getD i Ql.z) with
 | true=>
  right
  exact ⟨i,by simp,.inr ⟨i,rfl,hi,hq,h⟩⟩
 | false=>
  left
  refine ⟨(),by simp,fun x hxm=>?_⟩
  rw [hx] at hxm
  rcases List.mem_append.1 hxm with hm | hm
  ·exact h x hm
  simp only [List.mem_singleton] at hm;rw [hm,<- hq]
theorem Wbs (a:List Ql) (hn:a.length<=9223372036854775807) (p:Ql->Option Bool) (q:Ql->Bool) (hp:∀ x∈a,p x=some (q x)):Qb7 a p=some (a.any q):=by
 unfold Qb7
 obtain ⟨r,h1,h2⟩:=Wio a hn p q hp
 rw [h1,Option.bind_some]
 congr 1
 rcases h2 with ⟨rfl,h⟩ | ⟨i,rfl,hi,hq,_⟩
 ·rw [Bool.eq_iff_iff]
  simp only [decide_eq_true_eq,List.any_eq_true]
  constructor
  ·intro h;omega
  rintro ⟨x,hx,hq⟩
  rw [h x hx] at hq
  cases hq
 rw [decide_eq_true (by omega)]
 symm
 rw [List.any_eq_true]
 exact ⟨_,Qd0 hi,hq⟩
structure Few (l:List Qd):Prop where
 len:l.length<=61
 prs:∀ e∈l,e.M.Pairs.length<=20
def okE (l:List Qd):Bool:=l.all fun e=>mOk e.M
theorem Qme (l:List Qd) (on:List Qb) (mark:Int) (hf:Few l) (ho:on.length<=5000) (hs:SOk on) (Jg:okE l=true):
  Yb (Yp.step l on mark) (.l1 0 [])=some (foldM on [] (Yx mark l))/\Tb (foldM on [] (Yx mark l))/\(foldM on [] (Yx mark l)).length<=8 * l.length:=by
 have hl:=hf.len
 have h:=Qhh (step:=Yp.step l on mark) l Qd.z (fun i t=>Yp.S.l1 (i:Int) t) (Qqa on mark) (fun i t=>Tb t/\t.length<=8 * i) (fun i t hi ⟨hb,hlen⟩=>by
  have Ye:(0:Int)<=(i:Int)/\(i:Int) < (l.length:Int):=by omega
  have hg:l.getD (i:Int).toNat Qd.z=l.getD i Qd.z:=rfl
  have hm:mOk (l.getD i Qd.z).M=true:=by
   have:=List.all_eq_true.1 Jg _ (Qd0 (z:=Qd.z) hi)
   simpa using this
  simp only [Yp.step,Yp.l1,Yp.j2,Yp.j3,Ye.2,if_true,Ye,and_self,hg,decide_eq_true_eq,Bool.false_eq_true,if_false,wr1 hi (by omega:l.length<=9223372036854775807)]
  generalize l.getD i Qd.z=e at hm ⊢
  have a:=Qf8 (on:=on) (t:=t) (m:=e.M) (by omega) ho hb hm hs
  have:=a.len
  unfold Qqa Qn0
  by_cases hd:e.Jt=true
  ·rw [if_pos hd,hd,Bool.true_and]
   by_cases ht:e.Time<=mark
   ·rw [if_pos ht,decide_eq_true ht,if_pos rfl,a.run,Option.bind_some]
    exact ⟨rfl,a.tb,by omega⟩
   rw [if_neg ht,decide_eq_false ht,if_neg (by decide)]
   exact ⟨rfl,hb,by omega⟩
  rw [if_neg hd,if_neg (by simp [hd])]
  exact ⟨rfl,hb,by omega⟩) [] ⟨Tb.nil,by simp⟩
 rw [Qz9] at h
 refine ⟨?_,h.2.1,h.2.2⟩
 have e:=h.1
 simp only [Int.natCast_zero,show ((0:Nat):Int)=0 from rfl] at e
 rw [e,Qau]
 simp [Yp.step,Yp.l1,stk]
theorem Wfg (l:List Qd) (hf:Few l):Qay l (fun z0=>Qga z0)=some (!okE l):=by
 rw [Qt5 l (by have:=hf.len;omega) _ (fun e=>!mOk e.M) (fun x hx=>by
  have:=hf.prs x hx
  unfold Qga
  rw [Qfj _ (by omega),Option.bind_some])]
 unfold okE
 rw [List.not_all_eq_any_not]
theorem Qtz {l:List Qd} {on:List Qb} (mark:Int) (hf:Few l) (ho:on.length<=5000) (hs:SOk on) (Jg:okE l=true):Yp l on mark=some (foldM on [] (Yx mark l)):=by
 obtain ⟨r,c1,c2⟩:=Qzg on ho
 unfold Yp
 rw [c1,Option.bind_some,if_pos (c2.2 hs),Wfg l hf,Option.bind_some,Jg]
 simp only [Bool.not_true,Yp.j1,Bool.false_eq_true,if_false]
 exact (Qme l on mark hf ho hs Jg).1
theorem Qpr (l:List Qd) {i:Nat} (hi:i < l.length):(l.map trE).getD i Qe.z=trE (l.getD i Qd.z):=by
 simp [List.getD_eq_getElem?_getD,hi]
theorem Qx4 {l:List Qd} {on:List Qb} (mark:Int) (hf:Few l) (ho:on.length<=5000):
  (SOk on/\okE l=true->Qu (l.map trE) (on.map toR) mark=some ((foldM on [] (Yx mark l)).map tr))/\(¬ (SOk on/\okE l=true)->Qu (l.map trE) (on.map toR) mark=some []):=by
 have hl:=hf.len
 obtain ⟨r,c1,c2⟩:=Qzh on ho
 -- the first loop
 have first:(okE l=true->Yb (Qu.step (l.map trE) (on.map toR) mark) (.l1 0)=Yb (Qu.step (l.map trE) (on.map toR) mark) (.l2 [] 0))/\(okE l=false->Yb (Qu.step (l.map trE) (on.map toR) mark) (.l1 0)=some []):=by
  have step1:∀ i,i < l.length->Qu.step (l.map trE) (on.map toR) mark (.l1 (i:Int))=if mOk (l.getD i Qd.z).M=true then some (.inl (.l1 ((i+1:Nat):Int))) else some (.inr []):=fun i hi=>by
   have Ye:(0:Int)<=(i:Int)/\(i:Int) < (l.length:Int):=by omega
   have hp:=hf.prs _ (Qd0 (z:=Qd.z) hi)
   simp only [Qu.step,Qu.l1,List.length_map,Ye.2,if_true,Ye,and_self,show (i:Int).toNat=i from rfl,Qpr l hi,trE,Qh2 _ (by omega:(l.getD i Qd.z).M.Pairs.length<=5000),Option.bind_some,wr1 hi (by omega:l.length<=9223372036854775807)]
  have go1:∀ i,i<=l.length->Yb (Qu.step (l.map trE) (on.map toR) mark) (.l1 (i:Int))=if okE (l.drop i)=true then Yb (Qu.step (l.map trE) (on.map toR) mark) (.l2 [] 0) else some []:=by
   intro i
   induction hk:l.length - i generalizing i with
   | zero=>
    intro hi
    obtain rfl:i=l.length:=by omega
    rw [List.drop_length,Qau]
    simp [Qu.step,Qu.l1,stk,okE]
   | succ m ih=>
    intro hi
    have hi':i < l.length:=by omega
    rw [Qau,step1 i hi',List.drop_eq_getElem_cons hi']
    have e:l[i]=l.getD i Qd.z:=by simp [hi']
    unfold okE
    rw [List.all_cons,e]
    by_cases h:mOk (l.getD i Qd.z).M=true
    ·rw [if_pos h,h,Bool.true_and]
     exact ih (i+1) (by omega) (by omega)
    rw [if_neg h,if_neg (by rw [Bool.and_eq_true];exact fun hh=>h hh.1)]
    rfl
  have:=go1 0 (Nat.zero_le _)
  rw [List.drop_zero,show ((0:Nat):Int)=0 from rfl] at this
  exact ⟨fun h=>by rw [this,if_pos h],fun h=>by rw [this,if_neg (by rw [h];decide)]⟩
 have e0:Qu (l.map trE) (on.map toR) mark=Yb (Qu.step (l.map trE) (on.map toR) mark) (.l1 0):=rfl
 refine ⟨fun ⟨hs,Jg⟩=>?_,fun h=>?_⟩
 ·rw [e0,first.1 Jg]
  have hr:=c2.2 hs
  have h:=Qhh (step:=Qu.step (l.map trE) (on.map toR) mark) l Qd.z (fun i t=>Qu.S.l2 (t.map tr) (i:Int)) (Qqa on mark) (fun i t=>Tb t/\t.length<=8 * i) (fun i t hi ⟨hb,hlen⟩=>by
   have Ye:(0:Int)<=(i:Int)/\(i:Int) < (l.length:Int):=by omega
   have hm:mOk (l.getD i Qd.z).M=true:=by
    have:=List.all_eq_true.1 Jg _ (Qd0 (z:=Qd.z) hi)
    simpa using this
   simp only [Qu.step,Qu.l2,Qu.j1,Qu.j2,Qu.j3,List.length_map,Ye.2,if_true,c1,Option.bind_some,hr,Ye,and_self,show (i:Int).toNat=i from rfl,Qpr l hi,decide_eq_true_eq,Bool.false_eq_true,if_false,wr1 hi (by omega:l.length<=9223372036854775807)]
   generalize l.getD i Qd.z=e at hm ⊢
   have a:=Qf8 (on:=on) (t:=t) (m:=e.M) (by omega) ho hb hm hs
   have:=a.len
   unfold Qqa Qn0
   have ar:Qt (t.map tr) (trE e).M (on.map toR)=_:=a.ref
   by_cases hd:e.Jt=true
   ·rw [if_pos (show (trE e).Jt=true from hd),hd,Bool.true_and]
    by_cases ht:e.Time<=mark
    ·rw [if_pos (show (trE e).Time<=mark from ht),decide_eq_true ht,if_pos rfl,ar,Option.bind_some]
     exact ⟨rfl,a.tb,by omega⟩
    rw [if_neg (show ¬ (trE e).Time<=mark from ht),decide_eq_false ht,if_neg (by decide)]
    exact ⟨rfl,hb,by omega⟩
   rw [if_neg (show ¬ (trE e).Jt=true from hd),if_neg (by simp [hd])]
   exact ⟨rfl,hb,by omega⟩) [] ⟨Tb.nil,by simp⟩
  rw [Qz9] at h
  have e:=h.1
  simp only [List.map_nil,show ((0:Nat):Int)=0 from rfl] at e
  rw [e,Qau]
  simp [Qu.step,Qu.l2,Qu.j1,stk]
 rw [e0]
 cases Jg:okE l with
 | false=>exact first.2 Jg
 | true=>
  have hr:r=false:=by
   cases hr:r with
   | false=>rfl
   | true=>exact absurd ⟨c2.1 hr,Jg⟩ h
  rw [first.1 Jg,Qau]
  simp only [Qu.step,Qu.l2,List.length_map,c1,Option.bind_some,hr]
  split<;>simp [Qu.j1,stk]
end Go.SyP
namespace Go.SyP
open Go Go.Sy Sets
def okM (l:List Ql):Bool:=l.all mOk
theorem Wf5 (l:List Ql) (hl:l.length<=5000) (hp:∀ m∈l,m.Pairs.length<=20):Qb7 l (fun z0=>Qgb z0)=some (!okM l):=by
 rw [Wbs l (by omega) _ (fun e=>!mOk e) (fun x hx=>by
  have:=hp x hx
  unfold Qgb
  try simp only [show (⟨x.Client,x.Seq,x.Kind,x.Pairs,(⟨x.Over.Lo,x.Over.Hi⟩:Qb),x.Old⟩:Ql)=x from rfl]
  rw [Qfj _ (by omega),Option.bind_some])]
 unfold okM
 rw [List.not_all_eq_any_not]
theorem Wbc {on:List Qb} {base:List Qa} {l:List Ql} (hl:base.length+8 * l.length<=1000) (ho:on.length<=5000) (ht:Tb base) (hs:SOk on) (Jg:okM l=true):
  Yb (Jb.step l on) (.l1 0 base)=some (foldM on base l):=by
 have h:=Qhh (step:=Jb.step l on) l Ql.z (fun i t=>Jb.S.l1 (i:Int) t) (fun t m=>(apD on t m).1) (fun i t=>Tb t/\t.length<=base.length+8 * i) (fun i t hi ⟨hb,hlen⟩=>by
  have Ye:(0:Int)<=(i:Int)/\(i:Int) < (l.length:Int):=by omega
  have hg:l.getD (i:Int).toNat Ql.z=l.getD i Ql.z:=rfl
  have hm:mOk (l.getD i Ql.z)=true:=List.all_eq_true.1 Jg _ (Qd0 (z:=Ql.z) hi)
  simp only [Jb.step,Jb.l1,Ye.2,if_true,Ye,and_self,hg,wr1 hi (by omega:l.length<=9223372036854775807)]
  generalize l.getD i Ql.z=m at hm ⊢
  have a:=Qf8 (on:=on) (t:=t) (m:=m) (by omega) ho hb hm hs
  have:=a.len
  rw [a.run,Option.bind_some]
  exact ⟨rfl,a.tb,by omega⟩) base ⟨ht,by simp⟩
 have e:=h.1
 simp only [show ((0:Nat):Int)=0 from rfl] at e
 rw [e,Qau]
 simp [Jb.step,Jb.l1,stk,foldM]
theorem Wbb {on:List Qb} {base:List Qa} {l:List Ql} (hl:base.length+8 * l.length<=1000) (hp:∀ m∈l,m.Pairs.length<=20) (ho:on.length<=5000) (ht:Tb base) (hs:SOk on) (Jg:okM l=true):
  Jb base l on=some (foldM on base l):=by
 obtain ⟨r,c1,c2⟩:=Qj4 base (by omega)
 obtain ⟨s,c3,c4⟩:=Qzg on ho
 unfold Jb
 rw [c1,Option.bind_some,if_pos (c2.2 ht),c3,Option.bind_some,if_pos (c4.2 hs),Wf5 l (by omega) hp,Option.bind_some,Jg]
 unfold Jb.j1
 rw [if_neg (by decide),if_pos (by omega)]
 exact Wbc hl ho ht hs Jg
theorem Qs4 (l:List Ql) {i:Nat} (hi:i < l.length):(l.map trM).getD i Qk.z=trM (l.getD i Ql.z):=by
 simp [List.getD_eq_getElem?_getD,hi]
theorem Qtn (base:List Qc) {l:List Ql} (on:List Qi) (hl:l.length<=5000) (hp:∀ m∈l,m.Pairs.length<=20):
  Yb (Xi.step base (l.map trM) on) (.l1 0)=if okM l=true then Yb (Xi.step base (l.map trM) on) (.l2 base 0) else some []:=by
 have step1:∀ i,i < l.length->Xi.step base (l.map trM) on (.l1 (i:Int))=if mOk (l.getD i Ql.z)=true then some (.inl (.l1 ((i+1:Nat):Int))) else some (.inr []):=fun i hi=>by
  have Ye:(0:Int)<=(i:Int)/\(i:Int) < (l.length:Int):=by omega
  have hp:=hp _ (Qd0 (z:=Ql.z) hi)
  simp only [Xi.step,Xi.l1,List.length_map,Ye.2,if_true,Ye,and_self,show (i:Int).toNat=i from rfl,Qs4 l hi,Qh2 _ (by omega:(l.getD i Ql.z).Pairs.length<=5000),Option.bind_some,wr1 hi (by omega:l.length<=9223372036854775807)]
 have go1:∀ i,i<=l.length->Yb (Xi.step base (l.map trM) on) (.l1 (i:Int))=if okM (l.drop i)=true then Yb (Xi.step base (l.map trM) on) (.l2 base 0) else some []:=by
  intro i
  induction hk:l.length - i generalizing i with
  | zero=>
   intro hi
   obtain rfl:i=l.length:=by omega
   rw [List.drop_length,Qau]
   simp [Xi.step,Xi.l1,stk,okM]
  | succ m ih=>
   intro hi
   have hi':i < l.length:=by omega
   rw [Qau,step1 i hi',List.drop_eq_getElem_cons hi']
   have e:l[i]=l.getD i Ql.z:=by simp [hi']
   unfold okM
   rw [List.all_cons,e]
   by_cases h:mOk (l.getD i Ql.z)=true
   ·rw [if_pos h,h,Bool.true_and]
    exact ih (i+1) (by omega) (by omega)
   rw [if_neg h,if_neg (by rw [Bool.and_eq_true];exact fun hh=>h hh.1)]
   rfl
 have:=go1 0 (Nat.zero_le _)
 rwa [List.drop_zero,show ((0:Nat):Int)=0 from rfl] at this
theorem Qu9 {on:List Qb} {base:List Qa} {l:List Ql} (hl:base.length+8 * l.length<=1000) (hp:∀ m∈l,m.Pairs.length<=20) (ho:on.length<=5000) (ht:Tb base) (hs:SOk on) (Jg:okM l=true):
  Xi (base.map tr) (l.map trM) (on.map toR)=some ((foldM on base l).map tr):=by
 obtain ⟨r,c1,c2⟩:=Qok base (by omega)
 obtain ⟨s,c3,c4⟩:=Qzh on ho
 unfold Xi
 rw [c1,Option.bind_some,if_pos (c2.2 ht),c3,Option.bind_some,c4.2 hs]
 unfold Xi.j1
 rw [if_neg (by decide),Qtn _ _ (by omega) hp,if_pos Jg]
 have h:=Qhh (step:=Xi.step (base.map tr) (l.map trM) (on.map toR)) l Ql.z (fun i t=>Xi.S.l2 (t.map tr) (i:Int)) (fun t m=>(apD on t m).1) (fun i t=>Tb t/\t.length<=base.length+8 * i) (fun i t hi ⟨hb,hlen⟩=>by
  have Ye:(0:Int)<=(i:Int)/\(i:Int) < (l.length:Int):=by omega
  have hm:mOk (l.getD i Ql.z)=true:=List.all_eq_true.1 Jg _ (Qd0 (z:=Ql.z) hi)
  simp only [Xi.step,Xi.l2,List.length_map,Ye.2,if_true,Ye,and_self,show (i:Int).toNat=i from rfl,Qs4 l hi,wr1 hi (by omega:l.length<=9223372036854775807)]
  generalize l.getD i Ql.z=m at hm ⊢
  have a:=Qf8 (on:=on) (t:=t) (m:=m) (by omega) ho hb hm hs
  have:=a.len
  rw [a.ref,Option.bind_some]
  exact ⟨rfl,a.tb,by omega⟩) base ⟨ht,by simp⟩
 have e:=h.1
 simp only [show ((0:Nat):Int)=0 from rfl] at e
 rw [e,Qau]
 simp [Xi.step,Xi.l2,stk,foldM]
end Go.SyP
