/- What entries make up: the plain folds. -/
import Derived.Test.YtdndobkfnmommaaP24F
set_option linter.unusedVariables false
set_option linter.unusedSimpArgs false
namespace Go.SyP
open Go Go.Sy Sets

theorem for_fold {σ ρ α β:Type} {step:σ→Option (σ ⊕ ρ)} (l:List α) (z:α) (st:Nat→β→σ) (f:β→α→β) (I:Nat→β→Prop)
  (hstep:∀ i x,i < l.length→I i x→step (st i x)=some (.inl (st (i+1) (f x (l.getD i z))))∧I (i+1) (f x (l.getD i z))) (x:β) (h0:I 0 x):
  goLoop step (st 0 x)=goLoop step (st l.length (l.foldl f x))∧I l.length (l.foldl f x):=by
 have key:∀ m i x,i+m=l.length→I i x→goLoop step (st i x)=goLoop step (st l.length ((l.drop i).foldl f x))∧I l.length ((l.drop i).foldl f x):=by
  intro m
  induction m with
  | zero=>
   intro i x hi hI
   obtain rfl:i=l.length:=by omega
   rw [List.drop_length]
   exact ⟨rfl,hI⟩
  | succ m ih=>
   intro i x hi hI
   have hi':i < l.length:=by omega
   obtain ⟨h1,h2⟩:=hstep i x hi' hI
   obtain ⟨h3,h4⟩:=ih (i+1) _ (by omega) h2
   rw [List.drop_eq_getElem_cons hi',List.foldl_cons,show l[i]=l.getD i z by simp [hi']]
   exact ⟨by rw [loop_eq,h1];exact h3,h4⟩
 have:=key l.length 0 x (by omega) h0
 simpa using this
theorem getD_in {α:Type} {l:List α} {i:Nat} {z:α} (h:i < l.length):l.getD i z∈l:=by
 simp [List.getD_eq_getElem?_getD,h]

theorem SOk_one {x:api_Span} (h:Ok (pa x)):SOk [x]:=⟨⟨fun y hy=>by simp at hy;subst hy;exact h,by simp⟩,by simp⟩
theorem hasB_one {x:api_Span} (h:Ok (pa x)) (k:Int):hasB [x] k=(decide (x.Lo≤k) && decide (k < x.Hi)):=by
 unfold hasB
 simp only [List.map_cons,List.map_nil,List.any_cons,List.any_nil,decide_eq_true h,Bool.true_and,Bool.or_false]
 rfl

noncomputable def apD (on:List api_Span) (t:List api_Pair) (m:api_Mut):List api_Pair × Bool:=(table_Apply t m on).getD ([],false)
structure ApD (on:List api_Span) (t:List api_Pair) (m:api_Mut):Prop where
 run:table_Apply t m on=some (apD on t m)
 to:ApplyTo t m on (apD on t m)
 tb:Tb (apD on t m).1
 len:(apD on t m).1.length≤t.length+8
 ref:spliceref05_Apply (t.map tr) (trM m) (on.map toR)=some ((apD on t m).1.map tr,(apD on t m).2)
theorem apD_spec {on:List api_Span} {t:List api_Pair} {m:api_Mut} (hl:t.length≤1000) (ho:on.length≤5000) (ht:Tb t) (hm:mOk m=true) (hs:SOk on):ApD on t m:=by
 have hp:=(mutIs hm).len
 obtain ⟨r,q1,q2,q3,q4⟩:=table_Apply_eq t m on hl (by omega) ho ht hm hs
 obtain ⟨s,q5,q6⟩:=ref_Apply_eq t m on hl (by omega) ho ht hm hs
 have e:apD on t m=r:=by unfold apD;rw [q1];rfl
 have e2:=q2.unique q6
 subst e2
 exact ⟨by rw [e];exact q1,by rw [e];exact q2,by rw [e];exact q3,by rw [e];exact q4,by rw [e];exact q5⟩
theorem apD_is {on:List api_Span} {t:List api_Pair} {m:api_Mut} {r:List api_Pair × Bool} (hl:t.length≤1000) (ho:on.length≤5000) (ht:Tb t) (hm:mOk m=true) (hs:SOk on) (h:ApplyTo t m on r):apD on t m=r:=
 (apD_spec hl ho ht hm hs).to.unique h

noncomputable def foldM (on:List api_Span) (t:List api_Pair) (ms:List api_Mut):List api_Pair:=ms.foldl (fun t m=>(apD on t m).1) t
theorem foldM_ok {on:List api_Span} (ho:on.length≤5000) (hs:SOk on):∀ {ms:List api_Mut} {t:List api_Pair},Tb t→(∀ m∈ms,mOk m=true)→t.length+8 * ms.length≤1000→Tb (foldM on t ms)∧(foldM on t ms).length≤t.length+8 * ms.length
 | [],t,ht,_,_=>⟨ht,by simp [foldM]⟩
 | m :: ms,t,ht,hm,hl=>by
  simp only [List.length_cons] at hl
  have a:=apD_spec (on:=on) (t:=t) (m:=m) (by omega) ho ht (hm m (List.mem_cons_self ..)) hs
  have b:=foldM_ok ho hs (ms:=ms) a.tb (fun x hx=>hm x (List.mem_cons_of_mem _ hx)) (by have:=a.len;omega)
  have e:foldM on t (m :: ms)=foldM on (apD on t m).1 ms:=rfl
  rw [e]
  refine ⟨b.1, ?_⟩
  have:=a.len
  have:=b.2
  simp only [List.length_cons]
  omega
def trE (e:api_Entry):spliceref12_Entry:=⟨trM e.M,e.Time,e.Done⟩
def isIn (mark:Int) (e:api_Entry):Bool:=e.Done && decide (e.Time≤mark)
def sel (mark:Int) (l:List api_Entry):List api_Mut:=(l.filter (isIn mark)).map (·.M)
noncomputable def stepE (on:List api_Span) (mark:Int) (t:List api_Pair) (e:api_Entry):List api_Pair:=if isIn mark e=true then (apD on t e.M).1 else t
theorem foldE (on:List api_Span) (mark:Int):∀ (l:List api_Entry) (t:List api_Pair),l.foldl (stepE on mark) t=foldM on t (sel mark l)
 | [],_=>rfl
 | e :: l,t=>by
  rw [List.foldl_cons,foldE on mark l]
  unfold stepE sel
  rw [List.filter_cons]
  by_cases h:isIn mark e=true
  ·rw [if_pos h,if_pos h];rfl
  ·rw [if_neg h,if_neg h]

theorem indexE (a:List api_Entry) (hn:a.length≤9223372036854775807) (p:api_Entry→Option Bool) (q:api_Entry→Bool) (hp:∀ x∈a,p x=some (q x)):∃ r,slices_IndexFunc_api_Entry a p=some r ∧
  ((r=-1∧∀ x∈a,q x=false)∨∃ i:Nat,r=i∧i < a.length∧q (a.getD i api_Entry.z)=true∧∀ x∈a.take i,q x=false):=by
 unfold slices_IndexFunc_api_Entry
 refine for_post (n:=a.length) (fun i (_:Unit)=>slices_IndexFunc_api_Entry.S.l1 (i:Int)) (fun i _=>∀ x∈a.take i,q x=false) _ ?_ ?_ 0 () (Nat.zero_le _) (by simp)
 ·intro _ h
  rw [take_all (Nat.le_refl _)] at h
  exact ⟨-1,by simp [slices_IndexFunc_api_Entry.step,slices_IndexFunc_api_Entry.l1],.inl ⟨rfl,h⟩⟩
 ·intro i _ hi h
  have hstep:(0:Int)≤(i:Int)∧(i:Int) < (a.length:Int):=by omega
  have hg:a.getD (i:Int).toNat api_Entry.z=a.getD i api_Entry.z:=rfl
  simp only [slices_IndexFunc_api_Entry.step,slices_IndexFunc_api_Entry.l1,hstep.2,if_true,hstep,and_self,hg,hp _ (getD_in (z:=api_Entry.z) hi),Option.bind_some,wr1 hi hn]
  have hx:=take_at (l:=a) (z:=api_Entry.z) hi
  cases hq:q (a.getD i api_Entry.z) with
  | true=>
   right
   exact ⟨i,by simp,.inr ⟨i,rfl,hi,hq,h⟩⟩
  | false=>
   left
   refine ⟨(),by simp,fun x hxm=>?_⟩
   rw [hx] at hxm
   rcases List.mem_append.1 hxm with hm | hm
   ·exact h x hm
   ·simp only [List.mem_singleton] at hm;rw [hm,← hq]
theorem containsE (a:List api_Entry) (hn:a.length≤9223372036854775807) (p:api_Entry→Option Bool) (q:api_Entry→Bool) (hp:∀ x∈a,p x=some (q x)):slices_ContainsFunc_api_Entry a p=some (a.any q):=by
 unfold slices_ContainsFunc_api_Entry
 obtain ⟨r,h1,h2⟩:=indexE a hn p q hp
 rw [h1,Option.bind_some]
 congr 1
 rcases h2 with ⟨rfl,h⟩ | ⟨i,rfl,hi,hq,_⟩
 ·rw [Bool.eq_iff_iff]
  simp only [decide_eq_true_eq,List.any_eq_true]
  constructor
  ·intro h;omega
  ·rintro ⟨x,hx,hq⟩
   rw [h x hx] at hq
   cases hq
 ·rw [decide_eq_true (by omega)]
  symm
  rw [List.any_eq_true]
  exact ⟨_,getD_in hi,hq⟩
theorem indexM (a:List api_Mut) (hn:a.length≤9223372036854775807) (p:api_Mut→Option Bool) (q:api_Mut→Bool) (hp:∀ x∈a,p x=some (q x)):∃ r,slices_IndexFunc_api_Mut a p=some r ∧
  ((r=-1∧∀ x∈a,q x=false)∨∃ i:Nat,r=i∧i < a.length∧q (a.getD i api_Mut.z)=true∧∀ x∈a.take i,q x=false):=by
 unfold slices_IndexFunc_api_Mut
 refine for_post (n:=a.length) (fun i (_:Unit)=>slices_IndexFunc_api_Mut.S.l1 (i:Int)) (fun i _=>∀ x∈a.take i,q x=false) _ ?_ ?_ 0 () (Nat.zero_le _) (by simp)
 ·intro _ h
  rw [take_all (Nat.le_refl _)] at h
  exact ⟨-1,by simp [slices_IndexFunc_api_Mut.step,slices_IndexFunc_api_Mut.l1],.inl ⟨rfl,h⟩⟩
 ·intro i _ hi h
  have hstep:(0:Int)≤(i:Int)∧(i:Int) < (a.length:Int):=by omega
  have hg:a.getD (i:Int).toNat api_Mut.z=a.getD i api_Mut.z:=rfl
  simp only [slices_IndexFunc_api_Mut.step,slices_IndexFunc_api_Mut.l1,hstep.2,if_true,hstep,and_self,hg,hp _ (getD_in (z:=api_Mut.z) hi),Option.bind_some,wr1 hi hn]
  have hx:=take_at (l:=a) (z:=api_Mut.z) hi
  cases hq:q (a.getD i api_Mut.z) with
  | true=>
   right
   exact ⟨i,by simp,.inr ⟨i,rfl,hi,hq,h⟩⟩
  | false=>
   left
   refine ⟨(),by simp,fun x hxm=>?_⟩
   rw [hx] at hxm
   rcases List.mem_append.1 hxm with hm | hm
   ·exact h x hm
   ·simp only [List.mem_singleton] at hm;rw [hm,← hq]
theorem containsM (a:List api_Mut) (hn:a.length≤9223372036854775807) (p:api_Mut→Option Bool) (q:api_Mut→Bool) (hp:∀ x∈a,p x=some (q x)):slices_ContainsFunc_api_Mut a p=some (a.any q):=by
 unfold slices_ContainsFunc_api_Mut
 obtain ⟨r,h1,h2⟩:=indexM a hn p q hp
 rw [h1,Option.bind_some]
 congr 1
 rcases h2 with ⟨rfl,h⟩ | ⟨i,rfl,hi,hq,_⟩
 ·rw [Bool.eq_iff_iff]
  simp only [decide_eq_true_eq,List.any_eq_true]
  constructor
  ·intro h;omega
  ·rintro ⟨x,hx,hq⟩
   rw [h x hx] at hq
   cases hq
 ·rw [decide_eq_true (by omega)]
  symm
  rw [List.any_eq_true]
  exact ⟨_,getD_in hi,hq⟩

structure Few (l:List api_Entry):Prop where
 len:l.length≤61
 prs:∀ e∈l,e.M.Pairs.length≤20
def okE (l:List api_Entry):Bool:=l.all fun e=>mOk e.M

theorem judge_Fold_loop (l:List api_Entry) (on:List api_Span) (mark:Int) (hf:Few l) (ho:on.length≤5000) (hs:SOk on) (hok:okE l=true):
  goLoop (judge_Fold.step l on mark) (.l1 0 [])=some (foldM on [] (sel mark l))∧Tb (foldM on [] (sel mark l))∧(foldM on [] (sel mark l)).length≤8 * l.length:=by
 have hl:=hf.len
 have h:=for_fold (step:=judge_Fold.step l on mark) l api_Entry.z (fun i t=>judge_Fold.S.l1 (i:Int) t) (stepE on mark) (fun i t=>Tb t∧t.length≤8 * i) (fun i t hi ⟨hb,hlen⟩=>by
  have hstep:(0:Int)≤(i:Int)∧(i:Int) < (l.length:Int):=by omega
  have hg:l.getD (i:Int).toNat api_Entry.z=l.getD i api_Entry.z:=rfl
  have hm:mOk (l.getD i api_Entry.z).M=true:=by
   have:=List.all_eq_true.1 hok _ (getD_in (z:=api_Entry.z) hi)
   simpa using this
  simp only [judge_Fold.step,judge_Fold.l1,judge_Fold.j2,judge_Fold.j3,hstep.2,if_true,hstep,and_self,hg,decide_eq_true_eq,Bool.false_eq_true,if_false,wr1 hi (by omega:l.length≤9223372036854775807)]
  generalize l.getD i api_Entry.z=e at hm ⊢
  have a:=apD_spec (on:=on) (t:=t) (m:=e.M) (by omega) ho hb hm hs
  have:=a.len
  unfold stepE isIn
  by_cases hd:e.Done=true
  ·rw [if_pos hd,hd,Bool.true_and]
   by_cases ht:e.Time≤mark
   ·rw [if_pos ht,decide_eq_true ht,if_pos rfl,a.run,Option.bind_some]
    exact ⟨rfl,a.tb,by omega⟩
   ·rw [if_neg ht,decide_eq_false ht,if_neg (by decide)]
    exact ⟨rfl,hb,by omega⟩
  ·rw [if_neg hd,if_neg (by simp [hd])]
   exact ⟨rfl,hb,by omega⟩) [] ⟨Tb.nil,by simp⟩
 rw [foldE] at h
 refine ⟨?_,h.2.1,h.2.2⟩
 have e:=h.1
 simp only [Int.natCast_zero,show ((0:Nat):Int)=0 from rfl] at e
 rw [e,loop_eq]
 simp [judge_Fold.step,judge_Fold.l1,stk]
theorem fold_any (l:List api_Entry) (hf:Few l):slices_ContainsFunc_api_Entry l (fun z0=>judge_Fold_1 z0)=some (!okE l):=by
 rw [containsE l (by have:=hf.len;omega) _ (fun e=>!mOk e.M) (fun x hx=>by
  have:=hf.prs x hx
  unfold judge_Fold_1
  rw [mut_Check_eq _ (by omega),Option.bind_some])]
 unfold okE
 rw [List.not_all_eq_any_not]
theorem Fold_good {l:List api_Entry} {on:List api_Span} (mark:Int) (hf:Few l) (ho:on.length≤5000) (hs:SOk on) (hok:okE l=true):judge_Fold l on mark=some (foldM on [] (sel mark l)):=by
 obtain ⟨r,c1,c2⟩:=chkS on ho
 unfold judge_Fold
 rw [c1,Option.bind_some,if_pos (c2.2 hs),fold_any l hf,Option.bind_some,hok]
 simp only [Bool.not_true,judge_Fold.j1,Bool.false_eq_true,if_false]
 exact (judge_Fold_loop l on mark hf ho hs hok).1
theorem trE_at (l:List api_Entry) {i:Nat} (hi:i < l.length):(l.map trE).getD i spliceref12_Entry.z=trE (l.getD i api_Entry.z):=by
 simp [List.getD_eq_getElem?_getD,hi]
theorem ref_Fold_eq {l:List api_Entry} {on:List api_Span} (mark:Int) (hf:Few l) (ho:on.length≤5000):
  (SOk on∧okE l=true→spliceref15_Fold (l.map trE) (on.map toR) mark=some ((foldM on [] (sel mark l)).map tr))∧(¬ (SOk on∧okE l=true)→spliceref15_Fold (l.map trE) (on.map toR) mark=some []):=by
 have hl:=hf.len
 obtain ⟨r,c1,c2⟩:=chkSR on ho
 -- the first loop
 have first:(okE l=true→goLoop (spliceref15_Fold.step (l.map trE) (on.map toR) mark) (.l1 0)=goLoop (spliceref15_Fold.step (l.map trE) (on.map toR) mark) (.l2 [] 0))∧(okE l=false→goLoop (spliceref15_Fold.step (l.map trE) (on.map toR) mark) (.l1 0)=some []):=by
  have step1:∀ i,i < l.length→spliceref15_Fold.step (l.map trE) (on.map toR) mark (.l1 (i:Int))=if mOk (l.getD i api_Entry.z).M=true then some (.inl (.l1 ((i+1:Nat):Int))) else some (.inr []):=fun i hi=>by
   have hstep:(0:Int)≤(i:Int)∧(i:Int) < (l.length:Int):=by omega
   have hp:=hf.prs _ (getD_in (z:=api_Entry.z) hi)
   simp only [spliceref15_Fold.step,spliceref15_Fold.l1,List.length_map,hstep.2,if_true,hstep,and_self,show (i:Int).toNat=i from rfl,trE_at l hi,trE,ref_Check_eq _ (by omega:(l.getD i api_Entry.z).M.Pairs.length≤5000),Option.bind_some,wr1 hi (by omega:l.length≤9223372036854775807)]
  have go1:∀ i,i≤l.length→goLoop (spliceref15_Fold.step (l.map trE) (on.map toR) mark) (.l1 (i:Int))=if okE (l.drop i)=true then goLoop (spliceref15_Fold.step (l.map trE) (on.map toR) mark) (.l2 [] 0) else some []:=by
   intro i
   induction hk:l.length - i generalizing i with
   | zero=>
    intro hi
    obtain rfl:i=l.length:=by omega
    rw [List.drop_length,loop_eq]
    simp [spliceref15_Fold.step,spliceref15_Fold.l1,stk,okE]
   | succ m ih=>
    intro hi
    have hi':i < l.length:=by omega
    rw [loop_eq,step1 i hi',List.drop_eq_getElem_cons hi']
    have e:l[i]=l.getD i api_Entry.z:=by simp [hi']
    unfold okE
    rw [List.all_cons,e]
    by_cases h:mOk (l.getD i api_Entry.z).M=true
    ·rw [if_pos h,h,Bool.true_and]
     exact ih (i+1) (by omega) (by omega)
    ·rw [if_neg h,if_neg (by rw [Bool.and_eq_true];exact fun hh=>h hh.1)]
     rfl
  have:=go1 0 (Nat.zero_le _)
  rw [List.drop_zero,show ((0:Nat):Int)=0 from rfl] at this
  exact ⟨fun h=>by rw [this,if_pos h],fun h=>by rw [this,if_neg (by rw [h];decide)]⟩
 have e0:spliceref15_Fold (l.map trE) (on.map toR) mark=goLoop (spliceref15_Fold.step (l.map trE) (on.map toR) mark) (.l1 0):=rfl
 refine ⟨fun ⟨hs,hok⟩=>?_,fun h=>?_⟩
 ·rw [e0,first.1 hok]
  have hr:=c2.2 hs
  have h:=for_fold (step:=spliceref15_Fold.step (l.map trE) (on.map toR) mark) l api_Entry.z (fun i t=>spliceref15_Fold.S.l2 (t.map tr) (i:Int)) (stepE on mark) (fun i t=>Tb t∧t.length≤8 * i) (fun i t hi ⟨hb,hlen⟩=>by
   have hstep:(0:Int)≤(i:Int)∧(i:Int) < (l.length:Int):=by omega
   have hm:mOk (l.getD i api_Entry.z).M=true:=by
    have:=List.all_eq_true.1 hok _ (getD_in (z:=api_Entry.z) hi)
    simpa using this
   simp only [spliceref15_Fold.step,spliceref15_Fold.l2,spliceref15_Fold.j1,spliceref15_Fold.j2,spliceref15_Fold.j3,List.length_map,hstep.2,if_true,c1,Option.bind_some,hr,hstep,and_self,show (i:Int).toNat=i from rfl,trE_at l hi,decide_eq_true_eq,Bool.false_eq_true,if_false,wr1 hi (by omega:l.length≤9223372036854775807)]
   generalize l.getD i api_Entry.z=e at hm ⊢
   have a:=apD_spec (on:=on) (t:=t) (m:=e.M) (by omega) ho hb hm hs
   have:=a.len
   unfold stepE isIn
   have ar:spliceref05_Apply (t.map tr) (trE e).M (on.map toR)=_:=a.ref
   by_cases hd:e.Done=true
   ·rw [if_pos (show (trE e).Done=true from hd),hd,Bool.true_and]
    by_cases ht:e.Time≤mark
    ·rw [if_pos (show (trE e).Time≤mark from ht),decide_eq_true ht,if_pos rfl,ar,Option.bind_some]
     exact ⟨rfl,a.tb,by omega⟩
    ·rw [if_neg (show ¬ (trE e).Time≤mark from ht),decide_eq_false ht,if_neg (by decide)]
     exact ⟨rfl,hb,by omega⟩
   ·rw [if_neg (show ¬ (trE e).Done=true from hd),if_neg (by simp [hd])]
    exact ⟨rfl,hb,by omega⟩) [] ⟨Tb.nil,by simp⟩
  rw [foldE] at h
  have e:=h.1
  simp only [List.map_nil,show ((0:Nat):Int)=0 from rfl] at e
  rw [e,loop_eq]
  simp [spliceref15_Fold.step,spliceref15_Fold.l2,spliceref15_Fold.j1,stk]
 ·rw [e0]
  cases hok:okE l with
  | false=>exact first.2 hok
  | true=>
   have hr:r=false:=by
    cases hr:r with
    | false=>rfl
    | true=>exact absurd ⟨c2.1 hr,hok⟩ h
   rw [first.1 hok,loop_eq]
   simp only [spliceref15_Fold.step,spliceref15_Fold.l2,List.length_map,c1,Option.bind_some,hr]
   split<;>simp [spliceref15_Fold.j1,stk]
end Go.SyP
set_option linter.unusedVariables false
set_option linter.unusedSimpArgs false
namespace Go.SyP
open Go Go.Sy Sets

def okM (l:List api_Mut):Bool:=l.all mOk
theorem onto_any (l:List api_Mut) (hl:l.length≤5000) (hp:∀ m∈l,m.Pairs.length≤20):slices_ContainsFunc_api_Mut l (fun z0=>judge_Onto_1 z0)=some (!okM l):=by
 rw [containsM l (by omega) _ (fun e=>!mOk e) (fun x hx=>by
  have:=hp x hx
  unfold judge_Onto_1
  try simp only [show (⟨x.Client,x.Seq,x.Kind,x.Pairs,(⟨x.Over.Lo,x.Over.Hi⟩:api_Span),x.Old⟩:api_Mut)=x from rfl]
  rw [mut_Check_eq _ (by omega),Option.bind_some])]
 unfold okM
 rw [List.not_all_eq_any_not]
theorem Onto_loop {on:List api_Span} {base:List api_Pair} {l:List api_Mut} (hl:base.length+8 * l.length≤1000) (ho:on.length≤5000) (ht:Tb base) (hs:SOk on) (hok:okM l=true):
  goLoop (judge_Onto.step l on) (.l1 0 base)=some (foldM on base l):=by
 have h:=for_fold (step:=judge_Onto.step l on) l api_Mut.z (fun i t=>judge_Onto.S.l1 (i:Int) t) (fun t m=>(apD on t m).1) (fun i t=>Tb t∧t.length≤base.length+8 * i) (fun i t hi ⟨hb,hlen⟩=>by
  have hstep:(0:Int)≤(i:Int)∧(i:Int) < (l.length:Int):=by omega
  have hg:l.getD (i:Int).toNat api_Mut.z=l.getD i api_Mut.z:=rfl
  have hm:mOk (l.getD i api_Mut.z)=true:=List.all_eq_true.1 hok _ (getD_in (z:=api_Mut.z) hi)
  simp only [judge_Onto.step,judge_Onto.l1,hstep.2,if_true,hstep,and_self,hg,wr1 hi (by omega:l.length≤9223372036854775807)]
  generalize l.getD i api_Mut.z=m at hm ⊢
  have a:=apD_spec (on:=on) (t:=t) (m:=m) (by omega) ho hb hm hs
  have:=a.len
  rw [a.run,Option.bind_some]
  exact ⟨rfl,a.tb,by omega⟩) base ⟨ht,by simp⟩
 have e:=h.1
 simp only [show ((0:Nat):Int)=0 from rfl] at e
 rw [e,loop_eq]
 simp [judge_Onto.step,judge_Onto.l1,stk,foldM]
theorem Onto_good {on:List api_Span} {base:List api_Pair} {l:List api_Mut} (hl:base.length+8 * l.length≤1000) (hp:∀ m∈l,m.Pairs.length≤20) (ho:on.length≤5000) (ht:Tb base) (hs:SOk on) (hok:okM l=true):
  judge_Onto base l on=some (foldM on base l):=by
 obtain ⟨r,c1,c2⟩:=table_Check_eq base (by omega)
 obtain ⟨s,c3,c4⟩:=chkS on ho
 unfold judge_Onto
 rw [c1,Option.bind_some,if_pos (c2.2 ht),c3,Option.bind_some,if_pos (c4.2 hs),onto_any l (by omega) hp,Option.bind_some,hok]
 unfold judge_Onto.j1
 rw [if_neg (by decide),if_pos (by omega)]
 exact Onto_loop hl ho ht hs hok
theorem trM_at (l:List api_Mut) {i:Nat} (hi:i < l.length):(l.map trM).getD i spliceref04_Mut.z=trM (l.getD i api_Mut.z):=by
 simp [List.getD_eq_getElem?_getD,hi]
theorem ref_Onto_first (base:List spliceref04_Pair) {l:List api_Mut} (on:List spliceref03_Span) (hl:l.length≤5000) (hp:∀ m∈l,m.Pairs.length≤20):
  goLoop (spliceref15_Onto.step base (l.map trM) on) (.l1 0)=if okM l=true then goLoop (spliceref15_Onto.step base (l.map trM) on) (.l2 base 0) else some []:=by
 have step1:∀ i,i < l.length→spliceref15_Onto.step base (l.map trM) on (.l1 (i:Int))=if mOk (l.getD i api_Mut.z)=true then some (.inl (.l1 ((i+1:Nat):Int))) else some (.inr []):=fun i hi=>by
  have hstep:(0:Int)≤(i:Int)∧(i:Int) < (l.length:Int):=by omega
  have hp:=hp _ (getD_in (z:=api_Mut.z) hi)
  simp only [spliceref15_Onto.step,spliceref15_Onto.l1,List.length_map,hstep.2,if_true,hstep,and_self,show (i:Int).toNat=i from rfl,trM_at l hi,ref_Check_eq _ (by omega:(l.getD i api_Mut.z).Pairs.length≤5000),Option.bind_some,wr1 hi (by omega:l.length≤9223372036854775807)]
 have go1:∀ i,i≤l.length→goLoop (spliceref15_Onto.step base (l.map trM) on) (.l1 (i:Int))=if okM (l.drop i)=true then goLoop (spliceref15_Onto.step base (l.map trM) on) (.l2 base 0) else some []:=by
  intro i
  induction hk:l.length - i generalizing i with
  | zero=>
   intro hi
   obtain rfl:i=l.length:=by omega
   rw [List.drop_length,loop_eq]
   simp [spliceref15_Onto.step,spliceref15_Onto.l1,stk,okM]
  | succ m ih=>
   intro hi
   have hi':i < l.length:=by omega
   rw [loop_eq,step1 i hi',List.drop_eq_getElem_cons hi']
   have e:l[i]=l.getD i api_Mut.z:=by simp [hi']
   unfold okM
   rw [List.all_cons,e]
   by_cases h:mOk (l.getD i api_Mut.z)=true
   ·rw [if_pos h,h,Bool.true_and]
    exact ih (i+1) (by omega) (by omega)
   ·rw [if_neg h,if_neg (by rw [Bool.and_eq_true];exact fun hh=>h hh.1)]
    rfl
 have:=go1 0 (Nat.zero_le _)
 rwa [List.drop_zero,show ((0:Nat):Int)=0 from rfl] at this
theorem ref_Onto_good {on:List api_Span} {base:List api_Pair} {l:List api_Mut} (hl:base.length+8 * l.length≤1000) (hp:∀ m∈l,m.Pairs.length≤20) (ho:on.length≤5000) (ht:Tb base) (hs:SOk on) (hok:okM l=true):
  spliceref15_Onto (base.map tr) (l.map trM) (on.map toR)=some ((foldM on base l).map tr):=by
 obtain ⟨r,c1,c2⟩:=ref5_Check_eq base (by omega)
 obtain ⟨s,c3,c4⟩:=chkSR on ho
 unfold spliceref15_Onto
 rw [c1,Option.bind_some,if_pos (c2.2 ht),c3,Option.bind_some,c4.2 hs]
 unfold spliceref15_Onto.j1
 rw [if_neg (by decide),ref_Onto_first _ _ (by omega) hp,if_pos hok]
 have h:=for_fold (step:=spliceref15_Onto.step (base.map tr) (l.map trM) (on.map toR)) l api_Mut.z (fun i t=>spliceref15_Onto.S.l2 (t.map tr) (i:Int)) (fun t m=>(apD on t m).1) (fun i t=>Tb t∧t.length≤base.length+8 * i) (fun i t hi ⟨hb,hlen⟩=>by
  have hstep:(0:Int)≤(i:Int)∧(i:Int) < (l.length:Int):=by omega
  have hm:mOk (l.getD i api_Mut.z)=true:=List.all_eq_true.1 hok _ (getD_in (z:=api_Mut.z) hi)
  simp only [spliceref15_Onto.step,spliceref15_Onto.l2,List.length_map,hstep.2,if_true,hstep,and_self,show (i:Int).toNat=i from rfl,trM_at l hi,wr1 hi (by omega:l.length≤9223372036854775807)]
  generalize l.getD i api_Mut.z=m at hm ⊢
  have a:=apD_spec (on:=on) (t:=t) (m:=m) (by omega) ho hb hm hs
  have:=a.len
  rw [a.ref,Option.bind_some]
  exact ⟨rfl,a.tb,by omega⟩) base ⟨ht,by simp⟩
 have e:=h.1
 simp only [show ((0:Nat):Int)=0 from rfl] at e
 rw [e,loop_eq]
 simp [spliceref15_Onto.step,spliceref15_Onto.l2,stk,foldM]
end Go.SyP
