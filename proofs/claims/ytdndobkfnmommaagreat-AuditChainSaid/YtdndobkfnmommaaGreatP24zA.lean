/- Sets of keys at the seat of table: what the loops come to (printed of P03B). -/
import Derived.Test.YtdndobkfnmommaaGreatG24zBP
import Derived.Test.YtdndobkfnmommaaGreatP03A
set_option linter.unusedVariables false
set_option linter.unusedSimpArgs false
namespace Go.SyP
open Go Go.Sy Sets
theorem wr {n:Int} (h:-9223372036854775808<=n/\n<=9223372036854775807):IntKind.wrap .i64 n=n:=by
 simp [IntKind.wrap,IntKind.bits,IntKind.signed];omega
theorem wr1 {i n:Nat} (h:i < n) (hn:n<=9223372036854775807):IntKind.wrap .i64 ((i:Int)+1)=((i+1:Nat):Int):=by
 rw [wr (by omega)];omega
theorem take_at {α:Type} {l:List α} {z:α} {i:Nat} (h:i < l.length):l.take (i+1)=l.take i ++ [l.getD i z]:=by
 rw [List.take_add_one]
 simp [h]
theorem Qch {α:Type} {l:List α} {z:α} {i:Nat} (h:i < l.length):l.take (i+1)=l.take i ++ [l.getD (i:Int).toNat z]:=take_at h
theorem Qhf {α:Type} {l:List α} {z:α} {i:Nat} (h:i < l.length):l.drop i=l.getD (i:Int).toNat z :: l.drop (i+1):=by
 show l.drop i=l.getD i z :: l.drop (i+1)
 rw [List.drop_eq_getElem_cons h]
 simp [h]
theorem Qbp {α:Type} {l:List α} {i:Nat} (h:l.length<=i):l.take i=l:=List.take_of_length_le h
theorem Qbi {σ ρ α:Type} {step:σ->Option (σ ⊕ ρ)} {n:Nat} (st:Nat->α->σ) (I:Nat->α->Prop) (P:ρ->Prop)
  (Qfh:∀ x,I n x->∃ r,step (st n x)=some (.inr r)/\P r)
  (Ye:∀ i x,i < n->I i x->(∃ y,step (st i x)=some (.inl (st (i+1) y))/\I (i+1) y)\/∃ r,step (st i x)=some (.inr r)/\P r):
  ∀ i x,i<=n->I i x->∃ r,Yb step (st i x)=some r/\P r:=by
 have key:∀ m i x,i+m=n->I i x->∃ r,Yb step (st i x)=some r/\P r:=by
  intro m
  induction m with
  | zero=>
   intro i x hi hI
   obtain rfl:i=n:=by omega
   obtain ⟨r,h1,h2⟩:=Qfh x hI
   exact ⟨r,by rw [Qau,h1];rfl,h2⟩
  | succ m ih=>
   intro i x hi hI
   rcases Ye i x (by omega) hI with ⟨y,h1,h2⟩ | ⟨r,h1,h2⟩
   ·obtain ⟨r,h3,h4⟩:=ih (i+1) y (by omega) h2
    exact ⟨r,by rw [Qau,h1];exact h3,h4⟩
   exact ⟨r,by rw [Qau,h1];rfl,h2⟩
 exact fun i x h=>key (n - i) i x (by omega)
def pa (x:Qb):Sp:=(x.Lo,x.Hi)
def pr (x:Qi):Sp:=(x.Lo,x.Hi)
def toR (x:Qb):Qi:=⟨x.Lo,x.Hi⟩
theorem Wd1 (l:List Qb):(l.map toR).map pr=l.map pa:=by
 rw [List.map_map];rfl
theorem Qei {l:List Sp} {x:Sp}:Canon (l ++ [x])↔Canon l/\Ok x/\∀ y∈l,y.2 < x.1:=by
 constructor
 ·intro h
  have hp:=List.pairwise_append.1 h.apart
  exact ⟨⟨fun y hy=>h.ok y (List.mem_append_left _ hy),hp.1⟩,h.ok x (by simp),fun y hy=>hp.2.2 y hy x (by simp)⟩
 rintro ⟨h1,h2,h3⟩
 refine ⟨fun y hy=>?_,List.pairwise_append.2 ⟨h1.apart,by simp,fun y hy z hz=>?_⟩⟩
 ·rcases List.mem_append.1 hy with hy | hy
  ·exact h1.ok y hy
  simp at hy;subst hy;exact h2
 simp at hz;subst hz;exact h3 y hy
theorem Qnl {l:List Sp} {x:Sp} (h:Canon (l ++ [x])):∀ y∈l ++ [x],y.2<=x.2:=by
 intro y hy
 have h2:=Qei.1 h
 rcases List.mem_append.1 hy with hy | hy
 ·have a:=h2.2.2 y hy
  have b:=h2.2.1
  unfold Ok at b
  omega
 simp at hy;subst hy;exact Int.le_refl _
theorem Qsf {l m:List Sp} (h:Canon (l ++ m)):Canon l:=⟨fun y hy=>h.ok y (List.mem_append_left _ hy),(List.pairwise_append.1 h.apart).1⟩
theorem Qkd (x:Qb):Qbj x=decide (Ok (pa x)):=by
 unfold Qbj Qbj.j1 Ok pa
 by_cases h1:x.Lo>=0<;>by_cases h2:x.Lo < x.Hi<;>simp [h1,h2]
theorem Qom (a:List Qb) (hn:a.length<=9223372036854775807):∃ r,Yw a=some r/\(r=true↔Canon (a.map pa)/\a.length<=64):=by
 unfold Yw
 refine Qbi (n:=a.length) (fun i (_:Unit)=>Yw.S.l1 (i:Int)) (fun i _=>Canon ((a.take i).map pa)) _ ?_ ?_ 0 () (Nat.zero_le _) (by simpa using Canon.nil)
 ·intro _ h
  rw [Qbp (Nat.le_refl _)] at h
  refine ⟨_,by simp [Yw.step,Yw.l1];rfl, ?_⟩
  simp only [h,true_and,decide_eq_true_eq]
  omega
 intro i _ hi h
 have hx:(a.take (i+1)).map pa=(a.take i).map pa ++ [pa (a.getD (i:Int).toNat Qb.z)]:=by rw [Qch hi,List.map_append];rfl
 have Qgk:∀ l:List Sp,¬ Canon ((a.take (i+1)).map pa)->¬ Canon (a.map pa):=fun _ h1 h2=>h1 (by
  rw [<- List.take_append_drop (i+1) a,List.map_append] at h2
  exact Qsf h2)
 have Ye:(0:Int)<=(i:Int)/\(i:Int) < (a.length:Int):=by omega
 simp only [Yw.step,Yw.l1,Ye.2,if_true,Ye,and_self,Qkd]
 generalize a.getD (i:Int).toNat Qb.z=X at hx ⊢
 by_cases ho:Ok (pa X)
 ·simp only [ho,decide_true,if_true]
  rcases Nat.eq_zero_or_pos i with h0 | h0
  ·subst h0
   left
   refine ⟨(),by simp [Yw.j1,show IntKind.wrap .i64 1=1 by decide], ?_⟩
   rw [hx,Qei]
   exact ⟨h,ho,by simp⟩
  have hw:IntKind.wrap .i64 ((i:Int) - 1)=((i - 1:Nat):Int):=by rw [wr (by omega)];omega
  rw [if_pos (show (i:Int) > 0 by omega),hw,if_pos (by omega)]
  have Qfb:(a.take i).map pa=(a.take (i - 1)).map pa ++ [pa (a.getD ((i - 1:Nat):Int).toNat Qb.z)]:=by
   have:=Qch (l:=a) (z:=Qb.z) (i:=i - 1) (by omega)
   rw [show i - 1+1=i by omega] at this
   rw [this,List.map_append];rfl
  generalize a.getD ((i - 1:Nat):Int).toNat Qb.z=Y at Qfb ⊢
  by_cases hc:X.Lo<=Y.Hi
  ·right
   refine ⟨false,by simp [Yw.j1,hc], ?_⟩
   simp only [Bool.false_eq_true,false_iff,not_and]
   intro h1
   exfalso
   refine Qgk [] ?_ h1
   rw [hx,Qei]
   rintro ⟨_,_,h4⟩
   have:=h4 (pa Y) (by rw [Qfb];simp)
   simp only [pa] at this
   omega
  left
  refine ⟨(),by simp [Yw.j1,hc,wr1 hi hn], ?_⟩
  rw [hx,Qei]
  refine ⟨h,ho,fun y hy=>?_⟩
  rw [Qfb] at h hy
  have:=Qnl h y hy
  simp only [pa] at this ⊢
  omega
 right
 refine ⟨false,by simp [Yw.j1,ho], ?_⟩
 simp only [Bool.false_eq_true,false_iff,not_and]
 intro h1
 exfalso
 refine Qgk [] ?_ h1
 rw [hx,Qei]
 rintro ⟨_,h4,_⟩
 exact ho h4
theorem Qh4 (x:Qi):Ja x=decide (Ok (pr x)):=by
 unfold Ja Ja.j1 Ok pr
 by_cases h1:x.Lo>=0<;>by_cases h2:x.Lo < x.Hi<;>simp [h1,h2]
theorem Qji (a:List Qi) (hn:a.length<=9223372036854775807):∃ r,Yd a=some r/\(r=true↔Canon (a.map pr)/\a.length<=64):=by
 unfold Yd
 refine Qbi (n:=a.length) (fun i (_:Unit)=>Yd.S.l1 (i:Int)) (fun i _=>Canon ((a.take i).map pr)) _ ?_ ?_ 0 () (Nat.zero_le _) (by simpa using Canon.nil)
 ·intro _ h
  rw [Qbp (Nat.le_refl _)] at h
  refine ⟨_,by simp [Yd.step,Yd.l1];rfl, ?_⟩
  simp only [h,true_and,decide_eq_true_eq]
  omega
 intro i _ hi h
 have hx:(a.take (i+1)).map pr=(a.take i).map pr ++ [pr (a.getD (i:Int).toNat Qi.z)]:=by rw [Qch hi,List.map_append];rfl
 have Qgk:∀ l:List Sp,¬ Canon ((a.take (i+1)).map pr)->¬ Canon (a.map pr):=fun _ h1 h2=>h1 (by
  rw [<- List.take_append_drop (i+1) a,List.map_append] at h2
  exact Qsf h2)
 have Ye:(0:Int)<=(i:Int)/\(i:Int) < (a.length:Int):=by omega
 simp only [Yd.step,Yd.l1,Ye.2,if_true,Ye,and_self,Qh4]
 generalize a.getD (i:Int).toNat Qi.z=X at hx ⊢
 by_cases ho:Ok (pr X)
 ·simp only [ho,decide_true,if_true]
  rcases Nat.eq_zero_or_pos i with h0 | h0
  ·subst h0
   left
   refine ⟨(),by simp [Yd.j1,show IntKind.wrap .i64 1=1 by decide], ?_⟩
   rw [hx,Qei]
   exact ⟨h,ho,by simp⟩
  have hw:IntKind.wrap .i64 ((i:Int) - 1)=((i - 1:Nat):Int):=by rw [wr (by omega)];omega
  rw [if_pos (show (i:Int) > 0 by omega),hw,if_pos (by omega)]
  have Qfb:(a.take i).map pr=(a.take (i - 1)).map pr ++ [pr (a.getD ((i - 1:Nat):Int).toNat Qi.z)]:=by
   have:=Qch (l:=a) (z:=Qi.z) (i:=i - 1) (by omega)
   rw [show i - 1+1=i by omega] at this
   rw [this,List.map_append];rfl
  generalize a.getD ((i - 1:Nat):Int).toNat Qi.z=Y at Qfb ⊢
  by_cases hc:X.Lo<=Y.Hi
  ·right
   refine ⟨false,by simp [Yd.j1,hc], ?_⟩
   simp only [Bool.false_eq_true,false_iff,not_and]
   intro h1
   exfalso
   refine Qgk [] ?_ h1
   rw [hx,Qei]
   rintro ⟨_,_,h4⟩
   have:=h4 (pr Y) (by rw [Qfb];simp)
   simp only [pr] at this
   omega
  left
  refine ⟨(),by simp [Yd.j1,hc,wr1 hi hn], ?_⟩
  rw [hx,Qei]
  refine ⟨h,ho,fun y hy=>?_⟩
  rw [Qfb] at h hy
  have:=Qnl h y hy
  simp only [pr] at this ⊢
  omega
 right
 refine ⟨false,by simp [Yd.j1,ho], ?_⟩
 simp only [Bool.false_eq_true,false_iff,not_and]
 intro h1
 exfalso
 refine Qgk [] ?_ h1
 rw [hx,Qei]
 rintro ⟨_,h4,_⟩
 exact ho h4
theorem Wfv (a:List Qb) (hn:a.length<=9223372036854775807) (q:Qb->Bool):∃ r,Zh a (fun z=>some (q z))=some r/\decide (r>=0)=a.any q:=by
 unfold Zh
 refine Qbi (n:=a.length) (fun i (_:Unit)=>Zh.S.l1 (i:Int)) (fun i _=>(a.take i).any q=false) _ ?_ ?_ 0 () (Nat.zero_le _) rfl
 ·intro _ h
  rw [Qbp (Nat.le_refl _)] at h
  refine ⟨_,by simp [Zh.step,Zh.l1];rfl, ?_⟩
  rw [h];decide
 intro i _ hi h
 have hx:(a.take (i+1)).any q=q (a.getD (i:Int).toNat Qb.z):=by rw [Qch (z:=Qb.z) hi,List.any_append,h];simp
 have Ye:(0:Int)<=(i:Int)/\(i:Int) < (a.length:Int):=by omega
 simp only [Zh.step,Zh.l1,Ye.2,if_true,Ye,and_self,Option.bind_some]
 cases hq:q (a.getD (i:Int).toNat Qb.z) with
 | true=>
  right
  refine ⟨i,by simp, ?_⟩
  rw [hq] at hx
  have:a.any q=true:=by rw [<- List.take_append_drop (i+1) a,List.any_append,hx];rfl
  rw [this]
  simp
 | false=>
  left
  refine ⟨(),by simp [wr1 hi hn], ?_⟩
  rw [hx,hq]
theorem contains_eq (a:List Qb) (hn:a.length<=9223372036854775807) (q:Qb->Bool):Qbn a (fun z=>some (q z))=some (a.any q):=by
 obtain ⟨r,h1,h2⟩:=Wfv a hn q
 unfold Qbn
 rw [h1,Option.bind_some,h2]
theorem Qx7 (a:List Qb) (hn:a.length<=9223372036854775807) (k:Int):Qge a k=some ((a.map pa).any fun x=>decide (Ok x) && decide (x.1<=k) && decide (k < x.2)):=by
 unfold Qge
 rw [contains_eq a hn,Option.bind_some,List.any_map]
 congr 1
 congr 1
 funext x
 unfold Qcq Qcq.j1
 rw [Qkd]
 simp only [Function.comp,pa]
 by_cases h1:Ok (x.Lo,x.Hi)<;>by_cases h2:k>=x.Lo<;>simp [h1,h2]<;>try exact decide_eq_decide.2 Iff.rfl
theorem Wax (a:List Qi) (hn:a.length<=9223372036854775807) (k:Int):Xv a k=some ((a.map pr).any fun x=>decide (Ok x) && decide (x.1<=k) && decide (k < x.2)):=by
 unfold Xv
 obtain ⟨r,h1,h2⟩:∃ r,Yb (Xv.step a k) (.l1 0)=some r/\r=((a.map pr).any fun x=>decide (Ok x) && decide (x.1<=k) && decide (k < x.2)):=by
  refine Qbi (n:=a.length) (fun i (_:Unit)=>Xv.S.l1 (i:Int)) (fun i _=>(((a.take i).map pr).any fun x=>decide (Ok x) && decide (x.1<=k) && decide (k < x.2))=false) _ ?_ ?_ 0 () (Nat.zero_le _) rfl
  ·intro _ h
   rw [Qbp (Nat.le_refl _)] at h
   refine ⟨_,by simp [Xv.step,Xv.l1];rfl, ?_⟩
   rw [h]
  intro i _ hi h
  have hx:(((a.take (i+1)).map pr).any fun x=>decide (Ok x) && decide (x.1<=k) && decide (k < x.2))=(decide (Ok (pr (a.getD (i:Int).toNat Qi.z))) && decide ((a.getD (i:Int).toNat Qi.z).Lo<=k) && decide (k < (a.getD (i:Int).toNat Qi.z).Hi)):=by
   rw [Qch (z:=Qi.z) hi,List.map_append,List.any_append,h];simp [pr]
  have Ye:(0:Int)<=(i:Int)/\(i:Int) < (a.length:Int):=by omega
  simp only [Xv.step,Xv.l1,Ye.2,if_true,Ye,and_self,Qh4]
  generalize a.getD (i:Int).toNat Qi.z=X at hx ⊢
  cases hq:(decide (Ok (pr X)) && decide (X.Lo<=k) && decide (k < X.Hi)) with
  | true=>
   right
   simp only [Bool.and_eq_true,decide_eq_true_eq] at hq
   refine ⟨true,by simp [Xv.j1,hq.1.1,hq.1.2,hq.2], ?_⟩
   symm
   rw [<- List.take_append_drop (i+1) a,List.map_append,List.any_append,hx]
   simp [hq.1.1,hq.1.2,hq.2]
  | false=>
   left
   refine ⟨(), ?_,by rw [hx,hq]⟩
   by_cases h1:Ok (pr X)<;>by_cases h2:X.Lo<=k<;>by_cases h3:k < X.Hi<;>simp [Xv.j1,h1,h2,h3,wr1 hi hn]<;>simp [h1,h2,h3] at hq
 rw [h1,h2]
end Go.SyP
namespace Go.SyP
open Go Go.Sy Sets
def tr (x:Qa):Qc:=⟨x.Key,x.Val⟩
def okP (x:Qa):Prop:=0<=x.Key/\x.Key < 4096/\-1099511627776<=x.Val/\x.Val<=1099511627776
instance (x:Qa):Decidable (okP x):=by unfold okP;exact inferInstance
def Up (l:List Qa):Prop:=l.Pairwise fun x y=>x.Key < y.Key
structure Tb (l:List Qa):Prop where
 ok:∀ x∈l,okP x
 up:Up l
def look:List Qa->Int->Option Int
 | [],_=>none
 | x :: l,k=>if x.Key=k then some x.Val else look l k
theorem Up.tail {x:Qa} {l:List Qa} (h:Up (x :: l)):Up l:=(List.pairwise_cons.1 h).2
theorem Up.head {x:Qa} {l:List Qa} (h:Up (x :: l)):∀ y∈l,x.Key < y.Key:=(List.pairwise_cons.1 h).1
theorem Tb.nil:Tb []:=⟨fun x h=>by simp at h,.nil⟩
theorem Qhd {l:List Qa} {k:Int} (h:∀ x∈l,x.Key≠k):look l k=none:=by
 induction l with
 | nil=>rfl
 | cons x l ih=>
  rw [look,if_neg (h x (by simp)),ih fun y hy=>h y (List.mem_cons_of_mem _ hy)]
theorem Qrs {l:List Qa} {k v:Int} (h:look l k=some v):(⟨k,v⟩:Qa)∈l:=by
 induction l with
 | nil=>cases h
 | cons x l ih=>
  rw [look] at h
  split at h
  ·rename_i e
   injection h with h
   subst e
   subst h
   simp
  exact List.mem_cons_of_mem _ (ih h)
theorem Qxx {l:List Qa} {k:Int} (h:look l k=none):∀ x∈l,x.Key≠k:=by
 induction l with
 | nil=>intro x hx;cases hx
 | cons y l ih=>
  rw [look] at h
  split at h
  ·cases h
  rename_i e
  intro x hx
  rcases List.mem_cons.1 hx with rfl | hx
  ·exact e
  exact ih h x hx
theorem look_ok {l:List Qa} (h:Tb l) {k v:Int} (e:look l k=some v):0<=k/\k < 4096/\-1099511627776<=v/\v<=1099511627776:=h.ok _ (Qrs e)
theorem Qn2 {l:List Qa} (h:Tb l) (k:Int):-1099511627776<=(look l k).getD 0/\(look l k).getD 0<=1099511627776:=by
 cases e:look l k with
 | none=>simp
 | some v=>have:=look_ok h e;simp;omega
theorem Up.unique:∀ {l m:List Qa},Up l->Up m->(∀ k,look l k=look m k)->l=m
 | [],[],_,_,_=>rfl
 | [],y :: m,_,_,h=>by have:=h y.Key;simp [look] at this
 | x :: l,[],_,_,h=>by have:=h x.Key;simp [look] at this
 | x :: l,y :: m,hl,hm,h=>by
  have hx:=h x.Key
  have hy:=h y.Key
  simp only [look,if_true] at hx hy
  have e1:x.Key=y.Key:=by
   rcases Int.lt_trichotomy x.Key y.Key with h1 | h1 | h1
   ·rw [if_neg (by omega),Qhd fun z hz=>by have:=hm.head z hz;omega] at hx
    cases hx
   ·exact h1
   rw [if_neg (by omega),Qhd fun z hz=>by have:=hl.head z hz;omega] at hy
   cases hy
  rw [if_pos e1.symm] at hx
  injection hx with hx
  have e2:x=y:=by cases x;cases y;simp only at e1 hx;subst e1;subst hx;rfl
  subst e2
  have:=Up.unique hl.tail hm.tail fun k=>by
   have:=h k
   simp only [look] at this
   by_cases hk:x.Key=k
   ·rw [Qhd fun z hz=>by have:=hl.head z hz;omega,Qhd fun z hz=>by have:=hm.head z hz;omega]
   rwa [if_neg hk,if_neg hk] at this
  rw [this]
def Qeu:List Qa->Int->Int->List Qa
 | [],k,v=>[⟨k,v⟩]
 | x :: l,k,v=>if x.Key < k then x :: Qeu l k v else if x.Key=k then ⟨k,v⟩ :: l else ⟨k,v⟩ :: x :: l
theorem Qmf:∀ (l:List Qa) (k v j:Int),look (Qeu l k v) j=if j=k then some v else look l j
 | [],k,v,j=>by simp only [Qeu,look];by_cases h:k=j<;>simp [h,eq_comm]
 | x :: l,k,v,j=>by
  simp only [Qeu]
  by_cases h1:x.Key < k
  ·rw [if_pos h1,look,Qmf l k v j,look]
   by_cases h2:j=k
   ·rw [if_neg (by omega),if_pos h2,if_pos h2]
   rw [if_neg h2,if_neg h2]
  rw [if_neg h1]
  by_cases h2:x.Key=k
  ·rw [if_pos h2,look,look]
   by_cases h3:j=k
   ·rw [if_pos h3.symm,if_pos h3]
   rw [if_neg (fun e=>h3 e.symm),if_neg h3,if_neg (by omega)]
  rw [if_neg h2,look]
  by_cases h3:j=k
  ·rw [if_pos h3.symm,if_pos h3]
  rw [if_neg (fun e=>h3 e.symm),if_neg h3]
theorem Qru:∀ {l:List Qa} {k v:Int} {y:Qa},y∈Qeu l k v->y∈l\/y=⟨k,v⟩
 | [],k,v,y,h=>.inr (by simpa [Qeu] using h)
 | x :: l,k,v,y,h=>by
  simp only [Qeu] at h
  split at h
  ·rcases List.mem_cons.1 h with rfl | h
   ·exact .inl (by simp)
   rcases Qru h with h | h
   ·exact .inl (List.mem_cons_of_mem _ h)
   exact .inr h
  split at h
  ·rcases List.mem_cons.1 h with rfl | h
   ·exact .inr rfl
   exact .inl (List.mem_cons_of_mem _ h)
  rcases List.mem_cons.1 h with rfl | h
  ·exact .inr rfl
  exact .inl h
theorem Up.Qeu:∀ {l:List Qa} (k v:Int),Up l->Up (Qeu l k v)
 | [],k,v,_=>by simp [SyP.Qeu,Up]
 | x :: l,k,v,h=>by
  simp only [SyP.Qeu]
  split
  ·rename_i h1
   refine List.pairwise_cons.2 ⟨fun y hy=>?_,Up.Qeu k v h.tail⟩
   rcases Qru hy with hy | rfl
   ·exact h.head y hy
   exact h1
  split
  ·rename_i h1 h2
   exact List.pairwise_cons.2 ⟨fun y hy=>by have:=h.head y hy;show k < y.Key;omega,h.tail⟩
  rename_i h1 h2
  refine List.pairwise_cons.2 ⟨fun y hy=>?_,h⟩
  show k < y.Key
  rcases List.mem_cons.1 hy with rfl | hy
  ·omega
  have:=h.head y hy;omega
theorem Tb.Qeu {l:List Qa} {k v:Int} (h:Tb l) (ho:okP ⟨k,v⟩):Tb (Qeu l k v):=
 ⟨fun y hy=>(Qru hy).elim (fun hy=>h.ok y hy) (fun e=>e▸ho),h.up.Qeu k v⟩
theorem Qkc:∀ (l:List Qa) (k v:Int),(Qeu l k v).length<=l.length+1
 | [],_,_=>by simp [Qeu]
 | x :: l,k,v=>by
  simp only [Qeu]
  split
  ·have:=Qkc l k v
   simp only [List.length_cons]
   omega
  split<;>simp
def low:List Qa->Int->Nat
 | [],_=>0
 | x :: l,k=>if x.Key < k then low l k+1 else 0
theorem Qwy:∀ (l:List Qa) (k:Int),low l k<=l.length
 | [],_=>Nat.le_refl _
 | x :: l,k=>by
  simp only [low,List.length_cons]
  have:=Qwy l k
  split<;>omega
theorem Wdo:∀ {l:List Qa} {k:Int} {i:Nat},i < low l k->(l.getD i Qa.z).Key < k
 | x :: l,k,i,h=>by
  simp only [low] at h
  split at h
  ·rename_i h1
   cases i with
   | zero=>exact h1
   | succ i=>exact Wdo (l:=l) (by omega)
  omega
theorem Wdn:∀ {l:List Qa} {k:Int} {i:Nat},Up l->low l k<=i->i < l.length->k<=(l.getD i Qa.z).Key
 | x :: l,k,i,hu,h,hi=>by
  simp only [low] at h
  split at h
  ·rename_i h1
   cases i with
   | zero=>omega
   | succ i=>exact Wdn (l:=l) hu.tail (by omega) (by simpa using hi)
  rename_i h1
  cases i with
  | zero=>show k<=x.Key;omega
  | succ i=>
   have hi':i < l.length:=by simpa using hi
   have hm:l.getD i Qa.z∈l:=by
    simp [List.getD_eq_getElem?_getD,List.getElem?_eq_getElem hi',List.getElem_mem]
   have:=hu.head _ hm
   show k<=(l.getD i Qa.z).Key
   omega
def hit (l:List Qa) (k:Int):Bool:=decide (low l k < l.length) && decide ((l.getD (low l k) Qa.z).Key=k)
theorem Qwo:∀ {l:List Qa} {k:Int},Up l->look l k=if hit l k=true then some (l.getD (low l k) Qa.z).Val else none
 | [],k,_=>by simp [look,hit,low]
 | x :: l,k,hu=>by
  have ih:=Qwo (k:=k) hu.tail
  simp only [look,hit,low] at ih ⊢
  by_cases h1:x.Key < k
  ·rw [if_neg (by omega),ih]
   simp only [if_pos h1]
   simp
  simp only [if_neg h1]
  by_cases h2:x.Key=k
  ·simp [h2]
  simp only [if_neg h2]
  rw [Qhd fun y hy=>by have:=hu.head y hy;omega]
  simp [h2]
theorem Qw6:∀ {l:List Qa} {k:Int} (v:Int),hit l k=true->Qeu l k v=l.set (low l k) ⟨k,v⟩
 | [],k,v,h=>by simp [hit,low] at h
 | x :: l,k,v,h=>by
  have ih:=Qw6 (l:=l) (k:=k) v
  simp only [hit,low,Qeu] at ih h ⊢
  by_cases h1:x.Key < k
  ·simp only [if_pos h1] at h ⊢
   rw [ih (by simpa using h)]
   rfl
  simp only [if_neg h1] at h ⊢
  have:x.Key=k:=by simpa using h
  rw [if_pos this]
  rfl
theorem Quw:∀ {l:List Qa} {k:Int} (v:Int),hit l k=false->Qeu l k v=l.take (low l k) ++ ⟨k,v⟩ :: l.drop (low l k)
 | [],k,v,h=>by simp [low,Qeu]
 | x :: l,k,v,h=>by
  have ih:=Quw (l:=l) (k:=k) v
  simp only [hit,low,Qeu] at ih h ⊢
  by_cases h1:x.Key < k
  ·simp only [if_pos h1] at h ⊢
   rw [ih (by simpa using h)]
   rfl
  simp only [if_neg h1] at h ⊢
  have:¬ x.Key=k:=by simpa using h
  rw [if_neg this]
  rfl
theorem Up.filter {l:List Qa} (q:Qa->Bool) (h:Up l):Up (l.filter q):=List.Pairwise.sublist List.filter_sublist h
theorem Tb.filter {l:List Qa} (q:Qa->Bool) (h:Tb l):Tb (l.filter q):=⟨fun x hx=>h.ok x (List.mem_filter.1 hx).1,h.up.filter q⟩
theorem Qrc:∀ (l:List Qa) (q:Int->Bool) (k:Int),look (l.filter fun x=>q x.Key) k=if q k=true then look l k else none
 | [],q,k=>by simp [look]
 | x :: l,q,k=>by
  have ih:=Qrc l q k
  rw [List.filter_cons]
  by_cases h1:q x.Key=true
  ·rw [if_pos h1,look,look,ih]
   by_cases h2:x.Key=k
   ·rw [if_pos h2,if_pos h2,if_pos (h2▸h1)]
   rw [if_neg h2,if_neg h2]
  rw [if_neg h1,ih,look]
  by_cases h2:x.Key=k
  ·rw [if_neg (h2▸h1),if_neg (h2▸h1)]
  rw [if_neg h2]
end Go.SyP
