/- Sets of keys at the seat of table: what the loops come to (printed of P03B). -/
import Derived.Test.YtdhmflhncidjaaaGreatGthzP
import Derived.Test.YtdhmflhncidjaaaGreatP03A
set_option linter.unusedVariables false
set_option linter.unusedSimpArgs false
namespace Go.SyP
open Go Go.Sy Sets
theorem wr {n:Int} (h:-9223372036854775808<=n/\n<=9223372036854775807):IntKind.wrap .i64 n=n:=by
 simp [IntKind.wrap,IntKind.bits,IntKind.signed];omega
theorem wr1 {i n:Nat} (h:i < n) (hn:n<=9223372036854775807):IntKind.wrap .i64 ((i:Int)+1)=((i+1:Nat):Int):=by
 rw [wr (by omega)];omega
theorem take_at {α:Type} {l:List α} {z:α} {i:Nat} (h:i < l.length):l.take (i+1)=l.take i ++ [l.getD i z]:=by
 rw [List.take_add_one]
 simp [h]
theorem Qfo {α:Type} {l:List α} {z:α} {i:Nat} (h:i < l.length):l.take (i+1)=l.take i ++ [l.getD (i:Int).toNat z]:=take_at h
theorem Qmo {α:Type} {l:List α} {z:α} {i:Nat} (h:i < l.length):l.drop i=l.getD (i:Int).toNat z :: l.drop (i+1):=by
 show l.drop i=l.getD i z :: l.drop (i+1)
 rw [List.drop_eq_getElem_cons h]
 simp [h]
theorem Qe7 {α:Type} {l:List α} {i:Nat} (h:l.length<=i):l.take i=l:=List.take_of_length_le h
theorem Qd7 {σ ρ α:Type} {step:σ->Option (σ ⊕ ρ)} {n:Nat} (st:Nat->α->σ) (I:Nat->α->Prop) (P:ρ->Prop)
  (Qhb:∀ x,I n x->∃ r,step (st n x)=some (.inr r)/\P r)
  (Qay:∀ i x,i < n->I i x->(∃ y,step (st i x)=some (.inl (st (i+1) y))/\I (i+1) y)\/∃ r,step (st i x)=some (.inr r)/\P r):
  ∀ i x,i<=n->I i x->∃ r,Yy step (st i x)=some r/\P r:=by
 have key:∀ m i x,i+m=n->I i x->∃ r,Yy step (st i x)=some r/\P r:=by
  intro m
  induction m with
  | zero=>
   intro i x hi hI
   obtain rfl:i=n:=by omega
   obtain ⟨r,h1,h2⟩:=Qhb x hI
   exact ⟨r,by rw [Ya,h1];rfl,h2⟩
  | succ m ih=>
   intro i x hi hI
   rcases Qay i x (by omega) hI with ⟨y,h1,h2⟩ | ⟨r,h1,h2⟩
   ·obtain ⟨r,h3,h4⟩:=ih (i+1) y (by omega) h2
    exact ⟨r,by rw [Ya,h1];exact h3,h4⟩
   exact ⟨r,by rw [Ya,h1];rfl,h2⟩
 exact fun i x h=>key (n - i) i x (by omega)
def pa (x:Qb):Sp:=(x.Lo,x.Hi)
theorem Qgr {l:List Sp} {x:Sp}:Canon (l ++ [x])↔Canon l/\Ok x/\∀ y∈l,y.2 < x.1:=by
 constructor
 ·intro h
  have hp:=List.pairwise_append.1 h.apart
  exact ⟨⟨fun y hy=>h.ok y (List.mem_append_left _ hy),hp.1⟩,h.ok x (by simp),fun y hy=>hp.2.2 y hy x (by simp)⟩
 rintro ⟨h1,h2,h3⟩
 refine ⟨fun y hy=>?_,List.pairwise_append.2 ⟨h1.apart,by simp,fun y hy z hz=>?_⟩⟩
 ·rcases List.mem_append.1 hy with hy | hy
  ·exact h1.ok y hy
  simp at hy;subst hy;exact h2
 simp at hz;subst hz;exact h3 y hy
theorem Qtx {l:List Sp} {x:Sp} (h:Canon (l ++ [x])):∀ y∈l ++ [x],y.2<=x.2:=by
 intro y hy
 have h2:=Qgr.1 h
 rcases List.mem_append.1 hy with hy | hy
 ·have a:=h2.2.2 y hy
  have b:=h2.2.1
  unfold Ok at b
  omega
 simp at hy;subst hy;exact Int.le_refl _
theorem Wce {l m:List Sp} (h:Canon (l ++ m)):Canon l:=⟨fun y hy=>h.ok y (List.mem_append_left _ hy),(List.pairwise_append.1 h.apart).1⟩
theorem Qjj (x:Qb):Qbk x=decide (Ok (pa x)):=by
 unfold Qbk Qbk.j1 Ok pa
 by_cases h1:x.Lo>=0<;>by_cases h2:x.Lo < x.Hi<;>simp [h1,h2]
end Go.SyP
namespace Go.SyP
open Go Go.Sy Sets
def okP (x:Qa):Prop:=0<=x.Key/\x.Key < 4096/\-1099511627776<=x.Val/\x.Val<=1099511627776
instance (x:Qa):Decidable (okP x):=by unfold okP;exact inferInstance
def Up (l:List Qa):Prop:=l.Pairwise fun x y=>x.Key < y.Key
structure Tb (l:List Qa):Prop where
 ok:∀ x∈l,okP x
 up:Up l
def look:List Qa->Int->Option Int
 | [],_=>none
 | x :: l,k=>if x.Key=k then some x.Val else look l k
theorem Up.tail {x:Qa} {l:List Qa} (h:Up (x :: l)):Up l:=(List.pairwise_cons.1 h).2
theorem Up.head {x:Qa} {l:List Qa} (h:Up (x :: l)):∀ y∈l,x.Key < y.Key:=(List.pairwise_cons.1 h).1
theorem Tb.nil:Tb []:=⟨fun x h=>by simp at h,.nil⟩
theorem Tb.tail {x:Qa} {l:List Qa} (h:Tb (x :: l)):Tb l:=⟨fun y hy=>h.ok y (List.mem_cons_of_mem _ hy),h.up.tail⟩
theorem Qj3 {l:List Qa} {k:Int} (h:∀ x∈l,x.Key≠k):look l k=none:=by
 induction l with
 | nil=>rfl
 | cons x l ih=>
  rw [look,if_neg (h x (by simp)),ih fun y hy=>h y (List.mem_cons_of_mem _ hy)]
theorem Qm0 {l:List Qa} {k v:Int} (h:look l k=some v):(⟨k,v⟩:Qa)∈l:=by
 induction l with
 | nil=>cases h
 | cons x l ih=>
  rw [look] at h
  split at h
  ·rename_i e
   injection h with h
   subst e
   subst h
   simp
  exact List.mem_cons_of_mem _ (ih h)
theorem Whn {l:List Qa} (hu:Up l) {x:Qa} (h:x∈l):look l x.Key=some x.Val:=by
 induction l with
 | nil=>cases h
 | cons y l ih=>
  rw [look]
  rcases List.mem_cons.1 h with rfl | h
  ·rw [if_pos rfl]
  have:=hu.head x h
  rw [if_neg (by omega),ih hu.tail h]
theorem Qsv {l:List Qa} {k:Int} (h:look l k=none):∀ x∈l,x.Key≠k:=by
 induction l with
 | nil=>intro x hx;cases hx
 | cons y l ih=>
  rw [look] at h
  split at h
  ·cases h
  rename_i e
  intro x hx
  rcases List.mem_cons.1 hx with rfl | hx
  ·exact e
  exact ih h x hx
theorem look_ok {l:List Qa} (h:Tb l) {k v:Int} (e:look l k=some v):0<=k/\k < 4096/\-1099511627776<=v/\v<=1099511627776:=h.ok _ (Qm0 e)
theorem Quj {l:List Qa} (h:Tb l) (k:Int):-1099511627776<=(look l k).getD 0/\(look l k).getD 0<=1099511627776:=by
 cases e:look l k with
 | none=>simp
 | some v=>have:=look_ok h e;simp;omega
theorem Up.unique:∀ {l m:List Qa},Up l->Up m->(∀ k,look l k=look m k)->l=m
 | [],[],_,_,_=>rfl
 | [],y :: m,_,_,h=>by have:=h y.Key;simp [look] at this
 | x :: l,[],_,_,h=>by have:=h x.Key;simp [look] at this
 | x :: l,y :: m,hl,hm,h=>by
  have hx:=h x.Key
  have hy:=h y.Key
  simp only [look,if_true] at hx hy
  have e1:x.Key=y.Key:=by
   rcases Int.lt_trichotomy x.Key y.Key with h1 | h1 | h1
   ·rw [if_neg (by omega),Qj3 fun z hz=>by have:=hm.head z hz;omega] at hx
    cases hx
   ·exact h1
   rw [if_neg (by omega),Qj3 fun z hz=>by have:=hl.head z hz;omega] at hy
   cases hy
  rw [if_pos e1.symm] at hx
  injection hx with hx
  have e2:x=y:=by cases x;cases y;simp only at e1 hx;subst e1;subst hx;rfl
  subst e2
  have:=Up.unique hl.tail hm.tail fun k=>by
   have:=h k
   simp only [look] at this
   by_cases hk:x.Key=k
   ·rw [Qj3 fun z hz=>by have:=hl.head z hz;omega,Qj3 fun z hz=>by have:=hm.head z hz;omega]
   rwa [if_neg hk,if_neg hk] at this
  rw [this]
def Qes:List Qa->Int->Int->List Qa
 | [],k,v=>[⟨k,v⟩]
 | x :: l,k,v=>if x.Key < k then x :: Qes l k v else if x.Key=k then ⟨k,v⟩ :: l else ⟨k,v⟩ :: x :: l
theorem Qno:∀ (l:List Qa) (k v j:Int),look (Qes l k v) j=if j=k then some v else look l j
 | [],k,v,j=>by simp only [Qes,look];by_cases h:k=j<;>simp [h,eq_comm]
 | x :: l,k,v,j=>by
  simp only [Qes]
  by_cases h1:x.Key < k
  ·rw [if_pos h1,look,Qno l k v j,look]
   by_cases h2:j=k
   ·rw [if_neg (by omega),if_pos h2,if_pos h2]
   rw [if_neg h2,if_neg h2]
  rw [if_neg h1]
  by_cases h2:x.Key=k
  ·rw [if_pos h2,look,look]
   by_cases h3:j=k
   ·rw [if_pos h3.symm,if_pos h3]
   rw [if_neg (fun e=>h3 e.symm),if_neg h3,if_neg (by omega)]
  rw [if_neg h2,look]
  by_cases h3:j=k
  ·rw [if_pos h3.symm,if_pos h3]
  rw [if_neg (fun e=>h3 e.symm),if_neg h3]
theorem Qta:∀ {l:List Qa} {k v:Int} {y:Qa},y∈Qes l k v->y∈l\/y=⟨k,v⟩
 | [],k,v,y,h=>.inr (by simpa [Qes] using h)
 | x :: l,k,v,y,h=>by
  simp only [Qes] at h
  split at h
  ·rcases List.mem_cons.1 h with rfl | h
   ·exact .inl (by simp)
   rcases Qta h with h | h
   ·exact .inl (List.mem_cons_of_mem _ h)
   exact .inr h
  split at h
  ·rcases List.mem_cons.1 h with rfl | h
   ·exact .inr rfl
   exact .inl (List.mem_cons_of_mem _ h)
  rcases List.mem_cons.1 h with rfl | h
  ·exact .inr rfl
  exact .inl h
theorem Up.Qes:∀ {l:List Qa} (k v:Int),Up l->Up (Qes l k v)
 | [],k,v,_=>by simp [SyP.Qes,Up]
 | x :: l,k,v,h=>by
  simp only [SyP.Qes]
  split
  ·rename_i h1
   refine List.pairwise_cons.2 ⟨fun y hy=>?_,Up.Qes k v h.tail⟩
   rcases Qta hy with hy | rfl
   ·exact h.head y hy
   exact h1
  split
  ·rename_i h1 h2
   exact List.pairwise_cons.2 ⟨fun y hy=>by have:=h.head y hy;show k < y.Key;omega,h.tail⟩
  rename_i h1 h2
  refine List.pairwise_cons.2 ⟨fun y hy=>?_,h⟩
  show k < y.Key
  rcases List.mem_cons.1 hy with rfl | hy
  ·omega
  have:=h.head y hy;omega
theorem Tb.Qes {l:List Qa} {k v:Int} (h:Tb l) (ho:okP ⟨k,v⟩):Tb (Qes l k v):=
 ⟨fun y hy=>(Qta hy).elim (fun hy=>h.ok y hy) (fun e=>e▸ho),h.up.Qes k v⟩
theorem Qli:∀ (l:List Qa) (k v:Int),(Qes l k v).length<=l.length+1
 | [],_,_=>by simp [Qes]
 | x :: l,k,v=>by
  simp only [Qes]
  split
  ·have:=Qli l k v
   simp only [List.length_cons]
   omega
  split<;>simp
def low:List Qa->Int->Nat
 | [],_=>0
 | x :: l,k=>if x.Key < k then low l k+1 else 0
theorem Qzp:∀ (l:List Qa) (k:Int),low l k<=l.length
 | [],_=>Nat.le_refl _
 | x :: l,k=>by
  simp only [low,List.length_cons]
  have:=Qzp l k
  split<;>omega
theorem Whq:∀ {l:List Qa} {k:Int} {i:Nat},i < low l k->(l.getD i Qa.z).Key < k
 | x :: l,k,i,h=>by
  simp only [low] at h
  split at h
  ·rename_i h1
   cases i with
   | zero=>exact h1
   | succ i=>exact Whq (l:=l) (by omega)
  omega
theorem Whp:∀ {l:List Qa} {k:Int} {i:Nat},Up l->low l k<=i->i < l.length->k<=(l.getD i Qa.z).Key
 | x :: l,k,i,hu,h,hi=>by
  simp only [low] at h
  split at h
  ·rename_i h1
   cases i with
   | zero=>omega
   | succ i=>exact Whp (l:=l) hu.tail (by omega) (by simpa using hi)
  rename_i h1
  cases i with
  | zero=>show k<=x.Key;omega
  | succ i=>
   have hi':i < l.length:=by simpa using hi
   have hm:l.getD i Qa.z∈l:=by
    simp [List.getD_eq_getElem?_getD,List.getElem?_eq_getElem hi',List.getElem_mem]
   have:=hu.head _ hm
   show k<=(l.getD i Qa.z).Key
   omega
def hit (l:List Qa) (k:Int):Bool:=decide (low l k < l.length) && decide ((l.getD (low l k) Qa.z).Key=k)
theorem Qyz:∀ {l:List Qa} {k:Int},Up l->look l k=if hit l k=true then some (l.getD (low l k) Qa.z).Val else none
 | [],k,_=>by simp [look,hit,low]
 | x :: l,k,hu=>by
  have ih:=Qyz (k:=k) hu.tail
  simp only [look,hit,low] at ih ⊢
  by_cases h1:x.Key < k
  ·rw [if_neg (by omega),ih]
   simp only [if_pos h1]
   simp
  simp only [if_neg h1]
  by_cases h2:x.Key=k
  ·simp [h2]
  simp only [if_neg h2]
  rw [Qj3 fun y hy=>by have:=hu.head y hy;omega]
  simp [h2]
theorem Qzx:∀ {l:List Qa} {k:Int} (v:Int),hit l k=true->Qes l k v=l.set (low l k) ⟨k,v⟩
 | [],k,v,h=>by simp [hit,low] at h
 | x :: l,k,v,h=>by
  have ih:=Qzx (l:=l) (k:=k) v
  simp only [hit,low,Qes] at ih h ⊢
  by_cases h1:x.Key < k
  ·simp only [if_pos h1] at h ⊢
   rw [ih (by simpa using h)]
   rfl
  simp only [if_neg h1] at h ⊢
  have:x.Key=k:=by simpa using h
  rw [if_pos this]
  rfl
theorem Qwr:∀ {l:List Qa} {k:Int} (v:Int),hit l k=false->Qes l k v=l.take (low l k) ++ ⟨k,v⟩ :: l.drop (low l k)
 | [],k,v,h=>by simp [low,Qes]
 | x :: l,k,v,h=>by
  have ih:=Qwr (l:=l) (k:=k) v
  simp only [hit,low,Qes] at ih h ⊢
  by_cases h1:x.Key < k
  ·simp only [if_pos h1] at h ⊢
   rw [ih (by simpa using h)]
   rfl
  simp only [if_neg h1] at h ⊢
  have:¬ x.Key=k:=by simpa using h
  rw [if_neg this]
  rfl
theorem Up.filter {l:List Qa} (q:Qa->Bool) (h:Up l):Up (l.filter q):=List.Pairwise.sublist List.filter_sublist h
theorem Tb.filter {l:List Qa} (q:Qa->Bool) (h:Tb l):Tb (l.filter q):=⟨fun x hx=>h.ok x (List.mem_filter.1 hx).1,h.up.filter q⟩
theorem Qsu:∀ (l:List Qa) (q:Int->Bool) (k:Int),look (l.filter fun x=>q x.Key) k=if q k=true then look l k else none
 | [],q,k=>by simp [look]
 | x :: l,q,k=>by
  have ih:=Qsu l q k
  rw [List.filter_cons]
  by_cases h1:q x.Key=true
  ·rw [if_pos h1,look,look,ih]
   by_cases h2:x.Key=k
   ·rw [if_pos h2,if_pos h2,if_pos (h2▸h1)]
   rw [if_neg h2,if_neg h2]
  rw [if_neg h1,ih,look]
  by_cases h2:x.Key=k
  ·rw [if_neg (h2▸h1),if_neg (h2▸h1)]
  rw [if_neg h2]
end Go.SyP
namespace Go.SyP
open Go Go.Sy Sets
theorem Qol {l:List Qa} {x:Qa}:Tb (l ++ [x])↔Tb l/\okP x/\∀ y∈l,y.Key < x.Key:=by
 constructor
 ·intro h
  have hp:=List.pairwise_append.1 h.up
  exact ⟨⟨fun y hy=>h.ok y (List.mem_append_left _ hy),hp.1⟩,h.ok x (by simp),fun y hy=>hp.2.2 y hy x (by simp)⟩
 rintro ⟨h1,h2,h3⟩
 refine ⟨fun y hy=>?_,List.pairwise_append.2 ⟨h1.up,by simp,fun y hy z hz=>?_⟩⟩
 ·rcases List.mem_append.1 hy with hy | hy
  ·exact h1.ok y hy
  simp at hy;subst hy;exact h2
 simp at hz;subst hz;exact h3 y hy
theorem Wm8 {l:List Qa} {x:Qa} (h:Tb (l ++ [x])):∀ y∈l ++ [x],y.Key<=x.Key:=by
 intro y hy
 have h2:=Qol.1 h
 rcases List.mem_append.1 hy with hy | hy
 ·exact Int.le_of_lt (h2.2.2 y hy)
 simp at hy;subst hy;exact Int.le_refl _
theorem Qvp {l m:List Qa} (h:Tb (l ++ m)):Tb l:=⟨fun y hy=>h.ok y (List.mem_append_left _ hy),(List.pairwise_append.1 h.up).1⟩
abbrev Weq (o:Option Int):Int × Bool:=(o.getD 0,o.isSome)
end Go.SyP
namespace Go.SyP
open Go Go.Sy Sets
def hasB (on:List Qb) (k:Int):Bool:=(on.map pa).any fun x=>decide (Ok x) && decide (x.1<=k) && decide (k < x.2)
def SOk (on:List Qb):Prop:=Canon (on.map pa)/\on.length<=64
theorem Wp5 {on:List Qb} (h:SOk on) {k:Int}:hasB on k=true↔mem (on.map pa) k:=by
 unfold hasB mem
 simp only [List.any_eq_true,Bool.and_eq_true,decide_eq_true_eq]
 constructor
 ·rintro ⟨x,h1,⟨h2,h3⟩,h4⟩
  exact ⟨x,h1,h3,h4⟩
 rintro ⟨x,h1,h3,h4⟩
 exact ⟨x,h1,⟨h.1.ok x h1,h3⟩,h4⟩
theorem Wg9 (a:List Qa) (hn:a.length<=9223372036854775807) (q:Qa->Bool):∃ r,Yn a (fun z=>some (q z))=some r /\
  ((r=-1/\∀ x∈a,q x=false)\/∃ i:Nat,r=i/\i < a.length/\q (a.getD i Qa.z)=true/\∀ x∈a.take i,q x=false):=by
 unfold Yn
 refine Qd7 (n:=a.length) (fun i (_:Unit)=>Yn.S.l1 (i:Int)) (fun i _=>∀ x∈a.take i,q x=false) _ ?_ ?_ 0 () (Nat.zero_le _) (by simp)
 ·intro _ h
  rw [Qe7 (Nat.le_refl _)] at h
  exact ⟨-1,by simp [Yn.step,Yn.l1],.inl ⟨rfl,h⟩⟩
 intro i _ hi h
 have Qay:(0:Int)<=(i:Int)/\(i:Int) < (a.length:Int):=by omega
 simp only [Yn.step,Yn.l1,Qay.2,if_true,Qay,and_self,Option.bind_some,wr1 hi hn]
 have hx:=Qfo (l:=a) (z:=Qa.z) hi
 have hg:a.getD (i:Int).toNat Qa.z=a.getD i Qa.z:=rfl
 rw [hg] at hx ⊢
 cases hq:q (a.getD i Qa.z) with
 | true=>
  right
  exact ⟨i,by simp,.inr ⟨i,rfl,hi,hq,h⟩⟩
 | false=>
  left
  refine ⟨(),by simp,fun x hxm=>?_⟩
  rw [hx] at hxm
  rcases List.mem_append.1 hxm with hm | hm
  ·exact h x hm
  simp at hm;rw [hm,<- hq];simp [List.getD_eq_getElem?_getD]
theorem Wfu (a:List Qa) (hn:a.length<=9223372036854775807) (q:Qa->Bool):Qct a (fun z=>some (q z))=some (a.any q):=by
 unfold Qct
 obtain ⟨r,h1,h2⟩:=Wg9 a hn q
 rw [h1,Option.bind_some]
 congr 1
 rcases h2 with ⟨rfl,h⟩ | ⟨i,rfl,hi,hq,_⟩
 ·rw [Bool.eq_iff_iff]
  simp only [decide_eq_true_eq,List.any_eq_true]
  constructor
  ·intro h;omega
  rintro ⟨x,hx,hq⟩
  rw [h x hx] at hq
  cases hq
 rw [decide_eq_true (by omega)]
 symm
 rw [List.any_eq_true]
 refine ⟨_, ?_,hq⟩
 simp [List.getD_eq_getElem?_getD,hi]
def prs (l:List Qa):Bool:=l.all fun x=>decide (okP x)
theorem Wmv {l:List Qa}:prs l=true↔∀ x∈l,okP x:=by simp [prs]
def Qif (l:List Qa) (lo hi:Int):Bool:=(decide (lo<=(l.length:Int)) && decide ((l.length:Int)<=hi)) && prs l
def Qvu (v:Int):Bool:=decide (-1099511627776<=v) && decide (v<=1099511627776)
theorem Qq0 (v:Int):Qdx v=Qvu v:=by
 unfold Qdx Qdx.j1 Qvu
 by_cases h:v>=-1099511627776
 ·rw [if_pos h,decide_eq_true (show (-1099511627776:Int)<=v by omega)];rfl
 rw [if_neg h,decide_eq_false (show ¬ (-1099511627776:Int)<=v by omega)];rfl
theorem Wa0 (x:Qa):Qe5 x=decide (okP x):=by
 unfold Qe5 Qe5.j1
 rw [Qq0]
 unfold Qvu okP
 by_cases h1:x.Key>=0<;>by_cases h2:x.Key < 4096<;>simp [h1,h2]
theorem Qzs (m:Qp) (lo hi:Int) (hn:m.Pairs.length<=5000):Qcq m lo hi=some (Qif m.Pairs lo hi):=by
 unfold Qcq Qcq.j1 Qif
 rw [Wfu _ (by omega)]
 have e:(!m.Pairs.any fun z0=>Qf3 z0)=prs m.Pairs:=by
  unfold prs Qf3
  rw [List.not_any_eq_all_not]
  congr 1
  funext x
  rw [Wa0]
  simp
 rw [Option.bind_some,e]
 by_cases h1:(m.Pairs.length:Int)>=lo
 ·by_cases h2:(m.Pairs.length:Int)<=hi
  ·rw [if_pos h1,if_pos h2,decide_eq_true (show lo<=(m.Pairs.length:Int) from h1),decide_eq_true h2];simp
  rw [if_pos h1,if_neg h2,decide_eq_false h2];simp
 rw [if_neg h1,decide_eq_false (show ¬ lo<=(m.Pairs.length:Int) from h1)];simp
instance (l:List Qa):Decidable (Up l):=by unfold Up;exact inferInstance
theorem Qvt {l:List Qa} {x:Qa}:Up (l ++ [x])↔Up l/\∀ y∈l,y.Key < x.Key:=by
 unfold Up
 rw [List.pairwise_append]
 simp
theorem Wnb {l:List Qa} {x:Qa} (h:Up (l ++ [x])):∀ y∈l ++ [x],y.Key<=x.Key:=by
 intro y hy
 rcases List.mem_append.1 hy with hy | hy
 ·exact Int.le_of_lt ((Qvt.1 h).2 y hy)
 simp at hy;subst hy;exact Int.le_refl _
theorem Wby {l m:List Qa} (h:Up (l ++ m)):Up l:=(List.pairwise_append.1 h).1
theorem Wnc {l:List Qa} {i:Nat} (h0:0 < i) (hi:i < l.length) (h:Up (l.take i)):Up (l.take (i+1))↔(l.getD (i - 1) Qa.z).Key < (l.getD i Qa.z).Key:=by
 have hx:=take_at (l:=l) (z:=Qa.z) hi
 have hp:=take_at (l:=l) (z:=Qa.z) (i:=i - 1) (by omega)
 rw [show i - 1+1=i by omega] at hp
 rw [hx,Qvt]
 constructor
 ·rintro ⟨_,h2⟩
  exact h2 _ (by rw [hp];simp)
 intro h2
 refine ⟨h,fun y hy=>?_⟩
 rw [hp] at h hy
 have:=Wnb h y hy
 omega
theorem Wib (l:List Qa) (hn:l.length<=5000):Qb9 l=some (decide (Up l)):=by
 unfold Qb9
 rcases Nat.eq_zero_or_pos l.length with h0 | h0
 ·rw [List.length_eq_zero_iff] at h0
  subst h0
  rw [Ya]
  rfl
 obtain ⟨r,e1,e2⟩:∃ r,Yy (Qb9.step l) (.l1 ((1:Nat):Int))=some r/\r=decide (Up l):=by
  refine Qd7 (n:=l.length) (fun i (_:Unit)=>Qb9.S.l1 (i:Int)) (fun i _=>0 < i/\Up (l.take i)) _ ?_ ?_ 1 () (by omega) ⟨by omega,by
   rw [take_at (z:=Qa.z) h0]
   simp [Up]⟩
  ·rintro _ ⟨_,h⟩
   rw [Qe7 (Nat.le_refl _)] at h
   exact ⟨true,by simp [Qb9.step,Qb9.l1],by simp [h]⟩
  rintro i _ hi ⟨hp,h⟩
  have hw:IntKind.wrap .i64 ((i:Int) - 1)=((i - 1:Nat):Int):=by rw [wr (by omega)];omega
  simp only [Qb9.step,Qb9.l1,hw]
  rw [if_pos (by omega),if_pos (by omega),if_pos (by omega),wr1 hi (by omega:l.length<=9223372036854775807)]
  have hm:=Wnc hp hi h
  rw [show ((i - 1:Nat):Int).toNat=i - 1 from rfl,show ((i:Nat):Int).toNat=i from rfl]
  by_cases hc:(l.getD (i - 1) Qa.z).Key>=(l.getD i Qa.z).Key
  ·right
   refine ⟨false,by rw [if_pos hc], ?_⟩
   symm
   rw [decide_eq_false_iff_not]
   intro hu
   rw [<- List.take_append_drop (i+1) l] at hu
   have:=hm.1 (Wby hu)
   omega
  left
  exact ⟨(),by rw [if_neg hc],by omega,hm.2 (by omega)⟩
 rw [show ((1:Nat):Int)=1 from rfl] at e1
 rw [e1,e2]
def Qro (m:Qp):Bool:=
 if m.Kind=2 then (decide (m.Pairs.length=0) && decide (m.Old=0)) && decide (Ok (pa m.Over))
 else (decide (m.Over.Lo=0) && decide (m.Over.Hi=0)) &&
  (if m.Kind=4 then Qif m.Pairs 1 1 && (Qvu m.Old || decide (m.Old=1099511627777))
  else decide (m.Old=0) &&
   (if m.Kind=1 then Qif m.Pairs 1 8 && decide (Up m.Pairs)
   else if m.Kind=3 then Qif m.Pairs 1 1
   else if m.Kind=5 then Qif m.Pairs 2 2 && (decide ((m.Pairs.getD 0 Qa.z).Key≠(m.Pairs.getD 1 Qa.z).Key) && (decide ((m.Pairs.getD 0 Qa.z).Val=(m.Pairs.getD 1 Qa.z).Val) && decide ((m.Pairs.getD 0 Qa.z).Val>=0)))
   else false))
def mOk (m:Qp):Bool:=(decide (1<=m.Client/\m.Client<=1048576) && decide (1<=m.Seq/\m.Seq<=1073741824)) && Qro m
theorem Qtc {l:List Qa} {lo hi:Int} (h:Qif l lo hi=true):lo<=(l.length:Int)/\(l.length:Int)<=hi:=by
 unfold Qif at h
 simp only [Bool.and_eq_true,decide_eq_true_eq] at h
 exact h.1
theorem Wmf (m:Qp) (hn:m.Pairs.length<=5000) (b:Bool):Zq.j1 m b=some (!b &&
  (if m.Kind=1 then Qif m.Pairs 1 8 && decide (Up m.Pairs)
  else if m.Kind=2 then decide (m.Pairs.length=0) && decide (Ok (pa m.Over))
  else if m.Kind=3 then Qif m.Pairs 1 1
  else if m.Kind=4 then Qif m.Pairs 1 1 && (Qvu m.Old || decide (m.Old=1099511627777))
  else if m.Kind=5 then Qif m.Pairs 2 2 && (decide ((m.Pairs.getD 0 Qa.z).Key≠(m.Pairs.getD 1 Qa.z).Key) && (decide ((m.Pairs.getD 0 Qa.z).Val=(m.Pairs.getD 1 Qa.z).Val) && decide ((m.Pairs.getD 0 Qa.z).Val>=0)))
  else false)):=by
 unfold Zq.j1
 cases b with
 | true=>simp
 | false=>
  rw [if_neg (by decide)]
  have e1:∀ lo hi,Qcq (⟨m.Client,m.Seq,m.Kind,m.Pairs,(⟨m.Over.Lo,m.Over.Hi⟩:Qb),m.Old⟩:Qp) lo hi=some (Qif m.Pairs lo hi):=fun lo hi=>Qzs m lo hi hn
  simp only [e1,Option.bind_some,Wib _ hn,Qjj,Qq0,Zq.j2,Zq.j3,Zq.j4,Zq.j5,Bool.not_false,Bool.true_and]
  by_cases k1:m.Kind=1
  ·rw [if_pos k1,if_pos k1]
   cases Qif m.Pairs 1 8<;>simp
  by_cases k2:m.Kind=2
  ·rw [if_neg k1,if_pos k2,if_neg k1,if_pos k2]
   by_cases h:m.Pairs.length=0
   ·rw [if_pos (by omega),decide_eq_true h];simp
   rw [if_neg (by omega),decide_eq_false h];simp
  by_cases k3:m.Kind=3
  ·simp [k3]
  by_cases k4:m.Kind=4
  ·simp only [k4,if_neg (show ¬ (4:Int)=1 by decide),if_neg (show ¬ (4:Int)=2 by decide),if_neg (show ¬ (4:Int)=3 by decide),if_true]
   cases Qif m.Pairs 1 1<;>cases Qvu m.Old<;>first | rfl | simp
  by_cases k5:m.Kind=5
  ·simp only [k5,if_neg (show ¬ (5:Int)=1 by decide),if_neg (show ¬ (5:Int)=2 by decide),if_neg (show ¬ (5:Int)=3 by decide),if_neg (show ¬ (5:Int)=4 by decide),if_true]
   cases hp:Qif m.Pairs 2 2 with
   | false=>simp
   | true=>
    have:=Qtc hp
    rw [if_pos rfl,if_pos (by omega),if_pos (by omega)]
    generalize m.Pairs.getD 0 Qa.z=P0
    generalize m.Pairs.getD 1 Qa.z=P1
    by_cases h1:P0.Key=P1.Key
    ·rw [if_pos h1];simp [h1]
    rw [if_neg h1]
    by_cases h2:P0.Val=P1.Val
    ·rw [if_pos h2];simp [h1,h2]
    rw [if_neg h2];simp [h2]
  simp only [if_neg k1,if_neg k2,if_neg k3,if_neg k4,if_neg k5]
theorem Waz (m:Qp) (hn:m.Pairs.length<=5000):Zq m=some (Qro m):=by
 unfold Zq Qro
 simp only [Wmf m hn]
 by_cases k2:m.Kind=2
 ·have k4:¬ m.Kind=4:=by omega
  have k1:¬ m.Kind=1:=by omega
  simp only [if_pos k2,if_neg k4,if_neg k1]
  by_cases h:m.Old=0<;>simp [h]
 simp only [if_neg k2]
 by_cases h1:m.Over.Lo=0
 ·by_cases h2:m.Over.Hi=0
  ·by_cases k4:m.Kind=4
   ·have k1:¬ m.Kind=1:=by omega
    have k3:¬ m.Kind=3:=by omega
    simp [h1,h2,if_pos k4,if_neg k1,if_neg k3]
   simp only [if_neg k4,if_pos h1,if_pos h2]
   by_cases h:m.Old=0<;>simp [h1,h2,h]
  simp [h1,h2]
 by_cases h2:m.Over.Hi=0
 ·simp [h1,h2]
 simp [h1,h2]
theorem Qge (m:Qp) (hn:m.Pairs.length<=5000):Qbi m=some (mOk m):=by
 unfold Qbi Qbi.j1 mOk
 have e1:Zq (⟨m.Client,m.Seq,m.Kind,m.Pairs,(⟨m.Over.Lo,m.Over.Hi⟩:Qb),m.Old⟩:Qp)=some (Qro m):=Waz m hn
 simp only [e1,Option.bind_some]
 by_cases h1:m.Client>=1
 ·by_cases h2:m.Client<=1048576
  ·by_cases h3:m.Seq>=1
   ·by_cases h4:m.Seq<=1073741824
    ·rw [if_pos h1,if_pos h2,if_pos h3,if_pos h4,decide_eq_true (show 1<=m.Client/\m.Client<=1048576 from ⟨h1,h2⟩),decide_eq_true (show 1<=m.Seq/\m.Seq<=1073741824 from ⟨h3,h4⟩)]
     simp
    rw [if_pos h1,if_pos h2,if_pos h3,if_neg h4,decide_eq_false (p:=1<=m.Seq/\m.Seq<=1073741824) (by omega)]
    simp
   rw [if_pos h1,if_pos h2,if_neg h3,decide_eq_false (p:=1<=m.Seq/\m.Seq<=1073741824) (by omega)]
   simp
  rw [if_pos h1,if_neg h2,decide_eq_false (p:=1<=m.Client/\m.Client<=1048576) (by omega)]
  simp
 rw [if_neg h1,decide_eq_false (p:=1<=m.Client/\m.Client<=1048576) (by omega)]
 simp
end Go.SyP
