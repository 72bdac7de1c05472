/- Sets of keys as lists of spans: the plain mathematics. No program in sight. -/
set_option linter.unusedVariables false
namespace Go.SyP.Sets
abbrev Sp:=Int × Int
def Ok (x:Sp):Prop:=0<=x.1/\x.1 < x.2/\x.2<=4096
instance (x:Sp):Decidable (Ok x):=inferInstanceAs (Decidable (_/\_/\_))
def mem (l:List Sp) (k:Int):Prop:=∃ x∈l,x.1<=k/\k < x.2
structure Canon (l:List Sp):Prop where
 ok:∀ x∈l,Ok x
 apart:l.Pairwise fun x y=>x.2 < y.1
theorem Qku {k:Int}:¬ mem [] k:=by rintro ⟨x,h,_⟩;cases h
theorem mem_cons {x:Sp} {l:List Sp} {k:Int}:mem (x :: l) k↔(x.1<=k/\k < x.2)\/mem l k:=by
 constructor
 ·rintro ⟨y,hy,h⟩
  rcases List.mem_cons.1 hy with rfl | hy
  ·exact .inl h
  exact .inr ⟨y,hy,h⟩
 rintro (h | ⟨y,hy,h⟩)
 ·exact ⟨x,List.mem_cons_self ..,h⟩
 exact ⟨y,List.mem_cons_of_mem _ hy,h⟩
theorem mem_append {l m:List Sp} {k:Int}:mem (l ++ m) k↔mem l k\/mem m k:=by
 induction l with
 | nil=>simp [Qku]
 | cons x l ih=>rw [List.cons_append,mem_cons,mem_cons,ih,or_assoc]
theorem Wi6 {l m:List Sp} (h:l.Perm m) {k:Int}:mem l k↔mem m k:=
 ⟨fun ⟨x,a,b⟩=>⟨x,h.mem_iff.1 a,b⟩,fun ⟨x,a,b⟩=>⟨x,h.mem_iff.2 a,b⟩⟩
theorem Canon.nil:Canon []:=⟨fun x h=>by simp at h,.nil⟩
theorem Canon.tail {x:Sp} {l:List Sp} (h:Canon (x :: l)):Canon l:=⟨fun y hy=>h.ok y (List.mem_cons_of_mem _ hy),(List.pairwise_cons.1 h.apart).2⟩
theorem Canon.head {x:Sp} {l:List Sp} (h:Canon (x :: l)):∀ y∈l,x.2 < y.1:=(List.pairwise_cons.1 h.apart).1
theorem Canon.bound {l:List Sp} (h:Canon l) {k:Int} (m:mem l k):0<=k/\k < 4096:=by
 obtain ⟨x,hx,h1,h2⟩:=m
 have:=h.ok x hx
 unfold Ok at this
 omega
theorem Canon.Qrm {x:Sp} {l:List Sp} (h:Canon (x :: l)) {k:Int} (m:mem l k):x.2 < k:=by
 obtain ⟨y,hy,h1,h2⟩:=m
 have:=h.head y hy
 omega
theorem Canon.unique:∀ {l m:List Sp},Canon l->Canon m->(∀ k,mem l k↔mem m k)->l=m
 | [],[],_,_,_=>rfl
 | [],y :: m,_,hm,e=>by
  have:=hm.ok y (List.mem_cons_self ..)
  unfold Ok at this
  exact absurd ((e y.1).2 (mem_cons.2 (.inl ⟨by omega,by omega⟩))) Qku
 | x :: l,[],hl,_,e=>by
  have:=hl.ok x (List.mem_cons_self ..)
  unfold Ok at this
  exact absurd ((e x.1).1 (mem_cons.2 (.inl ⟨by omega,by omega⟩))) Qku
 | x :: l,y :: m,hl,hm,e=>by
  have ox:=hl.ok x (List.mem_cons_self ..)
  have oy:=hm.ok y (List.mem_cons_self ..)
  unfold Ok at ox oy
  have e1:x.1=y.1:=by
   have a:=(e x.1).1 (mem_cons.2 (.inl ⟨by omega,by omega⟩))
   have b:=(e y.1).2 (mem_cons.2 (.inl ⟨by omega,by omega⟩))
   have a':y.1<=x.1:=by
    rcases mem_cons.1 a with a | a
    ·exact a.1
    have:=hm.Qrm a;omega
   have b':x.1<=y.1:=by
    rcases mem_cons.1 b with a | a
    ·exact a.1
    have:=hl.Qrm a;omega
   omega
  have e2:x.2=y.2:=by
   apply Classical.byContradiction
   intro hne
   rcases Int.lt_or_gt_of_ne hne with h | h
   ·have:=(e x.2).2 (mem_cons.2 (.inl ⟨by omega,by omega⟩))
    rcases mem_cons.1 this with a | a
    ·omega
    have:=hl.Qrm a;omega
   have:=(e y.2).1 (mem_cons.2 (.inl ⟨by omega,by omega⟩))
   rcases mem_cons.1 this with a | a
   ·omega
   have:=hm.Qrm a;omega
  have ex:x=y:=Prod.ext e1 e2
  subst ex
  rw [Canon.unique hl.tail hm.tail fun k=>?_]
  have:=e k
  rw [mem_cons,mem_cons] at this
  constructor
  ·intro h
   have h2:=hl.Qrm h
   rcases this.1 (.inr h) with h3 | h3
   ·omega
   exact h3
  intro h
  have h2:=hm.Qrm h
  rcases this.2 (.inr h) with h3 | h3
  ·omega
  exact h3
def Qdq (m:Nat->Bool):List Bool:=(List.range 4096).map m
theorem Qmk (m:Nat->Bool):(Qdq m).length=4096:=by simp [Qdq]
theorem Wc2 (m:Nat->Bool) {k:Nat} (h:k < 4096):(Qdq m).getD k false=m k:=by simp [Qdq,h]
theorem Qna {m m':Nat->Bool} (h:∀ k,k < 4096->m k=m' k):Qdq m=Qdq m':=by
 unfold Qdq
 exact List.map_congr_left fun k hk=>h k (by simpa using hk)
theorem Wc3 (m:Nat->Bool) {j:Nat} (h:j < 4096):(Qdq m).set j true=Qdq fun k=>m k || k == j:=by
 apply List.ext_getElem?
 intro i
 unfold Qdq
 rw [List.getElem?_set]
 by_cases e:j=i
 ·subst e;simp [h]
 simp only [e,if_false,List.getElem?_map]
 cases hi:(List.range 4096)[i]? with
 | none=>rfl
 | some v=>
  have:=(List.getElem?_eq_some_iff.1 hi).2
  simp at this
  subst this
  have:(i == j)=false:=by simpa using fun e'=>e (Eq.symm e')
  simp [this]
def Qtk (l:List Sp) (k:Int):Bool:=l.any fun x=>decide (x.1<=k) && decide (k < x.2)
theorem Wi5 {l:List Sp} {k:Int}:Qtk l k=true↔mem l k:=by
 simp [Qtk,mem]
def keys (l:List Sp):List Bool:=Qdq fun k=>Qtk (l.filter fun x=>decide (Ok x)) k
def cut (x y:Sp):Option Sp:=if max x.1 y.1 < min x.2 y.2 then some (max x.1 y.1,min x.2 y.2) else none
def both (a b:List Sp):List Sp:=a.flatMap fun x=>b.filterMap fun y=>cut x y
theorem Qlg {x y z:Sp} (h:cut x y=some z):z=(max x.1 y.1,min x.2 y.2)/\max x.1 y.1 < min x.2 y.2:=by
 unfold cut at h
 split at h
 ·injection h with h
  exact ⟨h.symm,by assumption⟩
 cases h
theorem Qyy {a b:List Sp} {k:Int}:mem (both a b) k↔mem a k/\mem b k:=by
 constructor
 ·rintro ⟨z,hz,h1,h2⟩
  obtain ⟨x,hx,hz⟩:=List.mem_flatMap.1 hz
  obtain ⟨y,hy,hz⟩:=List.mem_filterMap.1 hz
  obtain ⟨rfl,h3⟩:=Qlg hz
  simp only at h1 h2
  exact ⟨⟨x,hx,by omega,by omega⟩,⟨y,hy,by omega,by omega⟩⟩
 rintro ⟨⟨x,hx,h1,h2⟩,⟨y,hy,h3,h4⟩⟩
 refine ⟨(max x.1 y.1,min x.2 y.2),List.mem_flatMap.2 ⟨x,hx,List.mem_filterMap.2 ⟨y,hy, ?_⟩⟩,by simp only;omega,by simp only;omega⟩
 unfold cut
 rw [if_pos (by omega)]
theorem Canon.both {a b:List Sp} (ha:Canon a) (hb:Canon b):Canon (both a b):=by
 constructor
 ·intro z hz
  obtain ⟨x,hx,hz⟩:=List.mem_flatMap.1 hz
  obtain ⟨y,hy,hz⟩:=List.mem_filterMap.1 hz
  obtain ⟨rfl,h3⟩:=Qlg hz
  have:=ha.ok x hx
  have:=hb.ok y hy
  unfold Ok at *
  simp only
  omega
 unfold Sets.both
 rw [List.pairwise_flatMap]
 refine ⟨fun x hx=>?_,ha.apart.imp fun {x x'} hxx u hu v hv=>?_⟩
 ·rw [List.pairwise_filterMap]
  refine hb.apart.imp fun {y y'} hyy u hu v hv=>?_
  obtain ⟨rfl,h3⟩:=Qlg hu
  obtain ⟨rfl,h4⟩:=Qlg hv
  simp only
  omega
 obtain ⟨y,hy,hu⟩:=List.mem_filterMap.1 hu
 obtain ⟨y',hy',hv⟩:=List.mem_filterMap.1 hv
 obtain ⟨rfl,h3⟩:=Qlg hu
 obtain ⟨rfl,h4⟩:=Qlg hv
 simp only
 omega
def size (l:List Sp):Int:=l.foldr (fun x n=>x.2 - x.1+n) 0
end Go.SyP.Sets
