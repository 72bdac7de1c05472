/- Sets of keys as lists of spans: the plain mathematics. No program in sight. -/
set_option linter.unusedVariables false
namespace Go.SyP.Sets
abbrev Sp:=Int × Int
def Ok (x:Sp):Prop:=0<=x.1/\x.1 < x.2/\x.2<=4096
instance (x:Sp):Decidable (Ok x):=inferInstanceAs (Decidable (_/\_/\_))
def mem (l:List Sp) (k:Int):Prop:=∃ x∈l,x.1<=k/\k < x.2
structure Canon (l:List Sp):Prop where
 ok:∀ x∈l,Ok x
 apart:l.Pairwise fun x y=>x.2 < y.1
theorem Qrs {k:Int}:¬ mem [] k:=by rintro ⟨x,h,_⟩;cases h
theorem mem_cons {x:Sp} {l:List Sp} {k:Int}:mem (x :: l) k↔(x.1<=k/\k < x.2)\/mem l k:=by
 constructor
 ·rintro ⟨y,hy,h⟩
  rcases List.mem_cons.1 hy with rfl | hy
  ·exact .inl h
  exact .inr ⟨y,hy,h⟩
 rintro (h | ⟨y,hy,h⟩)
 ·exact ⟨x,List.mem_cons_self ..,h⟩
 exact ⟨y,List.mem_cons_of_mem _ hy,h⟩
theorem mem_append {l m:List Sp} {k:Int}:mem (l ++ m) k↔mem l k\/mem m k:=by
 induction l with
 | nil=>simp [Qrs]
 | cons x l ih=>rw [List.cons_append,mem_cons,mem_cons,ih,or_assoc]
theorem Wkf {l m:List Sp} (h:l.Perm m) {k:Int}:mem l k↔mem m k:=
 ⟨fun ⟨x,a,b⟩=>⟨x,h.mem_iff.1 a,b⟩,fun ⟨x,a,b⟩=>⟨x,h.mem_iff.2 a,b⟩⟩
theorem Canon.nil:Canon []:=⟨fun x h=>by simp at h,.nil⟩
def keysOf (m:Nat->Bool):List Bool:=(List.range 4096).map m
def Wp8 (l:List Sp) (k:Int):Bool:=l.any fun x=>decide (x.1<=k) && decide (k < x.2)
def keys (l:List Sp):List Bool:=keysOf fun k=>Wp8 (l.filter fun x=>decide (Ok x)) k
def cut (x y:Sp):Option Sp:=if max x.1 y.1 < min x.2 y.2 then some (max x.1 y.1,min x.2 y.2) else none
def both (a b:List Sp):List Sp:=a.flatMap fun x=>b.filterMap fun y=>cut x y
theorem Qkt {x y z:Sp} (h:cut x y=some z):z=(max x.1 y.1,min x.2 y.2)/\max x.1 y.1 < min x.2 y.2:=by
 unfold cut at h
 split at h
 ·injection h with h
  exact ⟨h.symm,by assumption⟩
 cases h
theorem Qzr {a b:List Sp} {k:Int}:mem (both a b) k↔mem a k/\mem b k:=by
 constructor
 ·rintro ⟨z,hz,h1,h2⟩
  obtain ⟨x,hx,hz⟩:=List.mem_flatMap.1 hz
  obtain ⟨y,hy,hz⟩:=List.mem_filterMap.1 hz
  obtain ⟨rfl,h3⟩:=Qkt hz
  simp only at h1 h2
  exact ⟨⟨x,hx,by omega,by omega⟩,⟨y,hy,by omega,by omega⟩⟩
 rintro ⟨⟨x,hx,h1,h2⟩,⟨y,hy,h3,h4⟩⟩
 refine ⟨(max x.1 y.1,min x.2 y.2),List.mem_flatMap.2 ⟨x,hx,List.mem_filterMap.2 ⟨y,hy, ?_⟩⟩,by simp only;omega,by simp only;omega⟩
 unfold cut
 rw [if_pos (by omega)]
theorem Canon.both {a b:List Sp} (ha:Canon a) (hb:Canon b):Canon (both a b):=by
 constructor
 ·intro z hz
  obtain ⟨x,hx,hz⟩:=List.mem_flatMap.1 hz
  obtain ⟨y,hy,hz⟩:=List.mem_filterMap.1 hz
  obtain ⟨rfl,h3⟩:=Qkt hz
  have:=ha.ok x hx
  have:=hb.ok y hy
  unfold Ok at *
  simp only
  omega
 unfold Sets.both
 rw [List.pairwise_flatMap]
 refine ⟨fun x hx=>?_,ha.apart.imp fun {x x'} hxx u hu v hv=>?_⟩
 ·rw [List.pairwise_filterMap]
  refine hb.apart.imp fun {y y'} hyy u hu v hv=>?_
  obtain ⟨rfl,h3⟩:=Qkt hu
  obtain ⟨rfl,h4⟩:=Qkt hv
  simp only
  omega
 obtain ⟨y,hy,hu⟩:=List.mem_filterMap.1 hu
 obtain ⟨y',hy',hv⟩:=List.mem_filterMap.1 hv
 obtain ⟨rfl,h3⟩:=Qkt hu
 obtain ⟨rfl,h4⟩:=Qkt hv
 simp only
 omega
def beyond (at_:Int):List Sp->List Sp
 | []=>if at_ < 4096 then [(at_,4096)] else []
 | s :: l=>(if at_ < s.1 then [(at_,s.1)] else []) ++ beyond s.2 l
def size (l:List Sp):Int:=l.foldr (fun x n=>x.2 - x.1+n) 0
end Go.SyP.Sets
