/- A slice of addresses in a struct of one field, with the objects it leads to, as one row. -/
import Derived.Test.YticmlllaimjdcaaGreatSyObj
import Derived.Test.YticmlllaimjdcaaGreatSyM
import Derived.Test.YticmlllaimjdcaaGreatSyS
set_option linter.unusedVariables false
set_option linter.unusedSimpArgs false
set_option linter.unusedSectionVars false
namespace Go.Sy
def Wh4:Value->Option Nat
 | .pointer (some ⟨a,_,_⟩)=>some a
 | _=>none
def Wjn (cs:Array Value) (n:Nat):List Nat:=(cs.toList.take n).filterMap Wh4
def Qwl (w:World):Option Nat->List Nat
 | some q=>
  match w.heap[q]? with
  | some (.cells cs _ _)=>
   match (cs[0]?:Option Value) with
   | some (.slice (some ⟨b,_,_⟩) n _)=>
    b :: (match w.heap[b]? with
     | some (.cells ds _ _)=>Wjn ds n
     | _=>[])
   | _=>[]
  | _=>[]
 | none=>[]
structure Qwa {α:Type} (e:α->List DV) (he:∀ x,NLs (e x)) (ty tq te:TypeId) (I:List Nat->(Nat->α)->Prop) (w:World) (ok:Bool->Nat->Prop) (q:Nat) (b:Option Nat) (l:List Nat) (M:Nat->α):Prop where
 box:∃ sv,sv.oneCell'=true/\w.heap[q]? = some (.cells #[sv] tq (0,0))/\AVR w ok [some q,b] (.own 1 1 0 l.length) sv
 flat:Qce w ok [] b (.flat false 1 te l.length (vec eA 0 l))
 Wbu:(Zf e he ty l M).rel w ok none
 qn:q ∉ l
 bq:b≠some q
 bn:∀ x,b=some x->x ∉ l
 inv:I l M
theorem Qx8 {α:Type} {e:α->List DV} {he:∀ x,NLs (e x)} {ty tq te:TypeId} {I:List Nat->(Nat->α)->Prop} {w:World} {ok:Bool->Nat->Prop} {q:Nat} {b:Option Nat} {l:List Nat} {M:Nat->α} (h:Qwa e he ty tq te I w ok q b l M):Qwl w (some q)=b.toList ++ l:=by
 obtain ⟨sv,_,h1,h2⟩:=h.box
 simp only [Qwl,h1]
 generalize hn:l.length=n at h2
 cases h2 with
 | Qbv h3=>
  simp at h3
  subst h3
  have:l=[]:=List.length_eq_zero_iff.1 hn
  subst this
  rfl
 | own h3 hh h4 h5 h6=>
  rename_i x c cs ty'
  simp at h3
  subst h3
  have hf:=h.flat
  obtain ⟨ds,vs,f1,f2,f3,f4,f5⟩:=hf
  simp only [List.getElem?_toArray,List.getElem?_cons_zero,Array.getElem?_size,f1]
  have key:ds.toList.take n=l.map fun a=>Value.pointer (some ⟨a,0,none⟩):=by
   apply List.ext_getElem?
   intro i
   by_cases hi:i < n
   ·have hi':i < l.length:=by omega
    rw [List.getElem?_take_of_lt hi,List.getElem?_map,List.getElem?_eq_getElem hi']
    have g3:=f3 i (by omega)
    have g4:=f4 i (by omega)
    have g5:=f5 i 0
    generalize vs i=u at g3 g4 g5
    cases g4 with
    | cons o1 o2 o3=>
     rename_i v vs'
     have:=g5 v (by omega) rfl
     simp only [Nat.mul_one,Nat.add_zero] at this
     rw [Array.getElem?_toList,this]
     cases o2 with
     | v hx=>
      simp [hi']
   refine (List.getElem?_eq_none ?_).trans (List.getElem?_eq_none ?_).symm
   ·rw [List.length_take];omega
   rw [List.length_map];omega
  simp only [Wjn,key,List.filterMap_map,Option.toList_some,List.cons_append,List.nil_append]
  congr 1
  have:(Wh4 ∘ fun a=>Value.pointer (some ⟨a,0,none⟩))=some:=by
   funext a
   rfl
  rw [this,List.filterMap_some]
def swO {α:Type} (e:α->List DV) (he:∀ x,NLs (e x)) (ty tq te:TypeId) (I:List Nat->(Nat->α)->Prop):Ql1 where
 ext:=Qwl
 rel:=fun w ok m=>∃ q b l M,m=some q/\Qwa e he ty tq te I w ok q b l M
 Qcy:=by
  intro w w' m h hx
  cases m with
  | none=>rfl
  | some q=>
   have h1:=h q rfl
   unfold Qwl at hx ⊢
   simp only [h1]
   split
   ·rename_i cs ty' z hc
    simp only [hc] at hx
    split
    ·rename_i b o z n c hb
     simp only [hb] at hx
     rw [hx b (by simp)]
    rfl
   rfl
 Qgb:=by
  rintro w w' ok ok' m ⟨q,b,l,M,rfl,h⟩ Jl hw hb hx
  have hq:=hb q rfl
  have hx:∀ x∈b.toList ++ l,w'.heap[x]? = w.heap[x]?:=fun x hm=>hx x (by rw [Qx8 h];exact hm)
  refine ⟨q,b,l,M,rfl, ?_, ?_, ?_,h.qn,h.bq,h.bn,h.inv⟩
  ·obtain ⟨sv,h0,h1,h2⟩:=h.box
   refine ⟨sv,h0,hq.trans h1, ?_⟩
   generalize hn:l.length=n at h2 ⊢
   cases h2 with
   | Qbv h3=>exact .Qbv h3
   | own h3 hh h4 h5 h6=>
    rename_i x c cs ty'
    simp at h3
    subst h3
    exact .own rfl ((hx x (by simp)).trans hh) h4 h5 h6
  ·have hf:=h.flat
   cases b with
   | none=>exact hf
   | some x=>
    obtain ⟨cs,vs,f1,f2,f3,f4,f5⟩:=hf
    exact ⟨cs,vs,(hx x (by simp)).trans f1,f2,f3,fun i hi=>(f4 i hi).mono Jl hw,f5⟩
  exact (Zf e he ty l M).Qgb h.Wbu Jl hw (fun _ h=>by cases h) (fun x hm=>hx x (List.mem_append.2 (.inr hm)))
 perm:=by
  rintro w ok okr m Jl ⟨q,b,l,M,rfl,h⟩
  refine ⟨q,b,l,M,rfl, ?_, ?_, ?_,h.qn,h.bq,h.bn,h.inv⟩
  ·obtain ⟨sv,h0,h1,h2⟩:=h.box
   exact ⟨sv,h0,h1,h2.perm Jl (.own _ _ _ _)⟩
  ·exact h.flat.perm Jl (Qbd nlA)
  exact (Zf e he ty l M).perm Jl h.Wbu
section
variable {X:Ctx} {C:Wp} {α:Type} {e:α->List DV} {he:∀ x,NLs (e x)} {ty tq te:TypeId} {I:List Nat->(Nat->α)->Prop} {id:Nat}
def opened (C:Wp) (e:α->List DV) (he:∀ x,NLs (e x)) (ty tq te:TypeId) (id:Nat) (b:Option Nat) (l:List Nat) (M:Nat->α):Wp:=
 ⟨C.μ ++ [b,none],C.rows.set id (.box tq [.own C.rows.length 1 0 l.length]) ++ [.flat false 1 te l.length (vec eA 0 l),.obj (Zf e he ty l M)],C.w⟩
theorem Wa6 {rows:List Row} {id i:Nat} {r a b s:Row} (hid:id < rows.length) (h:(rows.set id r ++ [a,b])[i]? = some s):
  (i=id/\s=r)\/(i≠id/\i < rows.length/\rows[i]? = some s)\/(i=rows.length/\s=a)\/(i=rows.length+1/\s=b):=by
 rcases Nat.lt_or_ge i rows.length with hi | hi
 ·rw [List.getElem?_append_left (by rw [List.length_set];exact hi)] at h
  rcases (Qbh hid).1 h with ⟨rfl,rfl⟩ | ⟨n1,h⟩
  ·exact .inl ⟨rfl,rfl⟩
  exact .inr (.inl ⟨Ne.symm n1,hi,h⟩)
 rw [List.getElem?_append_right (by rw [List.length_set];exact hi),List.length_set] at h
 obtain ⟨d,hd⟩:∃ d,i=rows.length+d:=⟨i - rows.length,by omega⟩
 subst hd
 rw [Nat.add_sub_cancel_left] at h
 match d,h with
 | 0,h=>simp at h;exact .inr (.inr (.inl ⟨rfl,h.symm⟩))
 | 1,h=>simp at h;exact .inr (.inr (.inr ⟨rfl,h.symm⟩))
 | d+2,h=>simp at h
theorem Qvc {μ:List (Option Nat)} {i:Nat} {b m:Option Nat} (h:(μ ++ [b,none])[i]? = some m):(i < μ.length/\μ[i]? = some m)\/(i=μ.length/\m=b)\/(i=μ.length+1/\m=none):=by
 rcases Nat.lt_or_ge i μ.length with hi | hi
 ·rw [List.getElem?_append_left hi] at h
  exact .inl ⟨hi,h⟩
 rw [List.getElem?_append_right hi] at h
 obtain ⟨d,hd⟩:∃ d,i=μ.length+d:=⟨i - μ.length,by omega⟩
 subst hd
 rw [Nat.add_sub_cancel_left] at h
 match d,h with
 | 0,h=>simp at h;exact .inr (.inl ⟨rfl,h.symm⟩)
 | 1,h=>simp at h;exact .inr (.inr ⟨rfl,h.symm⟩)
 | d+2,h=>simp at h
theorem Qxq (h:Xz X C) (hr:C.rows[id]? = some (.obj (swO e he ty tq te I))):∃ b l M,I l M/\l.Nodup/\Ev X C (opened C e he ty tq te id b l M)/\Xz X (opened C e he ty tq te id b l M):=by
 obtain ⟨m,hμ⟩:=h.Qg3 hr
 have Jq:=h.rel id m _ hμ hr
 obtain ⟨q,b,l,M,rfl,w⟩:∃ q b l M,m=some q/\Qwa e he ty tq te I C.w (C.ok X) q b l M:=by
  cases m with
  | none=>exact Jq
  | some q=>exact Jq
 have Wgy:=(List.getElem?_eq_some_iff.1 hr).1
 have hlen:=h.len
 have Wa9:(Row.obj (swO e he ty tq te I)).ext C.w (some q)=b.toList ++ l:=Qx8 w
 have inb:∀ {x},b=some x->x∈(Row.obj (swO e he ty tq te I)).ext C.w (some q):=fun hx=>by rw [Wa9,hx];simp
 have inl:∀ {x},x∈l->x∈(Row.obj (swO e he ty tq te I)).ext C.w (some q):=fun hx=>by rw [Wa9];simp [hx]
 -- what a row of the new one is
 have Qck:∀ {i:Nat} {m:Option Nat} {s:Row},(opened C e he ty tq te id b l M).μ[i]? = some m->(opened C e he ty tq te id b l M).rows[i]? = some s ->
   (i=id/\m=some q/\s=.box tq [.own C.rows.length 1 0 l.length])\/(i≠id/\i < C.rows.length/\C.μ[i]? = some m/\C.rows[i]? = some s) \/
   (i=C.rows.length/\m=b/\s=.flat false 1 te l.length (vec eA 0 l))\/(i=C.rows.length+1/\m=none/\s=.obj (Zf e he ty l M)):=by
  intro i m s h1 h2
  rcases Wa6 Wgy h2 with ⟨rfl,e2⟩ | ⟨n1,n2,h2⟩ | ⟨e1,e2⟩ | ⟨e1,e2⟩<;>rcases Qvc h1 with ⟨k1,k2⟩ | ⟨k1,k2⟩ | ⟨k1,k2⟩<;>first | omega | skip
  ·rw [hμ] at k2;injection k2 with k2;exact .inl ⟨rfl,k2.symm,e2⟩
  ·exact .inr (.inl ⟨n1,n2,k2,h2⟩)
  ·exact .inr (.inr (.inl ⟨e1,k2,e2⟩))
  exact .inr (.inr (.inr ⟨e1,k2,e2⟩))
 have Qjh:∀ {c:Nat},(opened C e he ty tq te id b l M).live c->C.live c:=by
  rintro c ⟨i,m,s,h1,h2,h3,h4⟩
  rcases Qck h1 h2 with ⟨rfl,rfl,rfl⟩ | ⟨n1,n2,k1,k2⟩ | ⟨e1,rfl,rfl⟩ | ⟨e1,rfl,rfl⟩
  ·rcases h4 with h4 | h4
   ·exact ⟨_,_,_,hμ,hr,rfl,.inl h4⟩
   cases h4
  ·exact ⟨i,m,s,k1,k2,h3,h4⟩
  ·rcases h4 with h4 | h4
   ·exact ⟨_,_,_,hμ,hr,rfl,.inr (inb h4)⟩
   cases h4
  rcases h4 with h4 | h4
  ·cases h4
  exact ⟨_,_,_,hμ,hr,rfl,.inr (inl h4)⟩
 have ev:Ev X C (opened C e he ty tq te id b l M):=⟨Nat.le_refl _,fun _ _ _=>rfl,fun c _ hl hk=>hl (Qjh hk),fun _ _ _ k=>⟨_,k,rfl⟩,fun i x hx=>by
  simp only [opened]
  rw [List.getElem?_append_left (List.getElem?_eq_some_iff.1 hx).1]
  exact hx⟩
 have hmain:∀ {x:Nat},b=some x->∀ {j:Nat} {s:Row} {n:Option Nat},C.μ[j]? = some n->C.rows[j]? = some s->s≠.gone->n≠some x/\(x∈s.ext C.w n->id=j):=fun hb j s n k1 k2 k3=>h.Qbj id j _ _ _ _ _ hμ k1 hr k2 (inb hb) k3
 have hother:∀ {a:Nat},a∈l->∀ {j:Nat} {s:Row} {n:Option Nat},C.μ[j]? = some n->C.rows[j]? = some s->s≠.gone->n≠some a/\(a∈s.ext C.w n->id=j):=fun hb j s n k1 k2 k3=>h.Qbj id j _ _ _ _ _ hμ k1 hr k2 (inl hb) k3
 refine ⟨b,l,M,w.inv,w.Wbu.1,ev,⟨by simp [opened,hlen],h.os,h.tape,h.output,h.size,h.keep,h.shape,fun i x hx=>ev.pre i x (h.first i x hx), ?_, ?_, ?_, ?_, ?_⟩⟩
 ·intro i c hc
  rcases Qvc hc with ⟨k1,k2⟩ | ⟨k1,k2⟩ | ⟨k1,k2⟩
  ·exact h.place i c k2
  ·exact h.Qb7 id _ c _ hμ hr (inb k2.symm)
  cases k2
 ·intro i j c r s h1 h2 h3 h4 h5 h6
  rcases Qck h1 h3 with ⟨e1,e2,e3⟩ | ⟨n1,n2,k1,k2⟩ | ⟨e1,e2,e3⟩ | ⟨e1,e2,e3⟩<;>rcases Qck h2 h4 with ⟨f1,f2,f3⟩ | ⟨p1,p2,q1,q2⟩ | ⟨f1,f2,f3⟩ | ⟨f1,f2,f3⟩
  ·rw [e1,f1]
  ·exact absurd (h.apart id j c _ s (by rw [hμ,e2]) q1 hr q2 rfl h6).symm p1
  ·exact absurd (f2.symm.trans e2) w.bq
  ·cases f2
  ·exact absurd (h.apart i id c r _ k1 (by rw [hμ,f2]) k2 hr h5 (by simp)) n1
  ·exact h.apart i j c r s k1 q1 k2 q2 h5 h6
  ·exact absurd rfl (hmain f2.symm k1 k2 (by rintro rfl;cases h5)).1
  ·cases f2
  ·exact absurd (e2.symm.trans f2) w.bq
  ·exact absurd rfl (hmain e2.symm q1 q2 h6).1
  ·rw [e1,f1]
  ·cases f2
  all_goals cases e2
 ·intro i m c r h1 h2 h3
  rcases Qck h1 h2 with ⟨e1,e2,e3⟩ | ⟨n1,n2,k1,k2⟩ | ⟨e1,e2,e3⟩ | ⟨e1,e2,e3⟩
  ·subst e3;cases h3
  ·exact h.Qb7 i m c r k1 k2 h3
  ·subst e3;cases h3
  subst e3;exact h.Qb7 id _ c _ hμ hr (inl h3)
 ·intro i j m n c r s h1 h2 h3 h4 h5 h6
  rcases Qck h1 h3 with ⟨e1,e2,e3⟩ | ⟨n1,n2,k1,k2⟩ | ⟨e1,e2,e3⟩ | ⟨e1,e2,e3⟩
  ·subst e3;cases h5
  ·rcases Qck h2 h4 with ⟨f1,f2,f3⟩ | ⟨p1,p2,q1,q2⟩ | ⟨f1,f2,f3⟩ | ⟨f1,f2,f3⟩
   ·subst f3
    refine ⟨?_,fun hk=>by cases hk⟩
    rw [f2]
    exact (h.Qbj i id m _ c r _ k1 hμ k2 hr h5 (by simp)).1
   ·exact h.Qbj i j m n c r s k1 q1 k2 q2 h5 h6
   ·subst f3
    refine ⟨fun en=>?_,fun hk=>by cases hk⟩
    rw [f2] at en
    exact n1 ((h.Qbj i id m _ c r _ k1 hμ k2 hr h5 (by simp)).2 (inb en))
   subst f3
   refine ⟨fun en=>(by rw [f2] at en;cases en),fun hk=>?_⟩
   exact absurd ((h.Qbj i id m _ c r _ k1 hμ k2 hr h5 (by simp)).2 (inl hk)) n1
  ·subst e3;cases h5
  subst e3
  have hc:c∈l:=h5
  rcases Qck h2 h4 with ⟨f1,f2,f3⟩ | ⟨p1,p2,q1,q2⟩ | ⟨f1,f2,f3⟩ | ⟨f1,f2,f3⟩
  ·subst f3
   refine ⟨fun en=>?_,fun hk=>by cases hk⟩
   rw [f2] at en
   injection en with en
   exact w.qn (en▸hc)
  ·refine ⟨(hother hc q1 q2 h6).1,fun hk=>?_⟩
   exact absurd ((hother hc q1 q2 h6).2 hk).symm p1
  ·subst f3
   refine ⟨fun en=>?_,fun hk=>by cases hk⟩
   rw [f2] at en
   exact w.bn c en hc
  exact ⟨fun en=>(by rw [f2] at en;cases en),fun _=>(by rw [e1,f1])⟩
 intro i o s h1 h2
 rcases Qck h1 h2 with ⟨e1,e2,e3⟩ | ⟨n1,n2,k1,k2⟩ | ⟨e1,e2,e3⟩ | ⟨e1,e2,e3⟩
 ·subst e2;subst e3
  obtain ⟨sv,h0,w1,w2⟩:=w.box
  refine ⟨[sv],w1,.cons h0 ?_ .nil⟩
  have hN:(C.μ ++ [b,none])[C.rows.length]? = some b:=by rw [<- hlen,List.getElem?_append_right (Nat.le_refl _)];simp
  simp only [opened]
  generalize l.length=n at w2 ⊢
  cases w2 with
  | Qbv h3=>simp at h3;subst h3;exact .Qbv hN
  | own h3 hh h4 h5 h6=>simp at h3;subst h3;exact .own hN hh h4 h5 h6
 ·exact (h.rel i o s k1 k2).mono ev.ok ev.same ev.pre ev.shape (fun _ _=>rfl) (fun _ _=>rfl)
 ·subst e2;subst e3
  have hf:=w.flat
  cases o with
  | none=>exact hf
  | some x=>
   obtain ⟨cs,vs,f1,f2,f3,f4,f5⟩:=hf
   exact ⟨cs,vs,f1,f2,f3,fun i hi=>(f4 i hi).mono ev.ok ev.same,f5⟩
 subst e2;subst e3
 exact (Zf e he ty l M).Qgb w.Wbu ev.ok (fun _ _ _=>rfl) (fun _ h=>by cases h) (fun _ _=>rfl)
def Qhp (rows:List Row) (e:α->List DV) (he:∀ x,NLs (e x)) (ty tq te:TypeId) (I:List Nat->(Nat->α)->Prop) (id N A:Nat):List Row:=
 ((rows.set N .gone).set A .gone).set id (.obj (swO e he ty tq te I))
theorem Qx4 {N A:Nat} {l dom:List Nat} {M:Nat->α} (h:Xz X C) (hr:C.rows[id]? = some (.box tq [.own N 1 0 l.length])) (hN:C.rows[N]? = some (.flat false 1 te l.length (vec eA 0 l))) (hA:C.rows[A]? = some (.obj (Zf e he ty dom M)))
  (Qii:∀ a∈l,a∈dom) (hnd:l.Nodup) (hI:I l M):Ev X C ⟨C.μ,Qhp C.rows e he ty tq te I id N A,C.w⟩/\Xz X ⟨C.μ,Qhp C.rows e he ty tq te I id N A,C.w⟩:=by
 obtain ⟨m,hμ⟩:=h.Qg3 hr
 obtain ⟨b,hμN⟩:=h.Qg3 hN
 obtain ⟨mA,hμA⟩:=h.Qg3 hA
 have Wgy:=(List.getElem?_eq_some_iff.1 hr).1
 have hNl:=(List.getElem?_eq_some_iff.1 hN).1
 have hAl:=(List.getElem?_eq_some_iff.1 hA).1
 have Qw8:=h.rel id m _ hμ hr
 obtain ⟨q,rfl⟩:∃ q,m=some q:=by
  cases m with
  | none=>exact Qw8.elim
  | some q=>exact ⟨q,rfl⟩
 obtain ⟨vs,c1,c2⟩:=Qw8
 have Qoi:=h.rel N b _ hμN hN
 have hobj:(Zf e he ty dom M).rel C.w (C.ok X) mA:=by
  have:=h.rel A mA _ hμA hA
  cases mA<;>exact this
 have hNid:N≠id:=by rintro rfl;rw [hr] at hN;cases hN
 have hAid:A≠id:=by rintro rfl;rw [hr] at hA;cases hA
 have hNA:N≠A:=by rintro rfl;rw [hA] at hN;cases hN
 have hbq:b≠some q:=by rintro rfl;exact hNid (h.apart N id q _ _ hμN hμ hN hr rfl (by simp))
 have Qt8:∀ {a:Nat},a∈l->a∈(Row.obj (Zf e he ty dom M)).ext C.w mA:=fun ha=>Qii _ ha
 have hqn:q ∉ l:=fun ha=>(h.Qbj A id mA _ q _ _ hμA hμ hA hr (Qt8 ha) (by simp)).1 rfl
 have hbn:∀ x,b=some x->x ∉ l:=fun x hx ha=>(h.Qbj A N mA _ x _ _ hμA hμN hA hN (Qt8 ha) (by simp)).1 hx
 have Qck:∀ {i:Nat} {s:Row},(Qhp C.rows e he ty tq te I id N A)[i]? = some s->s≠.gone->(i=id/\s=.obj (swO e he ty tq te I))\/(i≠id/\i≠N/\i≠A/\C.rows[i]? = some s):=by
  intro i s hs hg
  unfold Qhp at hs
  rcases (Qbh (by simp [Wgy])).1 hs with ⟨rfl,rfl⟩ | ⟨n1,hs⟩
  ·exact .inl ⟨rfl,rfl⟩
  rcases (Qbh (by simp [hAl])).1 hs with ⟨rfl,rfl⟩ | ⟨n2,hs⟩
  ·exact absurd rfl hg
  rcases (Qbh hNl).1 hs with ⟨rfl,rfl⟩ | ⟨n3,hs⟩
  ·exact absurd rfl hg
  exact .inr ⟨Ne.symm n1,Ne.symm n3,Ne.symm n2,hs⟩
 have hsw:∀ (ok':Bool->Nat->Prop),(∀ t c,C.ok X t c->ok' t c)->Qwa e he ty tq te I C.w ok' q b l M:=by
  intro ok' Jl
  refine ⟨?_, ?_,⟨hnd,fun a ha=>?_⟩,hqn,hbq,hbn,hI⟩
  ·generalize l.length=n at c2 ⊢
   cases c2 with
   | cons o1 o2 o3=>
    rename_i v vs'
    cases o3
    refine ⟨v,o1,c1, ?_⟩
    cases o2 with
    | Qbv h3=>rw [hμN] at h3;injection h3 with h3;subst h3;exact .Qbv rfl
    | own h3 hh h4 h5 h6=>rw [hμN] at h3;injection h3 with h3;subst h3;exact .own rfl hh h4 h5 h6
  ·cases b with
   | none=>exact Qoi
   | some x=>
    obtain ⟨cs,vs,f1,f2,f3,f4,f5⟩:=Qoi
    exact ⟨cs,vs,f1,f2,f3,fun i hi=>(f4 i hi).mono Jl (fun _ _ _=>rfl),f5⟩
  obtain ⟨ws,k1,k2⟩:=hobj.2 a (Qii a ha)
  exact ⟨ws,k1,k2.mono Jl (fun _ _ _=>rfl)⟩
 have Wa9:(Row.obj (swO e he ty tq te I)).ext C.w (some q)=b.toList ++ l:=Qx8 (hsw (C.ok X) fun _ _ hk=>hk)
 have hin:∀ {c:Nat},c∈(Row.obj (swO e he ty tq te I)).ext C.w (some q)->b=some c\/c∈l:=by
  intro c hc
  rw [Wa9] at hc
  rcases List.mem_append.1 hc with hc | hc
  ·left;cases b<;>simp at hc ⊢;exact hc.symm
  exact .inr hc
 have Qjh:∀ {c:Nat},(⟨C.μ,Qhp C.rows e he ty tq te I id N A,C.w⟩:Wp).live c->C.live c:=by
  rintro c ⟨i,m,s,h1,h2,h3,h4⟩
  rcases Qck h2 (by rintro rfl;cases h3) with ⟨rfl,rfl⟩ | ⟨n1,n2,n3,k2⟩
  ·have h1':C.μ[i]? = some m:=h1
   rw [hμ] at h1';injection h1' with h1';subst h1'
   rcases h4 with h4 | h4
   ·exact ⟨_,_,_,hμ,hr,rfl,.inl h4⟩
   rcases hin h4 with h5 | h5
   ·exact ⟨_,_,_,hμN,hN,rfl,.inl h5⟩
   exact ⟨_,_,_,hμA,hA,rfl,.inr (Qt8 h5)⟩
  exact ⟨i,m,s,h1,k2,h3,h4⟩
 have ev:Ev X C ⟨C.μ,Qhp C.rows e he ty tq te I id N A,C.w⟩:=⟨Nat.le_refl _,fun _ _ _=>rfl,fun c _ hl hk=>hl (Qjh hk),fun _ _ _ k=>⟨_,k,rfl⟩,fun _ _ hx=>hx⟩
 refine ⟨ev,⟨by simp [Qhp,h.len],h.os,h.tape,h.output,h.size,h.keep,h.shape,h.first,h.place, ?_, ?_, ?_, ?_⟩⟩
 ·intro i j c r s h1 h2 h3 h4 h5 h6
  rcases Qck h3 (by rintro rfl;cases h5) with ⟨e1,e2⟩ | ⟨n1,n2,n3,k3⟩<;>rcases Qck h4 h6 with ⟨f1,f2⟩ | ⟨p1,p2,p3,k4⟩
  ·rw [e1,f1]
  ·subst e1;exact h.apart i j c _ s h1 h2 hr k4 rfl h6
  ·subst f1;exact h.apart i j c r _ h1 h2 k3 hr h5 (by simp)
  exact h.apart i j c r s h1 h2 k3 k4 h5 h6
 ·intro i m c r h1 h2 h3
  rcases Qck h2 (by rintro rfl;cases h3) with ⟨e1,e2⟩ | ⟨n1,n2,n3,k2⟩
  ·subst e1;subst e2
   have h1':C.μ[i]? = some m:=h1
   rw [hμ] at h1';injection h1' with h1';subst h1'
   rcases hin h3 with h5 | h5
   ·exact h.place N c (by rw [hμN,h5])
   exact h.Qb7 A mA c _ hμA hA (Qt8 h5)
  exact h.Qb7 i m c r h1 k2 h3
 ·intro i j m n c r s h1 h2 h3 h4 h5 h6
  rcases Qck h3 (by rintro rfl;cases h5) with ⟨e1,e2⟩ | ⟨n1,n2,n3,k3⟩
  ·subst e1;subst e2
   have h1':C.μ[i]? = some m:=h1
   rw [hμ] at h1';injection h1' with h1';subst h1'
   rcases Qck h4 h6 with ⟨f1,f2⟩ | ⟨p1,p2,p3,k4⟩
   ·subst f1
    refine ⟨fun en=>?_,fun _=>rfl⟩
    have h2':C.μ[j]? = some n:=h2
    rw [hμ] at h2';injection h2' with h2';subst h2'
    injection en with en
    subst en
    rcases hin h5 with h7 | h7
    ·exact hbq h7
    exact hqn h7
   rcases hin h5 with h7 | h7
   ·refine ⟨fun en=>?_,fun hk=>?_⟩
    ·subst h7;subst en
     exact p2 (h.apart N j c _ s hμN h2 hN k4 rfl h6).symm
    subst h7
    exact absurd rfl (h.Qbj j N n _ c s _ h2 hμN k4 hN hk (by simp)).1
   have h8:=h.Qbj A j mA n c _ s hμA h2 hA k4 (Qt8 h7) h6
   exact ⟨h8.1,fun hk=>absurd (h8.2 hk).symm p3⟩
  rcases Qck h4 h6 with ⟨f1,f2⟩ | ⟨p1,p2,p3,k4⟩
  ·subst f1;subst f2
   have h2':C.μ[j]? = some n:=h2
   rw [hμ] at h2';injection h2' with h2';subst h2'
   refine ⟨(h.Qbj i j m _ c r _ h1 hμ k3 hr h5 (by simp)).1,fun hk=>?_⟩
   rcases hin hk with h7 | h7
   ·exact absurd h7 (h.Qbj i N m _ c r _ h1 hμN k3 hN h5 (by simp)).1
   exact absurd ((h.Qbj i A m _ c r _ h1 hμA k3 hA h5 (by simp)).2 (Qt8 h7)) n3
  exact h.Qbj i j m n c r s h1 h2 k3 k4 h5 h6
 intro i o s h1 h2
 by_cases hg:s=.gone
 ·subst hg;cases o<;>trivial
 rcases Qck h2 hg with ⟨e1,e2⟩ | ⟨n1,n2,n3,k2⟩
 ·subst e1;subst e2
  have h1':C.μ[i]? = some o:=h1
  rw [hμ] at h1';injection h1' with h1';subst h1'
  exact ⟨q,b,l,M,rfl,hsw _ ev.ok⟩
 exact (h.rel i o s h1 k2).mono ev.ok ev.same ev.pre ev.shape (fun _ _=>rfl) (fun _ _=>rfl)
variable {f:FuncId} {k:List Item} {Q:Frame->Frame->Wp->Prop} {st st':St}
theorem Wim (id:Nat) (hr:st.rows[id]? = some (.obj (swO e he ty tq te I))) (h:∀ l M,I l M->l.Nodup->AK X f k Q ⟨st.nt,st.tm,st.rows.set id (.box tq [.own st.rows.length 1 0 l.length]) ++ [.flat false 1 te l.length (vec eA 0 l),.obj (Zf e he ty l M)]⟩):AK X f k Q st:=by
 intro a C hC b cs hb hk
 have hrC:C.rows[id]? = some (.obj (swO e he ty tq te I)):=by rw [hC.rows];exact hr
 obtain ⟨bo,l,M,hI,hn,ev,hR⟩:=Qxq hC.rel hrC
 have Qj5:=hC.Qf6 ev hR
 obtain ⟨C',fr,q1,q2,q3⟩:=h l M hI hn a _ (by
  have:=Qj5
  simp only [opened] at this
  rw [hC.rows] at this
  exact this) b cs hb hk
 exact ⟨C',fr,q1,q2,q3⟩
theorem Qqv (I:List Nat->(Nat->α)->Prop) {N A:Nat} {l dom:List Nat} {M:Nat->α} (id:Nat) (hr:st.rows[id]? = some (.box tq [.own N 1 0 l.length])) (hN:st.rows[N]? = some (.flat false 1 te l.length (vec eA 0 l))) (hA:st.rows[A]? = some (.obj (Zf e he ty dom M)))
  (Qii:∀ a∈l,a∈dom) (hnd:l.Nodup) (hI:I l M) (h:AK X f k Q ⟨st.nt,st.tm,Qhp st.rows e he ty tq te I id N A⟩):AK X f k Q st:=by
 intro a C hC b cs hb hk
 obtain ⟨ev,hR⟩:=Qx4 (I:=I) hC.rel (by rw [hC.rows];exact hr) (by rw [hC.rows];exact hN) (by rw [hC.rows];exact hA) Qii hnd hI
 have Qj5:=hC.Qf6 ev hR
 obtain ⟨C',fr,q1,q2,q3⟩:=h a _ (by
  have:=Qj5
  simp only at this
  rw [hC.rows] at this
  exact this) b cs hb hk
 exact ⟨C',fr,q1,q2,q3⟩
end
theorem Wf9 {X:Ctx} {α:Type} (e:α->List DV) (he:∀ x,NLs (e x)) (ty:TypeId) (m:Nat->α) {f:FuncId} {k:List Item} {Q:Frame->Frame->Wp->Prop} {st:St}
  (h:AK X f k Q ⟨st.nt,st.tm,st.rows ++ [.obj (Zf e he ty [] m)]⟩):AK X f k Q st:=by
 intro a C hC b cs hb hk
 have Jq:Qce C.w ((C.Qc8 (.obj (Zf e he ty [] m))).ok X) (C.Qc8 (.obj (Zf e he ty [] m))).μ none (.obj (Zf e he ty [] m)):=⟨.nil,fun _ h=>by cases h⟩
 have hv:=Xz.Qc8 hC.rel Jq
 have ev:=Ev.Qc8 hC.rel (.obj (Zf e he ty [] m))
 exact h a (C.Qc8 (.obj (Zf e he ty [] m))) (by
  have:=hC.Qf6 ev hv
  have e:(C.Qc8 (.obj (Zf e he ty [] m))).rows=st.rows ++ [.obj (Zf e he ty [] m)]:=by simp only [Wp.Qc8,hC.rows]
  rw [e] at this
  exact this) b cs hb hk
theorem Qxt {rows:List Row} {ids:List Nat} {ρ:Nat->Nat}:∀ (args:List DV),Qgj rows ids ρ (args.map .d) (args.map .d)
 | []=>.nil
 | x :: xs=>.cons (.same (.d x)) (Qxt xs)
theorem Wfo {P:Program} {f:FuncId} {α:Type} {e:α->List DV} {he:∀ x,NLs (e x)} {ty tq te:TypeId} {I I':List Nat->(Nat->α)->Prop} {args:List DV} {ret:AV} (hren:∀ ρ,Qdg ρ ret=ret) (hna:NA ret)
  (hs:∀ l M,I l M->l.Nodup->∃ l' Qse M',I' l' M'/\(∀ a∈l',a∈Qse)/\l'.Nodup /\
   Yn P f [.box tq [.own 1 1 0 l.length],.flat false 1 te l.length (vec eA 0 l),.obj (Zf e he ty l M)] (.ptr 0 0 0 0 :: args.map .d) [.box tq [.own 3 1 0 l'.length],.gone,.obj (Zf e he ty Qse M'),.flat false 1 te l'.length (vec eA 0 l')] ret):
  Yn P f [.obj (swO e he ty tq te I)] (.ptr 0 0 0 0 :: args.map .d) [.obj (swO e he ty tq te I')] ret:=by
 intro X vs hP hF hR hA
 obtain ⟨b,l,M,hI,hn,ev,hR1⟩:=Qxq (id:=0) hR rfl
 obtain ⟨l',Qse,M',hI',Qii,hnd,Wl⟩:=hs l M hI hn
 generalize hC1:opened (⟨X.μ0,[.obj (swO e he ty tq te I)],X.w0⟩:Wp) e he ty tq te 0 b l M=C1 at ev hR1
 have Qh7:C1.rows=[.box tq [.own 1 1 0 l.length],.flat false 1 te l.length (vec eA 0 l),.obj (Zf e he ty l M)]:=by rw [<- hC1];rfl
 have hw:C1.w=X.w0:=by rw [<- hC1];rfl
 have hh:Qbz C1.rows [0,1,2] [.box tq [.own 1 1 0 l.length],.flat false 1 te l.length (vec eA 0 l),.obj (Zf e he ty l M)]:=by
  rw [Qh7]
  exact Qd6 rfl rfl rfl (by decide)
 have Qeq:Qbp C1.w (C1.ok X) C1.μ (.ptr 0 0 0 0 :: args.map .d) vs:=by
  rw [hw]
  exact hA.mono (fun t c hc=>by have:=ev.ok t c hc;exact this) (fun _ _ _=>rfl) ev.pre (fun _ cs ty k=>⟨cs,k,rfl⟩)
 have hp:Qgj C1.rows [0,1,2] (Qaz [0,1,2] C1.rows.length) (.ptr 0 0 0 0 :: args.map .d) (.ptr 0 0 0 0 :: args.map .d):=.cons (.same (.ptr 0 0 0 0)) (Qxt args)
 have Qlr:=Wl (Qas X C1 [0,1,2]) vs hP (Ql5 hR1 hh) (Qns hR1 hh) (Qju hR1 hh hp Qeq)
 rw [show (Qas X C1 [0,1,2]).w0=X.w0 from hw] at Qlr
 intro cs
 obtain ⟨en,w',fr,⟨v,μ',rfl,hd⟩,q1,q2,q3⟩:=Qlr cs
 refine ⟨_,w',fr,⟨v, ?_⟩,q1,q2,q3⟩
 have hb:=Ql4 hR1 hh hd
 have Qg2:=Qsc hR1 hh hd
 have hbr:(Qa8 C1 [0,1,2] μ' [.box tq [.own 3 1 0 l'.length],.gone,.obj (Zf e he ty Qse M'),.flat false 1 te l'.length (vec eA 0 l')] w').rows=[.box tq [.own 3 1 0 l'.length],.gone,.obj (Zf e he ty Qse M'),.flat false 1 te l'.length (vec eA 0 l')]:=by
  simp only [Qa8,Qh7]
  rfl
 have hbw:(Qa8 C1 [0,1,2] μ' [.box tq [.own 3 1 0 l'.length],.gone,.obj (Zf e he ty Qse M'),.flat false 1 te l'.length (vec eA 0 l')] w').w=w':=rfl
 generalize Qa8 C1 [0,1,2] μ' [.box tq [.own 3 1 0 l'.length],.gone,.obj (Zf e he ty Qse M'),.flat false 1 te l'.length (vec eA 0 l')] w'=C2 at hb Qg2 hbr hbw
 obtain ⟨ev2,hR3⟩:=Qx4 (I:=I') (id:=0) (N:=3) (A:=2) hb (by rw [hbr];rfl) (by rw [hbr];rfl) (by rw [hbr];rfl) Qii hnd hI'
 have hr3:Qhp C2.rows e he ty tq te I' 0 3 2=[.obj (swO e he ty tq te I'),.gone,.gone,.gone]:=by rw [hbr];rfl
 rw [hr3] at ev2 hR3
 have hμ0:X.μ0.length=1:=hR.len
 have p:Qjy X ⟨C2.μ,[.obj (swO e he ty tq te I'),.gone,.gone,.gone],C2.w⟩ [0] [.obj (swO e he ty tq te I')]:=⟨Qb1 rfl,by decide,fun j hj=>by
  have:j=0:=by omega
  subst this
  rfl⟩
 have Wbg:=Qn1 hR3 p
 have Qma:∀ b,(Qdh ⟨C2.μ,[.obj (swO e he ty tq te I'),.gone,.gone,.gone],C2.w⟩ [0] [.obj (swO e he ty tq te I')]).ok X true b->(Qdh ⟨C2.μ,[.obj (swO e he ty tq te I'),.gone,.gone,.gone],C2.w⟩ [0] [.obj (swO e he ty tq te I')]).okR X true b:=fun _ h=>⟨rfl,h⟩
 rw [hren] at Qg2
 rw [<- hbw] at Qg2 ⊢
 have hret2:=ev2.avr Qg2
 exact ⟨(Qdh ⟨C2.μ,[.obj (swO e he ty tq te I'),.gone,.gone,.gone],C2.w⟩ [0] [.obj (swO e he ty tq te I')]).μ,rfl,Wbg,fun i o r e1 e2=>(Wbg.rel i o r e1 e2).perm Qma (by
  cases i with
  | zero=>simp at e2;subst e2;exact .obj _
  | succ i=>simp at e2),(Qqh hR3 p (by rw [hren];exact hret2)).perm Qma hna⟩
end Go.Sy
namespace Go.Sy
open Go.Proofs Go.Shelf Go.Sort Go.Lib
def Qjc (n i:Nat):Nat:=if i < n then i else 0
theorem Wc7 {n:Nat} (h:0 < n) (i:Nat):Qjc n i < n:=by
 unfold Qjc
 split
 ·assumption
 exact h
theorem Qmq {n i:Nat} (h:i < n):Qjc n i=i:=if_pos h
def cfI {α:Type} (z:α) (cf:α->α->Int) (xs:List α) (i j:Nat):Int:=cf (xs.getD (Qjc xs.length i) z) (xs.getD (Qjc xs.length j) z)
theorem Quk {α:Type} {z:α} {cf:α->α->Int} (h:SWO (ltOf cf)) (xs:List α):SWO (ltOf (cfI z cf xs)):=
 ⟨fun x=>h.irrefl _,fun x y z=>h.trans _ _ _,fun x y z=>h.ntrans _ _ _⟩
noncomputable def Qi5 {α:Type} (z:α) (cf:α->α->Int) (xs:List α):List Nat:=Jr 0 (cfI z cf xs) (List.range xs.length)
noncomputable def Qd8 {α:Type} (z:α) (cf:α->α->Int) (xs:List α):List α:=(Qi5 z cf xs).map fun i=>xs.getD i z
theorem Qm5 {α:Type} (z:α) {cf:α->α->Int} (hO:SWO (ltOf cf)) (xs:List α):(Qi5 z cf xs).Perm (List.range xs.length):=Qoz 0 (Quk hO xs) _
theorem Qr0 {α:Type} (z:α) {cf:α->α->Int} (hO:SWO (ltOf cf)) (xs:List α):(Qi5 z cf xs).length=xs.length:=by rw [(Qm5 z hO xs).length_eq,List.length_range]
theorem Qmi {α:Type} (z:α) {cf:α->α->Int} (hO:SWO (ltOf cf)) (xs:List α):(Qd8 z cf xs).length=xs.length:=by rw [Qd8,List.length_map,Qr0 z hO]
theorem Wb3 {α:Type} (z:α) (xs:List α):(List.range xs.length).map (fun i=>xs.getD i z)=xs:=by
 apply List.ext_getElem
 ·simp
 intro i h1 h2
 simp [h2]
theorem Wca {α:Type} (z:α) {cf:α->α->Int} (hO:SWO (ltOf cf)) (xs:List α):(Qd8 z cf xs).Perm xs:=by
 have:=(Qm5 z hO xs).map fun i=>xs.getD i z
 rwa [Wb3] at this
theorem Qx6 {α:Type} (z:α) {cf:α->α->Int} (hO:SWO (ltOf cf)) (xs:List α):(Qd8 z cf xs).Pairwise fun x y=>ltOf cf y x=false:=by
 unfold Qd8
 rw [List.pairwise_map]
 have h:=Qqm 0 (Quk (z:=z) hO xs) (List.range xs.length)
 have hm:∀ i∈Qi5 z cf xs,i < xs.length:=fun i hi=>List.mem_range.1 ((Qm5 z hO xs).mem_iff.1 hi)
 unfold Qi5 at hm ⊢
 refine List.Pairwise.imp_of_mem ?_ h
 intro i j hi hj hij
 have h2:ltOf (cfI z cf xs) j i=false:=hij
 unfold ltOf at h2 ⊢
 unfold cfI at h2
 rwa [Qmq (hm i hi),Qmq (hm j hj)] at h2
theorem Qzz {P:Program} {g:FuncId} {α:Type} {e:α->List DV} {cf:α->α->Int}
  (hs:∀ x y,Yn P g [] [.d (.agg (e x)),.d (.agg (e y))] [] (.d (.v (.int .i64 (cf x y))))) (x y:α) (W:World) {ok:Bool->Nat->Prop} (Jl:∀ t b,ok t b->b < W.heap.size) {va vb:List Value}
  (ra:VRs W ok (e x) va) (rb:VRs W ok (e y) vb):
  Calls P g #[.agg va.toArray,.agg vb.toArray] W fun e w'=>e=.returned (.int .i64 (cf x y))/\∃ q os',w'=grow (W.drewN q) os':=by
 have h0:Xz (Qf1 P W) ⟨[],[],W⟩:=⟨rfl,rfl,rfl,⟨rfl,Nat.le_refl _⟩,Nat.le_refl _,fun _ _ _=>rfl,fun _ _ _ k=>⟨_,k,rfl⟩,fun _ _ k=>k,fun _ _ h=>by simp at h,fun _ _ _ _ _ h=>by simp at h,fun _ _ _ _ h=>by simp at h,fun _ _ _ _ _ _ _ h=>by simp at h,fun _ _ _ h=>by simp at h⟩
 have hok2:∀ t b,b < W.heap.size->(⟨[],[],W⟩:Wp).ok (Qf1 P W) t b:=fun t b hb=>⟨hb,by rintro ⟨i,m,r,h1,_⟩;simp at h1,fun _=>.inl hb⟩
 have hm:∀ {xs:List DV} {vs:List Value},VRs W ok xs vs->VRs W ((⟨[],[],W⟩:Wp).ok (Qf1 P W)) xs vs:=fun h=>h.mono (fun t b hb=>hok2 t b (Jl t b hb)) (fun _ _ _=>rfl)
 have:=hs x y (Qf1 P W) [.agg va.toArray,.agg vb.toArray] rfl (fun b hb=>⟨hb,by simp [Ctx.Qbv,Qf1]⟩) h0 (.cons (.d (.agg (hm ra))) (.cons (.d (.agg (hm rb))) .nil))
 refine this.mono ?_
 rintro e0 w' ⟨v,μ',rfl,hd⟩
 have hr:=hd.ret
 cases hr with
 | d hr=>
  cases hr with
  | v hr=>
   refine ⟨rfl,w'.drawn - W.drawn,w'.heap.extract W.heap.size w'.heap.size, ?_⟩
   have hk:=hd.rel.keep
   have hsz:=hd.rel.size
   have ho:=hd.rel.output
   have hos:=hd.rel.os
   have ht:=hd.rel.tape
   simp only [Qf1] at hk hsz ho hos ht
   have hh:w'.heap=W.heap ++ w'.heap.extract W.heap.size w'.heap.size:=by
    apply Array.ext_getElem?
    intro i
    by_cases hi:i < W.heap.size
    ·rw [Array.getElem?_append_left hi]
     exact hk i hi (by simp [Ctx.Qbv])
    rw [Array.getElem?_append_right (by omega),Array.getElem?_extract]
    by_cases hi2:i < w'.heap.size
    ·rw [if_pos (by omega)]
     congr 1
     omega
    rw [if_neg (by omega)]
    exact Array.getElem?_eq_none (by omega)
   cases w'
   cases W
   simp only at hh ho hos ht hsz ⊢
   obtain ⟨ho1,ho2⟩:=ho
   subst hos
   subst ht
   subst ho1
   simp only [grow,World.drewN,World.mk.injEq,true_and,and_true]
   exact ⟨hh,by omega⟩
def encI {α:Type} (xs:List α) (vs:Nat->List Value) (i:Nat):List Value:=vs (Qjc xs.length i)
theorem Wcb {P:Program} {ρ:Ren} {α:Type} (L:SlLaysF0.n6 P ρ) (z:α) (k:Nat) (aE:∀ w,(isAgg (ρ.t 24)).run P w=.ok true w) (zE:∀ w,(Go.sizeOf (ρ.t 24)).run P w=.ok k w)
  (e:α->List DV) (nl:∀ x,NLs (e x)) (cf:α->α->Int) (hO:SWO (ltOf cf)) (g:Nat)
  (eg:∀ args w,(callFunc g args).run P w=.ok (.enter g args) w)
  (hs:∀ x y,Yn P g [] [.d (.agg (e x)),.d (.agg (e y))] [] (.d (.v (.int .i64 (cf x y))))) {ty:TypeId} {xs:List α} (hsz:xs.length < 4611686018427387904):
  Yn P (ρ.f 6) [.flat false k ty xs.length (vec e z xs)] [.own 0 k 0 xs.length,.d (.fn g [])] [.flat false k ty xs.length (vec e z (Qd8 z cf xs))] (.Qq []):=by
 intro X vs hP hF Jq Qeq
 subst hP
 have hO':=Quk (z:=z) hO xs
 have hlen:=Qr0 z hO xs
 cases Qeq with
 | cons ha hs'=>
  cases hs' with
  | cons hf hn=>
   cases hn
   cases hf with
   | d hf=>
    cases hf with
    | fn hf=>
     cases hf
     have fin:∀ {C':Wp},Xz X C'->C'.rows=[.flat false k ty xs.length (vec e z (Qd8 z cf xs))]->Jc X ⟨C'.μ,[.flat false k ty xs.length (vec e z (Qd8 z cf xs))],C'.w⟩ (.Qq []) (.tuple #[]):=by
      intro C' h hr
      have h':Xz X ⟨C'.μ,[.flat false k ty xs.length (vec e z (Qd8 z cf xs))],C'.w⟩:=by rw [<- hr];exact h
      refine ⟨h', ?_,.Qq .nil⟩
      intro j ob r e1 e2
      refine (h'.rel j ob r e1 e2).perm (fun _ h=>⟨rfl,h⟩) ?_
      have:=List.mem_of_getElem? e2
      simp only [List.mem_singleton] at this
      subst this
      exact .flat fun i _=>nl _
     generalize hN:xs.length=N at ha
     cases ha with
     | Qbv hm=>
      have hx:xs=[]:=List.length_eq_zero_iff.1 hN
      refine (AnyF.slices_SortFunc_none L none 0 _ X.w0).mono ?_
      rintro e0 w' ⟨rfl,rfl⟩
      subst hx
      refine ⟨_,X.μ0,rfl,fin (C':=⟨X.μ0,_,X.w0⟩) Jq ?_⟩
      have:Qd8 z cf ([]:List α)=[]:=List.length_eq_zero_iff.1 (Qmi z hO [])
      rw [this]
     | @own _ _ _ _ b c cs ty' hm hh hs2 hn Qt7=>
      by_cases hl0:xs=[]
      ·have hN0:N=0:=by rw [<- hN,hl0];rfl
       subst hN0
       refine (AnyF.slices_SortFunc_none L (some ⟨b,0 * k,none⟩) c _ X.w0).mono ?_
       rintro e0 w' ⟨rfl,rfl⟩
       subst hl0
       refine ⟨_,X.μ0,rfl,fin (C':=⟨X.μ0,_,X.w0⟩) Jq ?_⟩
       have:Qd8 z cf ([]:List α)=[]:=List.length_eq_zero_iff.1 (Qmi z hO [])
       rw [this]
      have Wg4:0 < xs.length:=List.length_pos_iff.2 hl0
      let C0:Wp:=⟨X.μ0,[.flat false k ty xs.length (vec e z xs)],X.w0⟩
      have Qck:=Jq.rel 0 (some b) _ hm rfl
      obtain ⟨cs2,vs,r1,r2,r3,r4,r5⟩:=Qck
      have hh2:cs2=cs/\ty=ty':=by
       have:=r1.symm.trans hh
       injection this with this
       injection this with a1 a2 a3
       exact ⟨a1,a2⟩
      obtain ⟨rfl,rfl⟩:=hh2
      have hblk:b < X.w0.heap.size:=(Array.getElem?_eq_some_iff.1 hh).1
      have hblive:C0.live b:=⟨0,some b,_,hm,rfl,rfl,.inl rfl⟩
      subst hN
      have cl:=Wc7 Wg4
      have ek:∀ i,(encI xs vs i).length=k:=fun i=>r3 _ (cl i)
      have eo:∀ i,∀ v∈encI xs vs i,v.oneCell'=true:=fun i=>(r4 _ (cl i)).one
      have Qgo:∀ i j,i < xs.length->j < k->cs2[i * k+j]? = some ((encI xs vs i)[j]!):=fun i j hi hj=>by
       refine r5 i j _ hi ?_
       unfold encI
       rw [Qmq hi]
       have:j < (vs i).length:=by rw [r3 i hi];exact hj
       rw [getElem!_pos _ j this]
       exact List.getElem?_eq_getElem this
      have hrange:∀ i,i < xs.length->(List.range xs.length).toArray[i]! = i:=fun i hi=>by
       rw [getElem!_pos _ _ (by simpa using hi)]
       simp
      have Qw7:HoldsK (encI xs vs) k X.w0 b 0 (List.range xs.length).toArray:=by
       intro j hj
       rw [size_flatK] at hj
       simp only [List.size_toArray,List.length_range] at hj
       have k0:0 < k:=Nat.pos_of_ne_zero (by rintro rfl;simp at hj)
       have hd:j / k < xs.length:=Nat.div_lt_of_lt_mul (by rw [Nat.mul_comm];exact hj)
       have hm':j % k < k:=Nat.mod_lt _ k0
       rw [get_flatK _ _ _ _ (by simpa using hj)]
       have hc2:=Qgo (j / k) (j % k) hd hm'
       rw [show j / k * k+j % k=j by rw [Nat.mul_comm];exact Nat.div_add_mod j k] at hc2
       refine ⟨?_, ?_⟩
       ·simp only [World.cell?,hh,hrange _ hd]
        simpa using hc2
       simp only [World.frozen?,hh]
       simp
      have hWheap:∀ (m:Nat) (dk:Array Nat) (os:Array Obj) (q:Nat),q < X.w0.heap.size->q≠b->(sortWorldK (encI xs vs) k X.w0 b 0 m dk os).heap[q]? = X.w0.heap[q]?:=by
       intro m dk os q hq hne
       have:(sortWorldK (encI xs vs) k X.w0 b 0 m dk os).heap=X.w0.heap.modify b (onCells (putCells id 0 (flatK (encI xs vs) k dk))) ++ os:=rfl
       rw [this,Array.getElem?_append_left (by simpa using hq)]
       simp [Array.getElem?_modify,Ne.symm hne]
      have hWsize:∀ (m:Nat) (dk:Array Nat) (os:Array Obj),X.w0.heap.size<=(sortWorldK (encI xs vs) k X.w0 b 0 m dk os).heap.size:=by
       intro m dk os
       have:(sortWorldK (encI xs vs) k X.w0 b 0 m dk os).heap=X.w0.heap.modify b (onCells (putCells id 0 (flatK (encI xs vs) k dk))) ++ os:=rfl
       rw [this,Array.size_append,Array.size_modify]
       omega
      have hvr:∀ (i:Nat) (W:World),(∀ q,q < X.w0.heap.size->q≠b->W.heap[q]? = X.w0.heap[q]?)->VRs W (C0.ok X) (e (xs.getD (Qjc xs.length i) z)) (encI xs vs i):=fun i W hW=>
       (r4 _ (cl i)).mono (fun _ _ h=>h) (fun t q hq=>hW q hq.1 (by rintro rfl;exact hq.2.1 hblive))
      have main:=AnyQ.slices_SortFunc_eq L k aE zE (encI xs vs) ek eo (cfI z cf xs) hO' g #[] b 0 c (List.range xs.length).toArray X.w0 eg (fun m os dk _ x y=>by
       have:=Qzz hs (xs.getD (Qjc xs.length x) z) (xs.getD (Qjc xs.length y) z) (sortWorldK (encI xs vs) k X.w0 b 0 m dk os) (ok:=C0.ok X) (fun t q hq=>Nat.lt_of_lt_of_le hq.1 (hWsize m dk os)) (hvr x _ (hWheap m dk os)) (hvr y _ (hWheap m dk os))
       exact this) Qw7 hblk (by simpa using hsz)
      rw [show ([Value.slice (some ⟨b,0 * k,none⟩) xs.length c,Value.func (.func g) #[] ([]:List Value).toArray]:List Value).toArray=#[.slice (some ⟨b,0,none⟩) (List.range xs.length).toArray.size c,.func (.func g) #[] #[]] by simp]
      refine main.mono ?_
      rintro e0 w' ⟨rfl,n,os,rfl⟩
      have hyl:(pdq (ltOf (cfI z cf xs)) (List.range xs.length).toArray 0 (List.range xs.length).toArray.size (Lib.bitLen (List.range xs.length).toArray.size) true true).toList=Qi5 z cf xs:=rfl
      generalize hY:pdq (ltOf (cfI z cf xs)) (List.range xs.length).toArray 0 (List.range xs.length).toArray.size (Lib.bitLen (List.range xs.length).toArray.size) true true=ya at hyl
      have hya:ya.size=xs.length:=by rw [<- hlen,<- hyl];simp
      have hyin:∀ i,i < xs.length->ya[i]! = (Qi5 z cf xs).getD i 0/\(Qi5 z cf xs).getD i 0 < xs.length:=fun i hi=>by
       have e1:ya[i]! = (Qi5 z cf xs).getD i 0:=by
        rw [getElem!_pos _ _ (by omega),<- hyl]
        simp [hya,hi]
       refine ⟨e1,List.mem_range.1 ((Qm5 z hO xs).mem_iff.1 ?_)⟩
       have hi2:i < (Qi5 z cf xs).length:=by omega
       rw [List.getD_eq_getElem?_getD,List.getElem?_eq_getElem hi2]
       exact List.getElem_mem hi2
      have hw1:(putRowK (encI xs vs) k (Sort.ahead X.w0 n) b 0 ya).heap=X.w0.heap.modify b (onCells (putCells id 0 (flatK (encI xs vs) k ya))):=rfl
      have hat:(putRowK (encI xs vs) k (Sort.ahead X.w0 n) b 0 ya).heap[b]? = some (.cells (putCells id 0 (flatK (encI xs vs) k ya) cs2) ty (0,0)):=by
       rw [hw1]
       simp [Array.getElem?_modify,hh,onCells]
      have Qmz:(putCells id 0 (flatK (encI xs vs) k ya) cs2).size=cs2.size:=by simp [putCells]
      have tu:Qip X C0 0 b (.flat false k ty xs.length (vec e z xs)) (.flat false k ty xs.length (vec e z (Qd8 z cf xs))) (putRowK (encI xs vs) k (Sort.ahead X.w0 n) b 0 ya):=by
       refine ⟨hm,rfl,rfl,rfl,rfl,⟨rfl,Nat.le_add_right _ _⟩, ?_, ?_, ?_,fun _ _=>rfl,fun _ _=>rfl⟩
       ·rw [hw1];simp [C0]
       ·intro q hq
        rw [hw1]
        simp [C0,Array.getElem?_modify,Ne.symm hq]
       intro cs3 ty3 h3
       have:cs3=cs2/\ty3=ty:=by
        have:=h3.symm.trans hh
        injection this with this
        injection this with a1 a2 a3
        exact ⟨a1,a2⟩
       obtain ⟨rfl,rfl⟩:=this
       exact ⟨_,hat,Qmz⟩
      have ev:=Ev.Qaa (C:=C0) Jq tu
      have Wbf:Qce (putRowK (encI xs vs) k (Sort.ahead X.w0 n) b 0 ya) ((C0.Qaa 0 (.flat false k ty xs.length (vec e z (Qd8 z cf xs))) (putRowK (encI xs vs) k (Sort.ahead X.w0 n) b 0 ya)).ok X) X.μ0 (some b) (.flat false k ty xs.length (vec e z (Qd8 z cf xs))):=by
       refine ⟨_,fun i=>encI xs vs ((Qi5 z cf xs).getD i 0),hat, ?_,fun i _=>ek _,fun i hi=>?_, ?_⟩
       ·rw [Qmz];exact r2
       ·obtain ⟨q1,q2⟩:=hyin i hi
        have h4:VRs X.w0 (C0.ok X) (e (xs.getD (Qjc xs.length ((Qi5 z cf xs).getD i 0)) z)) (encI xs vs ((Qi5 z cf xs).getD i 0)):=r4 _ (cl _)
        have h5:=h4.mono ev.ok ev.same
        have e1:(Qd8 z cf xs).getD i z=xs.getD ((Qi5 z cf xs).getD i 0) z:=by
         have hi2:i < (Qi5 z cf xs).length:=by omega
         simp [Qd8,List.getD_eq_getElem?_getD,List.getElem?_map,List.getElem?_eq_getElem hi2]
        show VRs _ _ (e ((Qd8 z cf xs).getD i z)) _
        rw [e1]
        rwa [Qmq q2] at h5
       intro i j v hi hj
       have hjk:j < k:=by
        have:=(List.getElem?_eq_some_iff.1 hj).1
        rwa [ek] at this
       have lt:i * k+j < xs.length * k:=by
        have:=Nat.mul_le_mul_right k (show i+1<=xs.length from hi)
        rw [Nat.add_mul,Nat.one_mul] at this
        omega
       have e1:(i * k+j) / k=i:=(blk_iff k i _ (by omega)).1 ⟨by omega,by omega⟩
       have e2:(i * k+j) % k=j:=by rw [Nat.mod_eq_sub_div_mul,e1];omega
       have lt2:i * k+j < cs2.size:=Nat.lt_of_lt_of_le lt r2
       have lty:i * k+j < ya.size * k:=by rw [hya];exact lt
       simp only [putCells,Array.getElem?_mapIdx]
       rw [Array.getElem?_eq_getElem lt2]
       simp only [Option.map_some,Nat.zero_le,true_and,Nat.zero_add,size_flatK,lty,if_true,Nat.sub_zero,id]
       rw [get_flatK _ _ _ _ lty,e1,e2,(hyin i hi).1]
       have:j < (encI xs vs ((Qi5 z cf xs).getD i 0)).length:=by rw [ek];exact hjk
       rw [getElem!_pos _ j this,<- hj]
       exact (List.getElem?_eq_getElem this).symm
      have h2:=Xz.Qaa (C:=C0) Jq tu (.inl (by simp)) Wbf
      have h3:=h2.grown (w':=sortWorldK (encI xs vs) k X.w0 b 0 n ya os) ⟨rfl,rfl,⟨rfl,Nat.le_refl _⟩,by simp [sortWorldK,grow,Wp.Qaa],fun q hq=>by
       simp only [sortWorldK,grow,Wp.Qaa] at hq ⊢
       exact Array.getElem?_append_left hq⟩
      exact ⟨_,X.μ0,rfl,fin h3 rfl⟩
end Go.Sy
