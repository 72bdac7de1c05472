/- A slice of addresses in a struct of one field, with the objects it leads to, as one row. -/
import Derived.Test.YticmlllaimjdcaaGreatSyObj
import Derived.Test.YticmlllaimjdcaaGreatSyM
import Derived.Test.YticmlllaimjdcaaGreatSyS
import Derived.Test.YticmlllaimjdcaaGreatSyO
set_option linter.unusedVariables false
set_option linter.unusedSimpArgs false
set_option linter.unusedSectionVars false
namespace Go.Sy
def Wju:Value->Option Nat
 | .pointer (some ⟨a,_,_⟩)=>some a
 | _=>none
def Wle (cs:Array Value) (n:Nat):List Nat:=(cs.toList.take n).filterMap Wju
def Qxq (w:World):Option Nat->List Nat
 | some q=>
  match w.heap[q]? with
  | some (.cells cs _ _)=>
   match (cs[0]?:Option Value) with
   | some (.slice (some ⟨b,_,_⟩) n _)=>
    b :: (match w.heap[b]? with
     | some (.cells ds _ _)=>Wle ds n
     | _=>[])
   | _=>[]
  | _=>[]
 | none=>[]
structure Qxe {α:Type} (e:α->List DV) (he:∀ x,NLs (e x)) (ty tq te:TypeId) (I:List Nat->(Nat->α)->Prop) (w:World) (ok:Bool->Nat->Prop) (q:Nat) (b:Option Nat) (l:List Nat) (M:Nat->α):Prop where
 box:∃ sv,sv.oneCell'=true/\w.heap[q]? = some (.cells #[sv] tq (0,0))/\AVR w ok [some q,b] (.own 1 1 0 l.length) sv
 flat:Qcz w ok [] b (.flat false 1 te l.length (vec eA 0 l))
 Wdd:(Zj e he ty l M).rel w ok none
 qn:q ∉ l
 bq:b≠some q
 bn:∀ x,b=some x->x ∉ l
 inv:I l M
theorem Qzl {α:Type} {e:α->List DV} {he:∀ x,NLs (e x)} {ty tq te:TypeId} {I:List Nat->(Nat->α)->Prop} {w:World} {ok:Bool->Nat->Prop} {q:Nat} {b:Option Nat} {l:List Nat} {M:Nat->α} (h:Qxe e he ty tq te I w ok q b l M):Qxq w (some q)=b.toList ++ l:=by
 obtain ⟨sv,_,h1,h2⟩:=h.box
 simp only [Qxq,h1]
 generalize hn:l.length=n at h2
 cases h2 with
 | Qcc h3=>
  simp at h3
  subst h3
  have:l=[]:=List.length_eq_zero_iff.1 hn
  subst this
  rfl
 | own h3 hh h4 h5 h6=>
  rename_i x c cs ty'
  simp at h3
  subst h3
  have hf:=h.flat
  obtain ⟨ds,vs,f1,f2,f3,f4,f5⟩:=hf
  simp only [List.getElem?_toArray,List.getElem?_cons_zero,Array.getElem?_size,f1]
  have key:ds.toList.take n=l.map fun a=>Value.pointer (some ⟨a,0,none⟩):=by
   apply List.ext_getElem?
   intro i
   by_cases hi:i < n
   ·have hi':i < l.length:=by omega
    rw [List.getElem?_take_of_lt hi,List.getElem?_map,List.getElem?_eq_getElem hi']
    have g3:=f3 i (by omega)
    have g4:=f4 i (by omega)
    have g5:=f5 i 0
    generalize vs i=u at g3 g4 g5
    cases g4 with
    | cons o1 o2 o3=>
     rename_i v vs'
     have:=g5 v (by omega) rfl
     simp only [Nat.mul_one,Nat.add_zero] at this
     rw [Array.getElem?_toList,this]
     cases o2 with
     | v hx=>
      simp [hi']
   refine (List.getElem?_eq_none ?_).trans (List.getElem?_eq_none ?_).symm
   ·rw [List.length_take];omega
   rw [List.length_map];omega
  simp only [Wle,key,List.filterMap_map,Option.toList_some,List.cons_append,List.nil_append]
  congr 1
  have:(Wju ∘ fun a=>Value.pointer (some ⟨a,0,none⟩))=some:=by
   funext a
   rfl
  rw [this,List.filterMap_some]
def swO {α:Type} (e:α->List DV) (he:∀ x,NLs (e x)) (ty tq te:TypeId) (I:List Nat->(Nat->α)->Prop):Qmy where
 ext:=Qxq
 rel:=fun w ok m=>∃ q b l M,m=some q/\Qxe e he ty tq te I w ok q b l M
 Qdp:=by
  intro w w' m h hx
  cases m with
  | none=>rfl
  | some q=>
   have h1:=h q rfl
   unfold Qxq at hx ⊢
   simp only [h1]
   split
   ·rename_i cs ty' z hc
    simp only [hc] at hx
    split
    ·rename_i b o z n c hb
     simp only [hb] at hx
     rw [hx b (by simp)]
    rfl
   rfl
 Qg2:=by
  rintro w w' ok ok' m ⟨q,b,l,M,rfl,h⟩ Jp hw hb hx
  have hq:=hb q rfl
  have hx:∀ x∈b.toList ++ l,w'.heap[x]? = w.heap[x]?:=fun x hm=>hx x (by rw [Qzl h];exact hm)
  refine ⟨q,b,l,M,rfl, ?_, ?_, ?_,h.qn,h.bq,h.bn,h.inv⟩
  ·obtain ⟨sv,h0,h1,h2⟩:=h.box
   refine ⟨sv,h0,hq.trans h1, ?_⟩
   generalize hn:l.length=n at h2 ⊢
   cases h2 with
   | Qcc h3=>exact .Qcc h3
   | own h3 hh h4 h5 h6=>
    rename_i x c cs ty'
    simp at h3
    subst h3
    exact .own rfl ((hx x (by simp)).trans hh) h4 h5 h6
  ·have hf:=h.flat
   cases b with
   | none=>exact hf
   | some x=>
    obtain ⟨cs,vs,f1,f2,f3,f4,f5⟩:=hf
    exact ⟨cs,vs,(hx x (by simp)).trans f1,f2,f3,fun i hi=>(f4 i hi).mono Jp hw,f5⟩
  exact (Zj e he ty l M).Qg2 h.Wdd Jp hw (fun _ h=>by cases h) (fun x hm=>hx x (List.mem_append.2 (.inr hm)))
 perm:=by
  rintro w ok okr m Jp ⟨q,b,l,M,rfl,h⟩
  refine ⟨q,b,l,M,rfl, ?_, ?_, ?_,h.qn,h.bq,h.bn,h.inv⟩
  ·obtain ⟨sv,h0,h1,h2⟩:=h.box
   exact ⟨sv,h0,h1,h2.perm Jp (.own _ _ _ _)⟩
  ·exact h.flat.perm Jp (Qat nlA)
  exact (Zj e he ty l M).perm Jp h.Wdd
section
variable {X:Ctx} {C:Wt} {α:Type} {e:α->List DV} {he:∀ x,NLs (e x)} {ty tq te:TypeId} {I:List Nat->(Nat->α)->Prop} {id:Nat}
def opened (C:Wt) (e:α->List DV) (he:∀ x,NLs (e x)) (ty tq te:TypeId) (id:Nat) (b:Option Nat) (l:List Nat) (M:Nat->α):Wt:=
 ⟨C.μ ++ [b,none],C.rows.set id (.box tq [.own C.rows.length 1 0 l.length]) ++ [.flat false 1 te l.length (vec eA 0 l),.obj (Zj e he ty l M)],C.w⟩
theorem Wcp {rows:List Row} {id i:Nat} {r a b s:Row} (hid:id < rows.length) (h:(rows.set id r ++ [a,b])[i]? = some s):
  (i=id/\s=r)\/(i≠id/\i < rows.length/\rows[i]? = some s)\/(i=rows.length/\s=a)\/(i=rows.length+1/\s=b):=by
 rcases Nat.lt_or_ge i rows.length with hi | hi
 ·rw [List.getElem?_append_left (by rw [List.length_set];exact hi)] at h
  rcases (Qbs hid).1 h with ⟨rfl,rfl⟩ | ⟨n1,h⟩
  ·exact .inl ⟨rfl,rfl⟩
  exact .inr (.inl ⟨Ne.symm n1,hi,h⟩)
 rw [List.getElem?_append_right (by rw [List.length_set];exact hi),List.length_set] at h
 obtain ⟨d,hd⟩:∃ d,i=rows.length+d:=⟨i - rows.length,by omega⟩
 subst hd
 rw [Nat.add_sub_cancel_left] at h
 match d,h with
 | 0,h=>simp at h;exact .inr (.inr (.inl ⟨rfl,h.symm⟩))
 | 1,h=>simp at h;exact .inr (.inr (.inr ⟨rfl,h.symm⟩))
 | d+2,h=>simp at h
theorem Qwh {μ:List (Option Nat)} {i:Nat} {b m:Option Nat} (h:(μ ++ [b,none])[i]? = some m):(i < μ.length/\μ[i]? = some m)\/(i=μ.length/\m=b)\/(i=μ.length+1/\m=none):=by
 rcases Nat.lt_or_ge i μ.length with hi | hi
 ·rw [List.getElem?_append_left hi] at h
  exact .inl ⟨hi,h⟩
 rw [List.getElem?_append_right hi] at h
 obtain ⟨d,hd⟩:∃ d,i=μ.length+d:=⟨i - μ.length,by omega⟩
 subst hd
 rw [Nat.add_sub_cancel_left] at h
 match d,h with
 | 0,h=>simp at h;exact .inr (.inl ⟨rfl,h.symm⟩)
 | 1,h=>simp at h;exact .inr (.inr ⟨rfl,h.symm⟩)
 | d+2,h=>simp at h
theorem Qy3 (h:Yd X C) (hr:C.rows[id]? = some (.obj (swO e he ty tq te I))):∃ b l M,I l M/\l.Nodup/\Ev X C (opened C e he ty tq te id b l M)/\Yd X (opened C e he ty tq te id b l M):=by
 obtain ⟨m,hμ⟩:=h.Qh4 hr
 have Jz:=h.rel id m _ hμ hr
 obtain ⟨q,b,l,M,rfl,w⟩:∃ q b l M,m=some q/\Qxe e he ty tq te I C.w (C.ok X) q b l M:=by
  cases m with
  | none=>exact Jz
  | some q=>exact Jz
 have Wip:=(List.getElem?_eq_some_iff.1 hr).1
 have hlen:=h.len
 have Wcs:(Row.obj (swO e he ty tq te I)).ext C.w (some q)=b.toList ++ l:=Qzl w
 have inb:∀ {x},b=some x->x∈(Row.obj (swO e he ty tq te I)).ext C.w (some q):=fun hx=>by rw [Wcs,hx];simp
 have inl:∀ {x},x∈l->x∈(Row.obj (swO e he ty tq te I)).ext C.w (some q):=fun hx=>by rw [Wcs];simp [hx]
 -- what a row of the new one is
 have Qc5:∀ {i:Nat} {m:Option Nat} {s:Row},(opened C e he ty tq te id b l M).μ[i]? = some m->(opened C e he ty tq te id b l M).rows[i]? = some s ->
   (i=id/\m=some q/\s=.box tq [.own C.rows.length 1 0 l.length])\/(i≠id/\i < C.rows.length/\C.μ[i]? = some m/\C.rows[i]? = some s) \/
   (i=C.rows.length/\m=b/\s=.flat false 1 te l.length (vec eA 0 l))\/(i=C.rows.length+1/\m=none/\s=.obj (Zj e he ty l M)):=by
  intro i m s h1 h2
  rcases Wcp Wip h2 with ⟨rfl,e2⟩ | ⟨n1,n2,h2⟩ | ⟨e1,e2⟩ | ⟨e1,e2⟩<;>rcases Qwh h1 with ⟨k1,k2⟩ | ⟨k1,k2⟩ | ⟨k1,k2⟩<;>first | omega | skip
  ·rw [hμ] at k2;injection k2 with k2;exact .inl ⟨rfl,k2.symm,e2⟩
  ·exact .inr (.inl ⟨n1,n2,k2,h2⟩)
  ·exact .inr (.inr (.inl ⟨e1,k2,e2⟩))
  exact .inr (.inr (.inr ⟨e1,k2,e2⟩))
 have Qkh:∀ {c:Nat},(opened C e he ty tq te id b l M).live c->C.live c:=by
  rintro c ⟨i,m,s,h1,h2,h3,h4⟩
  rcases Qc5 h1 h2 with ⟨rfl,rfl,rfl⟩ | ⟨n1,n2,k1,k2⟩ | ⟨e1,rfl,rfl⟩ | ⟨e1,rfl,rfl⟩
  ·rcases h4 with h4 | h4
   ·exact ⟨_,_,_,hμ,hr,rfl,.inl h4⟩
   cases h4
  ·exact ⟨i,m,s,k1,k2,h3,h4⟩
  ·rcases h4 with h4 | h4
   ·exact ⟨_,_,_,hμ,hr,rfl,.inr (inb h4)⟩
   cases h4
  rcases h4 with h4 | h4
  ·cases h4
  exact ⟨_,_,_,hμ,hr,rfl,.inr (inl h4)⟩
 have ev:Ev X C (opened C e he ty tq te id b l M):=⟨Nat.le_refl _,fun _ _ _=>rfl,fun c _ hl hk=>hl (Qkh hk),fun _ _ _ k=>⟨_,k,rfl⟩,fun i x hx=>by
  simp only [opened]
  rw [List.getElem?_append_left (List.getElem?_eq_some_iff.1 hx).1]
  exact hx⟩
 have hmain:∀ {x:Nat},b=some x->∀ {j:Nat} {s:Row} {n:Option Nat},C.μ[j]? = some n->C.rows[j]? = some s->s≠.gone->n≠some x/\(x∈s.ext C.w n->id=j):=fun hb j s n k1 k2 k3=>h.Qbt id j _ _ _ _ _ hμ k1 hr k2 (inb hb) k3
 have hother:∀ {a:Nat},a∈l->∀ {j:Nat} {s:Row} {n:Option Nat},C.μ[j]? = some n->C.rows[j]? = some s->s≠.gone->n≠some a/\(a∈s.ext C.w n->id=j):=fun hb j s n k1 k2 k3=>h.Qbt id j _ _ _ _ _ hμ k1 hr k2 (inl hb) k3
 refine ⟨b,l,M,w.inv,w.Wdd.1,ev,⟨by simp [opened,hlen],h.os,h.tape,h.output,h.size,h.keep,h.shape,fun i x hx=>ev.pre i x (h.first i x hx), ?_, ?_, ?_, ?_, ?_⟩⟩
 ·intro i c hc
  rcases Qwh hc with ⟨k1,k2⟩ | ⟨k1,k2⟩ | ⟨k1,k2⟩
  ·exact h.place i c k2
  ·exact h.Qco id _ c _ hμ hr (inb k2.symm)
  cases k2
 ·intro i j c r s h1 h2 h3 h4 h5 h6
  rcases Qc5 h1 h3 with ⟨e1,e2,e3⟩ | ⟨n1,n2,k1,k2⟩ | ⟨e1,e2,e3⟩ | ⟨e1,e2,e3⟩<;>rcases Qc5 h2 h4 with ⟨f1,f2,f3⟩ | ⟨p1,p2,q1,q2⟩ | ⟨f1,f2,f3⟩ | ⟨f1,f2,f3⟩
  ·rw [e1,f1]
  ·exact absurd (h.apart id j c _ s (by rw [hμ,e2]) q1 hr q2 rfl h6).symm p1
  ·exact absurd (f2.symm.trans e2) w.bq
  ·cases f2
  ·exact absurd (h.apart i id c r _ k1 (by rw [hμ,f2]) k2 hr h5 (by simp)) n1
  ·exact h.apart i j c r s k1 q1 k2 q2 h5 h6
  ·exact absurd rfl (hmain f2.symm k1 k2 (by rintro rfl;cases h5)).1
  ·cases f2
  ·exact absurd (e2.symm.trans f2) w.bq
  ·exact absurd rfl (hmain e2.symm q1 q2 h6).1
  ·rw [e1,f1]
  ·cases f2
  all_goals cases e2
 ·intro i m c r h1 h2 h3
  rcases Qc5 h1 h2 with ⟨e1,e2,e3⟩ | ⟨n1,n2,k1,k2⟩ | ⟨e1,e2,e3⟩ | ⟨e1,e2,e3⟩
  ·subst e3;cases h3
  ·exact h.Qco i m c r k1 k2 h3
  ·subst e3;cases h3
  subst e3;exact h.Qco id _ c _ hμ hr (inl h3)
 ·intro i j m n c r s h1 h2 h3 h4 h5 h6
  rcases Qc5 h1 h3 with ⟨e1,e2,e3⟩ | ⟨n1,n2,k1,k2⟩ | ⟨e1,e2,e3⟩ | ⟨e1,e2,e3⟩
  ·subst e3;cases h5
  ·rcases Qc5 h2 h4 with ⟨f1,f2,f3⟩ | ⟨p1,p2,q1,q2⟩ | ⟨f1,f2,f3⟩ | ⟨f1,f2,f3⟩
   ·subst f3
    refine ⟨?_,fun hk=>by cases hk⟩
    rw [f2]
    exact (h.Qbt i id m _ c r _ k1 hμ k2 hr h5 (by simp)).1
   ·exact h.Qbt i j m n c r s k1 q1 k2 q2 h5 h6
   ·subst f3
    refine ⟨fun en=>?_,fun hk=>by cases hk⟩
    rw [f2] at en
    exact n1 ((h.Qbt i id m _ c r _ k1 hμ k2 hr h5 (by simp)).2 (inb en))
   subst f3
   refine ⟨fun en=>(by rw [f2] at en;cases en),fun hk=>?_⟩
   exact absurd ((h.Qbt i id m _ c r _ k1 hμ k2 hr h5 (by simp)).2 (inl hk)) n1
  ·subst e3;cases h5
  subst e3
  have hc:c∈l:=h5
  rcases Qc5 h2 h4 with ⟨f1,f2,f3⟩ | ⟨p1,p2,q1,q2⟩ | ⟨f1,f2,f3⟩ | ⟨f1,f2,f3⟩
  ·subst f3
   refine ⟨fun en=>?_,fun hk=>by cases hk⟩
   rw [f2] at en
   injection en with en
   exact w.qn (en▸hc)
  ·refine ⟨(hother hc q1 q2 h6).1,fun hk=>?_⟩
   exact absurd ((hother hc q1 q2 h6).2 hk).symm p1
  ·subst f3
   refine ⟨fun en=>?_,fun hk=>by cases hk⟩
   rw [f2] at en
   exact w.bn c en hc
  exact ⟨fun en=>(by rw [f2] at en;cases en),fun _=>(by rw [e1,f1])⟩
 intro i o s h1 h2
 rcases Qc5 h1 h2 with ⟨e1,e2,e3⟩ | ⟨n1,n2,k1,k2⟩ | ⟨e1,e2,e3⟩ | ⟨e1,e2,e3⟩
 ·subst e2;subst e3
  obtain ⟨sv,h0,w1,w2⟩:=w.box
  refine ⟨[sv],w1,.cons h0 ?_ .nil⟩
  have hN:(C.μ ++ [b,none])[C.rows.length]? = some b:=by rw [<- hlen,List.getElem?_append_right (Nat.le_refl _)];simp
  simp only [opened]
  generalize l.length=n at w2 ⊢
  cases w2 with
  | Qcc h3=>simp at h3;subst h3;exact .Qcc hN
  | own h3 hh h4 h5 h6=>simp at h3;subst h3;exact .own hN hh h4 h5 h6
 ·exact (h.rel i o s k1 k2).mono ev.ok ev.same ev.pre ev.shape (fun _ _=>rfl) (fun _ _=>rfl)
 ·subst e2;subst e3
  have hf:=w.flat
  cases o with
  | none=>exact hf
  | some x=>
   obtain ⟨cs,vs,f1,f2,f3,f4,f5⟩:=hf
   exact ⟨cs,vs,f1,f2,f3,fun i hi=>(f4 i hi).mono ev.ok ev.same,f5⟩
 subst e2;subst e3
 exact (Zj e he ty l M).Qg2 w.Wdd ev.ok (fun _ _ _=>rfl) (fun _ h=>by cases h) (fun _ _=>rfl)
def Qir (rows:List Row) (e:α->List DV) (he:∀ x,NLs (e x)) (ty tq te:TypeId) (I:List Nat->(Nat->α)->Prop) (id N A:Nat):List Row:=
 ((rows.set N .gone).set A .gone).set id (.obj (swO e he ty tq te I))
theorem Qzh {N A:Nat} {l dom:List Nat} {M:Nat->α} (h:Yd X C) (hr:C.rows[id]? = some (.box tq [.own N 1 0 l.length])) (hN:C.rows[N]? = some (.flat false 1 te l.length (vec eA 0 l))) (hA:C.rows[A]? = some (.obj (Zj e he ty dom M)))
  (Qjm:∀ a∈l,a∈dom) (hnd:l.Nodup) (hI:I l M):Ev X C ⟨C.μ,Qir C.rows e he ty tq te I id N A,C.w⟩/\Yd X ⟨C.μ,Qir C.rows e he ty tq te I id N A,C.w⟩:=by
 obtain ⟨m,hμ⟩:=h.Qh4 hr
 obtain ⟨b,hμN⟩:=h.Qh4 hN
 obtain ⟨mA,hμA⟩:=h.Qh4 hA
 have Wip:=(List.getElem?_eq_some_iff.1 hr).1
 have hNl:=(List.getElem?_eq_some_iff.1 hN).1
 have hAl:=(List.getElem?_eq_some_iff.1 hA).1
 have Qyl:=h.rel id m _ hμ hr
 obtain ⟨q,rfl⟩:∃ q,m=some q:=by
  cases m with
  | none=>exact Qyl.elim
  | some q=>exact ⟨q,rfl⟩
 obtain ⟨vs,c1,c2⟩:=Qyl
 have Qpk:=h.rel N b _ hμN hN
 have hobj:(Zj e he ty dom M).rel C.w (C.ok X) mA:=by
  have:=h.rel A mA _ hμA hA
  cases mA<;>exact this
 have hNid:N≠id:=by rintro rfl;rw [hr] at hN;cases hN
 have hAid:A≠id:=by rintro rfl;rw [hr] at hA;cases hA
 have hNA:N≠A:=by rintro rfl;rw [hA] at hN;cases hN
 have hbq:b≠some q:=by rintro rfl;exact hNid (h.apart N id q _ _ hμN hμ hN hr rfl (by simp))
 have Qva:∀ {a:Nat},a∈l->a∈(Row.obj (Zj e he ty dom M)).ext C.w mA:=fun ha=>Qjm _ ha
 have hqn:q ∉ l:=fun ha=>(h.Qbt A id mA _ q _ _ hμA hμ hA hr (Qva ha) (by simp)).1 rfl
 have hbn:∀ x,b=some x->x ∉ l:=fun x hx ha=>(h.Qbt A N mA _ x _ _ hμA hμN hA hN (Qva ha) (by simp)).1 hx
 have Qc5:∀ {i:Nat} {s:Row},(Qir C.rows e he ty tq te I id N A)[i]? = some s->s≠.gone->(i=id/\s=.obj (swO e he ty tq te I))\/(i≠id/\i≠N/\i≠A/\C.rows[i]? = some s):=by
  intro i s hs hg
  unfold Qir at hs
  rcases (Qbs (by simp [Wip])).1 hs with ⟨rfl,rfl⟩ | ⟨n1,hs⟩
  ·exact .inl ⟨rfl,rfl⟩
  rcases (Qbs (by simp [hAl])).1 hs with ⟨rfl,rfl⟩ | ⟨n2,hs⟩
  ·exact absurd rfl hg
  rcases (Qbs hNl).1 hs with ⟨rfl,rfl⟩ | ⟨n3,hs⟩
  ·exact absurd rfl hg
  exact .inr ⟨Ne.symm n1,Ne.symm n3,Ne.symm n2,hs⟩
 have hsw:∀ (ok':Bool->Nat->Prop),(∀ t c,C.ok X t c->ok' t c)->Qxe e he ty tq te I C.w ok' q b l M:=by
  intro ok' Jp
  refine ⟨?_, ?_,⟨hnd,fun a ha=>?_⟩,hqn,hbq,hbn,hI⟩
  ·generalize l.length=n at c2 ⊢
   cases c2 with
   | cons o1 o2 o3=>
    rename_i v vs'
    cases o3
    refine ⟨v,o1,c1, ?_⟩
    cases o2 with
    | Qcc h3=>rw [hμN] at h3;injection h3 with h3;subst h3;exact .Qcc rfl
    | own h3 hh h4 h5 h6=>rw [hμN] at h3;injection h3 with h3;subst h3;exact .own rfl hh h4 h5 h6
  ·cases b with
   | none=>exact Qpk
   | some x=>
    obtain ⟨cs,vs,f1,f2,f3,f4,f5⟩:=Qpk
    exact ⟨cs,vs,f1,f2,f3,fun i hi=>(f4 i hi).mono Jp (fun _ _ _=>rfl),f5⟩
  obtain ⟨ws,k1,k2⟩:=hobj.2 a (Qjm a ha)
  exact ⟨ws,k1,k2.mono Jp (fun _ _ _=>rfl)⟩
 have Wcs:(Row.obj (swO e he ty tq te I)).ext C.w (some q)=b.toList ++ l:=Qzl (hsw (C.ok X) fun _ _ hk=>hk)
 have hin:∀ {c:Nat},c∈(Row.obj (swO e he ty tq te I)).ext C.w (some q)->b=some c\/c∈l:=by
  intro c hc
  rw [Wcs] at hc
  rcases List.mem_append.1 hc with hc | hc
  ·left;cases b<;>simp at hc ⊢;exact hc.symm
  exact .inr hc
 have Qkh:∀ {c:Nat},(⟨C.μ,Qir C.rows e he ty tq te I id N A,C.w⟩:Wt).live c->C.live c:=by
  rintro c ⟨i,m,s,h1,h2,h3,h4⟩
  rcases Qc5 h2 (by rintro rfl;cases h3) with ⟨rfl,rfl⟩ | ⟨n1,n2,n3,k2⟩
  ·have h1':C.μ[i]? = some m:=h1
   rw [hμ] at h1';injection h1' with h1';subst h1'
   rcases h4 with h4 | h4
   ·exact ⟨_,_,_,hμ,hr,rfl,.inl h4⟩
   rcases hin h4 with h5 | h5
   ·exact ⟨_,_,_,hμN,hN,rfl,.inl h5⟩
   exact ⟨_,_,_,hμA,hA,rfl,.inr (Qva h5)⟩
  exact ⟨i,m,s,h1,k2,h3,h4⟩
 have ev:Ev X C ⟨C.μ,Qir C.rows e he ty tq te I id N A,C.w⟩:=⟨Nat.le_refl _,fun _ _ _=>rfl,fun c _ hl hk=>hl (Qkh hk),fun _ _ _ k=>⟨_,k,rfl⟩,fun _ _ hx=>hx⟩
 refine ⟨ev,⟨by simp [Qir,h.len],h.os,h.tape,h.output,h.size,h.keep,h.shape,h.first,h.place, ?_, ?_, ?_, ?_⟩⟩
 ·intro i j c r s h1 h2 h3 h4 h5 h6
  rcases Qc5 h3 (by rintro rfl;cases h5) with ⟨e1,e2⟩ | ⟨n1,n2,n3,k3⟩<;>rcases Qc5 h4 h6 with ⟨f1,f2⟩ | ⟨p1,p2,p3,k4⟩
  ·rw [e1,f1]
  ·subst e1;exact h.apart i j c _ s h1 h2 hr k4 rfl h6
  ·subst f1;exact h.apart i j c r _ h1 h2 k3 hr h5 (by simp)
  exact h.apart i j c r s h1 h2 k3 k4 h5 h6
 ·intro i m c r h1 h2 h3
  rcases Qc5 h2 (by rintro rfl;cases h3) with ⟨e1,e2⟩ | ⟨n1,n2,n3,k2⟩
  ·subst e1;subst e2
   have h1':C.μ[i]? = some m:=h1
   rw [hμ] at h1';injection h1' with h1';subst h1'
   rcases hin h3 with h5 | h5
   ·exact h.place N c (by rw [hμN,h5])
   exact h.Qco A mA c _ hμA hA (Qva h5)
  exact h.Qco i m c r h1 k2 h3
 ·intro i j m n c r s h1 h2 h3 h4 h5 h6
  rcases Qc5 h3 (by rintro rfl;cases h5) with ⟨e1,e2⟩ | ⟨n1,n2,n3,k3⟩
  ·subst e1;subst e2
   have h1':C.μ[i]? = some m:=h1
   rw [hμ] at h1';injection h1' with h1';subst h1'
   rcases Qc5 h4 h6 with ⟨f1,f2⟩ | ⟨p1,p2,p3,k4⟩
   ·subst f1
    refine ⟨fun en=>?_,fun _=>rfl⟩
    have h2':C.μ[j]? = some n:=h2
    rw [hμ] at h2';injection h2' with h2';subst h2'
    injection en with en
    subst en
    rcases hin h5 with h7 | h7
    ·exact hbq h7
    exact hqn h7
   rcases hin h5 with h7 | h7
   ·refine ⟨fun en=>?_,fun hk=>?_⟩
    ·subst h7;subst en
     exact p2 (h.apart N j c _ s hμN h2 hN k4 rfl h6).symm
    subst h7
    exact absurd rfl (h.Qbt j N n _ c s _ h2 hμN k4 hN hk (by simp)).1
   have h8:=h.Qbt A j mA n c _ s hμA h2 hA k4 (Qva h7) h6
   exact ⟨h8.1,fun hk=>absurd (h8.2 hk).symm p3⟩
  rcases Qc5 h4 h6 with ⟨f1,f2⟩ | ⟨p1,p2,p3,k4⟩
  ·subst f1;subst f2
   have h2':C.μ[j]? = some n:=h2
   rw [hμ] at h2';injection h2' with h2';subst h2'
   refine ⟨(h.Qbt i j m _ c r _ h1 hμ k3 hr h5 (by simp)).1,fun hk=>?_⟩
   rcases hin hk with h7 | h7
   ·exact absurd h7 (h.Qbt i N m _ c r _ h1 hμN k3 hN h5 (by simp)).1
   exact absurd ((h.Qbt i A m _ c r _ h1 hμA k3 hA h5 (by simp)).2 (Qva h7)) n3
  exact h.Qbt i j m n c r s h1 h2 k3 k4 h5 h6
 intro i o s h1 h2
 by_cases hg:s=.gone
 ·subst hg;cases o<;>trivial
 rcases Qc5 h2 hg with ⟨e1,e2⟩ | ⟨n1,n2,n3,k2⟩
 ·subst e1;subst e2
  have h1':C.μ[i]? = some o:=h1
  rw [hμ] at h1';injection h1' with h1';subst h1'
  exact ⟨q,b,l,M,rfl,hsw _ ev.ok⟩
 exact (h.rel i o s h1 k2).mono ev.ok ev.same ev.pre ev.shape (fun _ _=>rfl) (fun _ _=>rfl)
variable {f:FuncId} {k:List Item} {Q:Frame->Frame->Wt->Prop} {st st':St}
theorem Wka (id:Nat) (hr:st.rows[id]? = some (.obj (swO e he ty tq te I))) (h:∀ l M,I l M->l.Nodup->AK X f k Q ⟨st.nt,st.tm,st.rows.set id (.box tq [.own st.rows.length 1 0 l.length]) ++ [.flat false 1 te l.length (vec eA 0 l),.obj (Zj e he ty l M)]⟩):AK X f k Q st:=by
 intro a C hC b cs hb hk
 have hrC:C.rows[id]? = some (.obj (swO e he ty tq te I)):=by rw [hC.rows];exact hr
 obtain ⟨bo,l,M,hI,hn,ev,hR⟩:=Qy3 hC.rel hrC
 have Qk6:=hC.Qgy ev hR
 obtain ⟨C',fr,q1,q2,q3⟩:=h l M hI hn a _ (by
  have:=Qk6
  simp only [opened] at this
  rw [hC.rows] at this
  exact this) b cs hb hk
 exact ⟨C',fr,q1,q2,q3⟩
theorem Qrn (I:List Nat->(Nat->α)->Prop) {N A:Nat} {l dom:List Nat} {M:Nat->α} (id:Nat) (hr:st.rows[id]? = some (.box tq [.own N 1 0 l.length])) (hN:st.rows[N]? = some (.flat false 1 te l.length (vec eA 0 l))) (hA:st.rows[A]? = some (.obj (Zj e he ty dom M)))
  (Qjm:∀ a∈l,a∈dom) (hnd:l.Nodup) (hI:I l M) (h:AK X f k Q ⟨st.nt,st.tm,Qir st.rows e he ty tq te I id N A⟩):AK X f k Q st:=by
 intro a C hC b cs hb hk
 obtain ⟨ev,hR⟩:=Qzh (I:=I) hC.rel (by rw [hC.rows];exact hr) (by rw [hC.rows];exact hN) (by rw [hC.rows];exact hA) Qjm hnd hI
 have Qk6:=hC.Qgy ev hR
 obtain ⟨C',fr,q1,q2,q3⟩:=h a _ (by
  have:=Qk6
  simp only at this
  rw [hC.rows] at this
  exact this) b cs hb hk
 exact ⟨C',fr,q1,q2,q3⟩
end
theorem Wh1 {X:Ctx} {α:Type} (e:α->List DV) (he:∀ x,NLs (e x)) (ty:TypeId) (m:Nat->α) {f:FuncId} {k:List Item} {Q:Frame->Frame->Wt->Prop} {st:St}
  (h:AK X f k Q ⟨st.nt,st.tm,st.rows ++ [.obj (Zj e he ty [] m)]⟩):AK X f k Q st:=by
 intro a C hC b cs hb hk
 have Jz:Qcz C.w ((C.Qdu (.obj (Zj e he ty [] m))).ok X) (C.Qdu (.obj (Zj e he ty [] m))).μ none (.obj (Zj e he ty [] m)):=⟨.nil,fun _ h=>by cases h⟩
 have hv:=Yd.Qdu hC.rel Jz
 have ev:=Ev.Qdu hC.rel (.obj (Zj e he ty [] m))
 exact h a (C.Qdu (.obj (Zj e he ty [] m))) (by
  have:=hC.Qgy ev hv
  have e:(C.Qdu (.obj (Zj e he ty [] m))).rows=st.rows ++ [.obj (Zj e he ty [] m)]:=by simp only [Wt.Qdu,hC.rows]
  rw [e] at this
  exact this) b cs hb hk
theorem Qy6 {rows:List Row} {ids:List Nat} {ρ:Nat->Nat}:∀ (args:List DV),Qgv rows ids ρ (args.map .d) (args.map .d)
 | []=>.nil
 | x :: xs=>.cons (.same (.d x)) (Qy6 xs)
theorem Whf {P:Program} {f:FuncId} {α:Type} {e:α->List DV} {he:∀ x,NLs (e x)} {ty tq te:TypeId} {I I':List Nat->(Nat->α)->Prop} {args:List DV} {ret:AV} (hren:∀ ρ,Qdm ρ ret=ret) (hna:NA ret)
  (hs:∀ l M,I l M->l.Nodup->∃ l' Qtc M',I' l' M'/\(∀ a∈l',a∈Qtc)/\l'.Nodup /\
   Xz P f [.box tq [.own 1 1 0 l.length],.flat false 1 te l.length (vec eA 0 l),.obj (Zj e he ty l M)] (.ptr 0 0 0 0 :: args.map .d) [.box tq [.own 3 1 0 l'.length],.gone,.obj (Zj e he ty Qtc M'),.flat false 1 te l'.length (vec eA 0 l')] ret):
  Xz P f [.obj (swO e he ty tq te I)] (.ptr 0 0 0 0 :: args.map .d) [.obj (swO e he ty tq te I')] ret:=by
 intro X vs hP hF hR hA
 obtain ⟨b,l,M,hI,hn,ev,hR1⟩:=Qy3 (id:=0) hR rfl
 obtain ⟨l',Qtc,M',hI',Qjm,hnd,Qy⟩:=hs l M hI hn
 generalize hC1:opened (⟨X.μ0,[.obj (swO e he ty tq te I)],X.w0⟩:Wt) e he ty tq te 0 b l M=C1 at ev hR1
 have Qi9:C1.rows=[.box tq [.own 1 1 0 l.length],.flat false 1 te l.length (vec eA 0 l),.obj (Zj e he ty l M)]:=by rw [<- hC1];rfl
 have hw:C1.w=X.w0:=by rw [<- hC1];rfl
 have hh:Qci C1.rows [0,1,2] [.box tq [.own 1 1 0 l.length],.flat false 1 te l.length (vec eA 0 l),.obj (Zj e he ty l M)]:=by
  rw [Qi9]
  exact Qey rfl rfl rfl (by decide)
 have Qfd:Qb1 C1.w (C1.ok X) C1.μ (.ptr 0 0 0 0 :: args.map .d) vs:=by
  rw [hw]
  exact hA.mono (fun t c hc=>by have:=ev.ok t c hc;exact this) (fun _ _ _=>rfl) ev.pre (fun _ cs ty k=>⟨cs,k,rfl⟩)
 have hp:Qgv C1.rows [0,1,2] (Qa2 [0,1,2] C1.rows.length) (.ptr 0 0 0 0 :: args.map .d) (.ptr 0 0 0 0 :: args.map .d):=.cons (.same (.ptr 0 0 0 0)) (Qy6 args)
 have Qmr:=Qy (Qay X C1 [0,1,2]) vs hP (Qm2 hR1 hh) (Qoo hR1 hh) (Qkv hR1 hh hp Qfd)
 rw [show (Qay X C1 [0,1,2]).w0=X.w0 from hw] at Qmr
 intro cs
 obtain ⟨en,w',fr,⟨v,μ',rfl,hd⟩,q1,q2,q3⟩:=Qmr cs
 refine ⟨_,w',fr,⟨v, ?_⟩,q1,q2,q3⟩
 have hb:=Qm1 hR1 hh hd
 have Qh2:=Qta hR1 hh hd
 have hbr:(Qbe C1 [0,1,2] μ' [.box tq [.own 3 1 0 l'.length],.gone,.obj (Zj e he ty Qtc M'),.flat false 1 te l'.length (vec eA 0 l')] w').rows=[.box tq [.own 3 1 0 l'.length],.gone,.obj (Zj e he ty Qtc M'),.flat false 1 te l'.length (vec eA 0 l')]:=by
  simp only [Qbe,Qi9]
  rfl
 have hbw:(Qbe C1 [0,1,2] μ' [.box tq [.own 3 1 0 l'.length],.gone,.obj (Zj e he ty Qtc M'),.flat false 1 te l'.length (vec eA 0 l')] w').w=w':=rfl
 generalize Qbe C1 [0,1,2] μ' [.box tq [.own 3 1 0 l'.length],.gone,.obj (Zj e he ty Qtc M'),.flat false 1 te l'.length (vec eA 0 l')] w'=C2 at hb Qh2 hbr hbw
 obtain ⟨ev2,hR3⟩:=Qzh (I:=I') (id:=0) (N:=3) (A:=2) hb (by rw [hbr];rfl) (by rw [hbr];rfl) (by rw [hbr];rfl) Qjm hnd hI'
 have hr3:Qir C2.rows e he ty tq te I' 0 3 2=[.obj (swO e he ty tq te I'),.gone,.gone,.gone]:=by rw [hbr];rfl
 rw [hr3] at ev2 hR3
 have hμ0:X.μ0.length=1:=hR.len
 have p:Qkz X ⟨C2.μ,[.obj (swO e he ty tq te I'),.gone,.gone,.gone],C2.w⟩ [0] [.obj (swO e he ty tq te I')]:=⟨Qbu rfl,by decide,fun j hj=>by
  have:j=0:=by omega
  subst this
  rfl⟩
 have Wcz:=Qox hR3 p
 have Qm8:∀ b,(Qd1 ⟨C2.μ,[.obj (swO e he ty tq te I'),.gone,.gone,.gone],C2.w⟩ [0] [.obj (swO e he ty tq te I')]).ok X true b->(Qd1 ⟨C2.μ,[.obj (swO e he ty tq te I'),.gone,.gone,.gone],C2.w⟩ [0] [.obj (swO e he ty tq te I')]).okR X true b:=fun _ h=>⟨rfl,h⟩
 rw [hren] at Qh2
 rw [<- hbw] at Qh2 ⊢
 have hret2:=ev2.avr Qh2
 exact ⟨(Qd1 ⟨C2.μ,[.obj (swO e he ty tq te I'),.gone,.gone,.gone],C2.w⟩ [0] [.obj (swO e he ty tq te I')]).μ,rfl,Wcz,fun i o r e1 e2=>(Wcz.rel i o r e1 e2).perm Qm8 (by
  cases i with
  | zero=>simp at e2;subst e2;exact .obj _
  | succ i=>simp at e2),(Qrd hR3 p (by rw [hren];exact hret2)).perm Qm8 hna⟩
end Go.Sy
namespace Go.Sy
open Go.Proofs Go.Shelf Go.Sort Go.Lib
def Qkc (n i:Nat):Nat:=if i < n then i else 0
theorem Weq {n:Nat} (h:0 < n) (i:Nat):Qkc n i < n:=by
 unfold Qkc
 split
 ·assumption
 exact h
theorem Qno {n i:Nat} (h:i < n):Qkc n i=i:=if_pos h
def cfI {α:Type} (z:α) (cf:α->α->Int) (xs:List α) (i j:Nat):Int:=cf (xs.getD (Qkc xs.length i) z) (xs.getD (Qkc xs.length j) z)
theorem Qvl {α:Type} {z:α} {cf:α->α->Int} (h:SWO (ltOf cf)) (xs:List α):SWO (ltOf (cfI z cf xs)):=
 ⟨fun x=>h.irrefl _,fun x y z=>h.trans _ _ _,fun x y z=>h.ntrans _ _ _⟩
noncomputable def Qj9 {α:Type} (z:α) (cf:α->α->Int) (xs:List α):List Nat:=Qai 0 (cfI z cf xs) (List.range xs.length)
noncomputable def Qfm {α:Type} (z:α) (cf:α->α->Int) (xs:List α):List α:=(Qj9 z cf xs).map fun i=>xs.getD i z
theorem Qn3 {α:Type} (z:α) {cf:α->α->Int} (hO:SWO (ltOf cf)) (xs:List α):(Qj9 z cf xs).Perm (List.range xs.length):=Qpz 0 (Qvl hO xs) _
theorem Qsz {α:Type} (z:α) {cf:α->α->Int} (hO:SWO (ltOf cf)) (xs:List α):(Qj9 z cf xs).length=xs.length:=by rw [(Qn3 z hO xs).length_eq,List.length_range]
theorem Qng {α:Type} (z:α) {cf:α->α->Int} (hO:SWO (ltOf cf)) (xs:List α):(Qfm z cf xs).length=xs.length:=by rw [Qfm,List.length_map,Qsz z hO]
theorem Wdm {α:Type} (z:α) (xs:List α):(List.range xs.length).map (fun i=>xs.getD i z)=xs:=by
 apply List.ext_getElem
 ·simp
 intro i h1 h2
 simp [h2]
theorem Wdu {α:Type} (z:α) {cf:α->α->Int} (hO:SWO (ltOf cf)) (xs:List α):(Qfm z cf xs).Perm xs:=by
 have:=(Qn3 z hO xs).map fun i=>xs.getD i z
 rwa [Wdm] at this
theorem Qzj {α:Type} (z:α) {cf:α->α->Int} (hO:SWO (ltOf cf)) (xs:List α):(Qfm z cf xs).Pairwise fun x y=>ltOf cf y x=false:=by
 unfold Qfm
 rw [List.pairwise_map]
 have h:=Qri 0 (Qvl (z:=z) hO xs) (List.range xs.length)
 have hm:∀ i∈Qj9 z cf xs,i < xs.length:=fun i hi=>List.mem_range.1 ((Qn3 z hO xs).mem_iff.1 hi)
 unfold Qj9 at hm ⊢
 refine List.Pairwise.imp_of_mem ?_ h
 intro i j hi hj hij
 have h2:ltOf (cfI z cf xs) j i=false:=hij
 unfold ltOf at h2 ⊢
 unfold cfI at h2
 rwa [Qno (hm i hi),Qno (hm j hj)] at h2
theorem Wbf {P:Program} {g:FuncId} {α:Type} {e:α->List DV} {cf:α->α->Int}
  (hs:∀ x y,Xz P g [] [.d (.agg (e x)),.d (.agg (e y))] [] (.d (.v (.int .i64 (cf x y))))) (x y:α) (W:World) {ok:Bool->Nat->Prop} (Jp:∀ t b,ok t b->b < W.heap.size) {va vb:List Value}
  (ra:VRs W ok (e x) va) (rb:VRs W ok (e y) vb):
  Calls P g #[.agg va.toArray,.agg vb.toArray] W fun e w'=>e=.returned (.int .i64 (cf x y))/\∃ q os',w'=grow (W.drewN q) os':=by
 have h0:Yd (Qgt P W) ⟨[],[],W⟩:=⟨rfl,rfl,rfl,⟨rfl,Nat.le_refl _⟩,Nat.le_refl _,fun _ _ _=>rfl,fun _ _ _ k=>⟨_,k,rfl⟩,fun _ _ k=>k,fun _ _ h=>by simp at h,fun _ _ _ _ _ h=>by simp at h,fun _ _ _ _ h=>by simp at h,fun _ _ _ _ _ _ _ h=>by simp at h,fun _ _ _ h=>by simp at h⟩
 have hok2:∀ t b,b < W.heap.size->(⟨[],[],W⟩:Wt).ok (Qgt P W) t b:=fun t b hb=>⟨hb,by rintro ⟨i,m,r,h1,_⟩;simp at h1,fun _=>.inl hb⟩
 have hm:∀ {xs:List DV} {vs:List Value},VRs W ok xs vs->VRs W ((⟨[],[],W⟩:Wt).ok (Qgt P W)) xs vs:=fun h=>h.mono (fun t b hb=>hok2 t b (Jp t b hb)) (fun _ _ _=>rfl)
 have:=hs x y (Qgt P W) [.agg va.toArray,.agg vb.toArray] rfl (fun b hb=>⟨hb,by simp [Ctx.Qcc,Qgt]⟩) h0 (.cons (.d (.agg (hm ra))) (.cons (.d (.agg (hm rb))) .nil))
 refine this.mono ?_
 rintro e0 w' ⟨v,μ',rfl,hd⟩
 have hr:=hd.ret
 cases hr with
 | d hr=>
  cases hr with
  | v hr=>
   refine ⟨rfl,w'.drawn - W.drawn,w'.heap.extract W.heap.size w'.heap.size, ?_⟩
   have hk:=hd.rel.keep
   have hsz:=hd.rel.size
   have ho:=hd.rel.output
   have hos:=hd.rel.os
   have ht:=hd.rel.tape
   simp only [Qgt] at hk hsz ho hos ht
   have hh:w'.heap=W.heap ++ w'.heap.extract W.heap.size w'.heap.size:=by
    apply Array.ext_getElem?
    intro i
    by_cases hi:i < W.heap.size
    ·rw [Array.getElem?_append_left hi]
     exact hk i hi (by simp [Ctx.Qcc])
    rw [Array.getElem?_append_right (by omega),Array.getElem?_extract]
    by_cases hi2:i < w'.heap.size
    ·rw [if_pos (by omega)]
     congr 1
     omega
    rw [if_neg (by omega)]
    exact Array.getElem?_eq_none (by omega)
   cases w'
   cases W
   simp only at hh ho hos ht hsz ⊢
   obtain ⟨ho1,ho2⟩:=ho
   subst hos
   subst ht
   subst ho1
   simp only [grow,World.drewN,World.mk.injEq,true_and,and_true]
   exact ⟨hh,by omega⟩
def encI {α:Type} (xs:List α) (vs:Nat->List Value) (i:Nat):List Value:=vs (Qkc xs.length i)
theorem Wdv {P:Program} {ρ:Ren} {α:Type} (L:SlLaysF0.n6 P ρ) (z:α) (k:Nat) (aE:∀ w,(isAgg (ρ.t 24)).run P w=.ok true w) (zE:∀ w,(Go.sizeOf (ρ.t 24)).run P w=.ok k w)
  (e:α->List DV) (nl:∀ x,NLs (e x)) (cf:α->α->Int) (hO:SWO (ltOf cf)) (g:Nat)
  (eg:∀ args w,(callFunc g args).run P w=.ok (.enter g args) w)
  (hs:∀ x y,Xz P g [] [.d (.agg (e x)),.d (.agg (e y))] [] (.d (.v (.int .i64 (cf x y))))) {ty:TypeId} {xs:List α} (hsz:xs.length < 4611686018427387904):
  Xz P (ρ.f 6) [.flat false k ty xs.length (vec e z xs)] [.own 0 k 0 xs.length,.d (.fn g [])] [.flat false k ty xs.length (vec e z (Qfm z cf xs))] (.Qn []):=by
 intro X vs hP hF Jz Qfd
 subst hP
 have hO':=Qvl (z:=z) hO xs
 have hlen:=Qsz z hO xs
 cases Qfd with
 | cons ha hs'=>
  cases hs' with
  | cons hf hn=>
   cases hn
   cases hf with
   | d hf=>
    cases hf with
    | fn hf=>
     cases hf
     have fin:∀ {C':Wt},Yd X C'->C'.rows=[.flat false k ty xs.length (vec e z (Qfm z cf xs))]->Zw X ⟨C'.μ,[.flat false k ty xs.length (vec e z (Qfm z cf xs))],C'.w⟩ (.Qn []) (.tuple #[]):=by
      intro C' h hr
      have h':Yd X ⟨C'.μ,[.flat false k ty xs.length (vec e z (Qfm z cf xs))],C'.w⟩:=by rw [<- hr];exact h
      refine ⟨h', ?_,.Qn .nil⟩
      intro j ob r e1 e2
      refine (h'.rel j ob r e1 e2).perm (fun _ h=>⟨rfl,h⟩) ?_
      have:=List.mem_of_getElem? e2
      simp only [List.mem_singleton] at this
      subst this
      exact .flat fun i _=>nl _
     generalize hN:xs.length=N at ha
     cases ha with
     | Qcc hm=>
      have hx:xs=[]:=List.length_eq_zero_iff.1 hN
      refine (AnyF.slices_SortFunc_none L none 0 _ X.w0).mono ?_
      rintro e0 w' ⟨rfl,rfl⟩
      subst hx
      refine ⟨_,X.μ0,rfl,fin (C':=⟨X.μ0,_,X.w0⟩) Jz ?_⟩
      have:Qfm z cf ([]:List α)=[]:=List.length_eq_zero_iff.1 (Qng z hO [])
      rw [this]
     | @own _ _ _ _ b c cs ty' hm hh hs2 hn Qu9=>
      by_cases hl0:xs=[]
      ·have hN0:N=0:=by rw [<- hN,hl0];rfl
       subst hN0
       refine (AnyF.slices_SortFunc_none L (some ⟨b,0 * k,none⟩) c _ X.w0).mono ?_
       rintro e0 w' ⟨rfl,rfl⟩
       subst hl0
       refine ⟨_,X.μ0,rfl,fin (C':=⟨X.μ0,_,X.w0⟩) Jz ?_⟩
       have:Qfm z cf ([]:List α)=[]:=List.length_eq_zero_iff.1 (Qng z hO [])
       rw [this]
      have Wiv:0 < xs.length:=List.length_pos_iff.2 hl0
      let C0:Wt:=⟨X.μ0,[.flat false k ty xs.length (vec e z xs)],X.w0⟩
      have Qc5:=Jz.rel 0 (some b) _ hm rfl
      obtain ⟨cs2,vs,r1,r2,r3,r4,r5⟩:=Qc5
      have hh2:cs2=cs/\ty=ty':=by
       have:=r1.symm.trans hh
       injection this with this
       injection this with a1 a2 a3
       exact ⟨a1,a2⟩
      obtain ⟨rfl,rfl⟩:=hh2
      have hblk:b < X.w0.heap.size:=(Array.getElem?_eq_some_iff.1 hh).1
      have hblive:C0.live b:=⟨0,some b,_,hm,rfl,rfl,.inl rfl⟩
      subst hN
      have cl:=Weq Wiv
      have ek:∀ i,(encI xs vs i).length=k:=fun i=>r3 _ (cl i)
      have eo:∀ i,∀ v∈encI xs vs i,v.oneCell'=true:=fun i=>(r4 _ (cl i)).one
      have Qhl:∀ i j,i < xs.length->j < k->cs2[i * k+j]? = some ((encI xs vs i)[j]!):=fun i j hi hj=>by
       refine r5 i j _ hi ?_
       unfold encI
       rw [Qno hi]
       have:j < (vs i).length:=by rw [r3 i hi];exact hj
       rw [getElem!_pos _ j this]
       exact List.getElem?_eq_getElem this
      have hrange:∀ i,i < xs.length->(List.range xs.length).toArray[i]! = i:=fun i hi=>by
       rw [getElem!_pos _ _ (by simpa using hi)]
       simp
      have Qyk:HoldsK (encI xs vs) k X.w0 b 0 (List.range xs.length).toArray:=by
       intro j hj
       rw [size_flatK] at hj
       simp only [List.size_toArray,List.length_range] at hj
       have k0:0 < k:=Nat.pos_of_ne_zero (by rintro rfl;simp at hj)
       have hd:j / k < xs.length:=Nat.div_lt_of_lt_mul (by rw [Nat.mul_comm];exact hj)
       have hm':j % k < k:=Nat.mod_lt _ k0
       rw [get_flatK _ _ _ _ (by simpa using hj)]
       have hc2:=Qhl (j / k) (j % k) hd hm'
       rw [show j / k * k+j % k=j by rw [Nat.mul_comm];exact Nat.div_add_mod j k] at hc2
       refine ⟨?_, ?_⟩
       ·simp only [World.cell?,hh,hrange _ hd]
        simpa using hc2
       simp only [World.frozen?,hh]
       simp
      have hWheap:∀ (m:Nat) (dk:Array Nat) (os:Array Obj) (q:Nat),q < X.w0.heap.size->q≠b->(sortWorldK (encI xs vs) k X.w0 b 0 m dk os).heap[q]? = X.w0.heap[q]?:=by
       intro m dk os q hq hne
       have:(sortWorldK (encI xs vs) k X.w0 b 0 m dk os).heap=X.w0.heap.modify b (onCells (putCells id 0 (flatK (encI xs vs) k dk))) ++ os:=rfl
       rw [this,Array.getElem?_append_left (by simpa using hq)]
       simp [Array.getElem?_modify,Ne.symm hne]
      have hWsize:∀ (m:Nat) (dk:Array Nat) (os:Array Obj),X.w0.heap.size<=(sortWorldK (encI xs vs) k X.w0 b 0 m dk os).heap.size:=by
       intro m dk os
       have:(sortWorldK (encI xs vs) k X.w0 b 0 m dk os).heap=X.w0.heap.modify b (onCells (putCells id 0 (flatK (encI xs vs) k dk))) ++ os:=rfl
       rw [this,Array.size_append,Array.size_modify]
       omega
      have hvr:∀ (i:Nat) (W:World),(∀ q,q < X.w0.heap.size->q≠b->W.heap[q]? = X.w0.heap[q]?)->VRs W (C0.ok X) (e (xs.getD (Qkc xs.length i) z)) (encI xs vs i):=fun i W hW=>
       (r4 _ (cl i)).mono (fun _ _ h=>h) (fun t q hq=>hW q hq.1 (by rintro rfl;exact hq.2.1 hblive))
      have main:=AnyQ.slices_SortFunc_eq L k aE zE (encI xs vs) ek eo (cfI z cf xs) hO' g #[] b 0 c (List.range xs.length).toArray X.w0 eg (fun m os dk _ x y=>by
       have:=Wbf hs (xs.getD (Qkc xs.length x) z) (xs.getD (Qkc xs.length y) z) (sortWorldK (encI xs vs) k X.w0 b 0 m dk os) (ok:=C0.ok X) (fun t q hq=>Nat.lt_of_lt_of_le hq.1 (hWsize m dk os)) (hvr x _ (hWheap m dk os)) (hvr y _ (hWheap m dk os))
       exact this) Qyk hblk (by simpa using hsz)
      rw [show ([Value.slice (some ⟨b,0 * k,none⟩) xs.length c,Value.func (.func g) #[] ([]:List Value).toArray]:List Value).toArray=#[.slice (some ⟨b,0,none⟩) (List.range xs.length).toArray.size c,.func (.func g) #[] #[]] by simp]
      refine main.mono ?_
      rintro e0 w' ⟨rfl,n,os,rfl⟩
      have hyl:(pdq (ltOf (cfI z cf xs)) (List.range xs.length).toArray 0 (List.range xs.length).toArray.size (Lib.bitLen (List.range xs.length).toArray.size) true true).toList=Qj9 z cf xs:=rfl
      generalize hY:pdq (ltOf (cfI z cf xs)) (List.range xs.length).toArray 0 (List.range xs.length).toArray.size (Lib.bitLen (List.range xs.length).toArray.size) true true=ya at hyl
      have hya:ya.size=xs.length:=by rw [<- hlen,<- hyl];simp
      have hyin:∀ i,i < xs.length->ya[i]! = (Qj9 z cf xs).getD i 0/\(Qj9 z cf xs).getD i 0 < xs.length:=fun i hi=>by
       have e1:ya[i]! = (Qj9 z cf xs).getD i 0:=by
        rw [getElem!_pos _ _ (by omega),<- hyl]
        simp [hya,hi]
       refine ⟨e1,List.mem_range.1 ((Qn3 z hO xs).mem_iff.1 ?_)⟩
       have hi2:i < (Qj9 z cf xs).length:=by omega
       rw [List.getD_eq_getElem?_getD,List.getElem?_eq_getElem hi2]
       exact List.getElem_mem hi2
      have hw1:(putRowK (encI xs vs) k (Sort.ahead X.w0 n) b 0 ya).heap=X.w0.heap.modify b (onCells (putCells id 0 (flatK (encI xs vs) k ya))):=rfl
      have hat:(putRowK (encI xs vs) k (Sort.ahead X.w0 n) b 0 ya).heap[b]? = some (.cells (putCells id 0 (flatK (encI xs vs) k ya) cs2) ty (0,0)):=by
       rw [hw1]
       simp [Array.getElem?_modify,hh,onCells]
      have Qnx:(putCells id 0 (flatK (encI xs vs) k ya) cs2).size=cs2.size:=by simp [putCells]
      have tu:Qjp X C0 0 b (.flat false k ty xs.length (vec e z xs)) (.flat false k ty xs.length (vec e z (Qfm z cf xs))) (putRowK (encI xs vs) k (Sort.ahead X.w0 n) b 0 ya):=by
       refine ⟨hm,rfl,rfl,rfl,rfl,⟨rfl,Nat.le_add_right _ _⟩, ?_, ?_, ?_,fun _ _=>rfl,fun _ _=>rfl⟩
       ·rw [hw1];simp [C0]
       ·intro q hq
        rw [hw1]
        simp [C0,Array.getElem?_modify,Ne.symm hq]
       intro cs3 ty3 h3
       have:cs3=cs2/\ty3=ty:=by
        have:=h3.symm.trans hh
        injection this with this
        injection this with a1 a2 a3
        exact ⟨a1,a2⟩
       obtain ⟨rfl,rfl⟩:=this
       exact ⟨_,hat,Qnx⟩
      have ev:=Ev.Qah (C:=C0) Jz tu
      have Wcy:Qcz (putRowK (encI xs vs) k (Sort.ahead X.w0 n) b 0 ya) ((C0.Qah 0 (.flat false k ty xs.length (vec e z (Qfm z cf xs))) (putRowK (encI xs vs) k (Sort.ahead X.w0 n) b 0 ya)).ok X) X.μ0 (some b) (.flat false k ty xs.length (vec e z (Qfm z cf xs))):=by
       refine ⟨_,fun i=>encI xs vs ((Qj9 z cf xs).getD i 0),hat, ?_,fun i _=>ek _,fun i hi=>?_, ?_⟩
       ·rw [Qnx];exact r2
       ·obtain ⟨q1,q2⟩:=hyin i hi
        have h4:VRs X.w0 (C0.ok X) (e (xs.getD (Qkc xs.length ((Qj9 z cf xs).getD i 0)) z)) (encI xs vs ((Qj9 z cf xs).getD i 0)):=r4 _ (cl _)
        have h5:=h4.mono ev.ok ev.same
        have e1:(Qfm z cf xs).getD i z=xs.getD ((Qj9 z cf xs).getD i 0) z:=by
         have hi2:i < (Qj9 z cf xs).length:=by omega
         simp [Qfm,List.getD_eq_getElem?_getD,List.getElem?_map,List.getElem?_eq_getElem hi2]
        show VRs _ _ (e ((Qfm z cf xs).getD i z)) _
        rw [e1]
        rwa [Qno q2] at h5
       intro i j v hi hj
       have hjk:j < k:=by
        have:=(List.getElem?_eq_some_iff.1 hj).1
        rwa [ek] at this
       have lt:i * k+j < xs.length * k:=by
        have:=Nat.mul_le_mul_right k (show i+1<=xs.length from hi)
        rw [Nat.add_mul,Nat.one_mul] at this
        omega
       have e1:(i * k+j) / k=i:=(blk_iff k i _ (by omega)).1 ⟨by omega,by omega⟩
       have e2:(i * k+j) % k=j:=by rw [Nat.mod_eq_sub_div_mul,e1];omega
       have lt2:i * k+j < cs2.size:=Nat.lt_of_lt_of_le lt r2
       have lty:i * k+j < ya.size * k:=by rw [hya];exact lt
       simp only [putCells,Array.getElem?_mapIdx]
       rw [Array.getElem?_eq_getElem lt2]
       simp only [Option.map_some,Nat.zero_le,true_and,Nat.zero_add,size_flatK,lty,if_true,Nat.sub_zero,id]
       rw [get_flatK _ _ _ _ lty,e1,e2,(hyin i hi).1]
       have:j < (encI xs vs ((Qj9 z cf xs).getD i 0)).length:=by rw [ek];exact hjk
       rw [getElem!_pos _ j this,<- hj]
       exact (List.getElem?_eq_getElem this).symm
      have h2:=Yd.Qah (C:=C0) Jz tu (.inl (by simp)) Wcy
      have h3:=h2.grown (w':=sortWorldK (encI xs vs) k X.w0 b 0 n ya os) ⟨rfl,rfl,⟨rfl,Nat.le_refl _⟩,by simp [sortWorldK,grow,Wt.Qah],fun q hq=>by
       simp only [sortWorldK,grow,Wt.Qah] at hq ⊢
       exact Array.getElem?_append_left hq⟩
      exact ⟨_,X.μ0,rfl,fin h3 rfl⟩
end Go.Sy
namespace Go.Sy
abbrev Cf:=List Item × St
def AKo (X:Ctx) (f:FuncId) (Q:Frame->Frame->Wt->Prop):Option Cf->Prop
 | some c=>AK X f c.1 Q c.2
 | none=>False
def stp (T:Tab) (n:Nat):Option Cf->Option Cf
 | some c=>some (adv T n c.1 c.2)
 | none=>none
section
variable {X:Ctx} {T:Tab} {f:FuncId} {k:List Item} {Q:Frame->Frame->Wt->Prop} {st:St} {o:Option Cf}
theorem qI (h:AKo X f Q (some (k,st))):AK X f k Q st:=h
theorem Qoz (hT:Xb X.P T) (n:Nat) (h:AKo X f Q (stp T n o)):AKo X f Q o:=by
 cases o with
 | none=>exact h
 | some c=>exact Qnk hT n h
theorem qE (hT:Xb X.P T) (n:Nat) (k':List Item) (st':St) (h:AK X f k' Q st') (e:(stp T n o).map (fun r:Cf=>(r.1,r.2.only (st'.tm.map Prod.fst)))=some (k',st'):=by kernel_rfl):AKo X f Q o:=by
 refine Qoz hT n ?_
 cases hc:stp T n o with
 | none=>rw [hc] at e;cases e
 | some c=>
  rw [hc,Option.map_some] at e
  injection e with e
  injection e with e1 e2
  subst e1
  exact Qel _ (e2▸h)
theorem qC (hT:Xb X.P T) {n0:Nat} (n:Nat) (k':List Item) (Zp:List Nat) (st':St) (h0:X.μ0.length=n0) (h:AK X f k' Q st') (e0:(stp T n o).map (·.1)=some k':=by kernel_rfl)
  (e1:(stp T n o).map (fun c:Cf=>(c.2.only (st'.tm.map Prod.fst)).tm)=(stp T n o).map (fun c:Cf=>st'.tm.map (fun p=>(p.1,Qdm (Qdf Zp c.2.rows.length) p.2))):=by kernel_rfl)
  (e2:(stp T n o).map (fun c:Cf=>Zp.map (fun i=>c.2.rows[i]?))=(stp T n o).map (fun c:Cf=>st'.rows.map (fun r=>some (Qeh (Qdf Zp c.2.rows.length) r))):=by kernel_rfl)
  (e3:(stp T n o).map (fun c:Cf=>c.2.nt)=some st'.nt:=by kernel_rfl) (hn:Zp.Nodup:=by decide) (h1:Zp.take n0=List.range n0:=by rfl):AKo X f Q o:=by
 refine Qoz hT n ?_
 cases hc:stp T n o with
 | none=>rw [hc] at e0;cases e0
 | some c=>
  rw [hc,Option.map_some] at e0 e1 e2 e3
  simp only [Option.map_some,Option.some.injEq] at e0 e1 e2 e3
  show AK X f c.1 Q c.2
  rw [e0]
  exact Qg4 Zp st' h0 h e1 e2 e3.symm hn h1
def Wac:Option Cf->Option Tmp
 | some (.code (.cond (.tmp t) _ _) :: _,_)=>some t
 | some (.inRegion ops (i :: _) :: _,_)=>
  match ops[i]? with
  | some o=>
   match o.guard with
   | some (j,_)=>(ops[j]?).bind (·.dst)
   | none=>match o.op with
    | .pick (.tmp t) _ _=>some t
    | _=>none
  | none=>none
 | _=>none
def Wes (o:Option Cf):Option Bool:=
 match o,Wac o with
 | some c,some t=>
  match c.2.tm.lookup t with
  | some (.d (.v (.bool b)))=>some b
  | _=>none
 | _,_=>none
def took (b:Bool) (o:Option Cf):Option Cf:=
 match o,Wac o with
 | some c,some t=>some (c.1,⟨c.2.nt,(t,.b b) :: c.2.tm,c.2.rows⟩)
 | _,_=>none
theorem qB (hT:Xb X.P T) (n:Nat) {x b:Bool} (hx:x=b) (h:AKo X f Q (took b (stp T n o))) (e:Wes (stp T n o)=some x:=by kernel_rfl):AKo X f Q o:=by
 refine Qoz hT n ?_
 generalize stp T n o=o' at h e
 unfold Wes at e
 unfold took at h
 split at e
 ·rename_i c t ht
  rw [ht] at h
  split at e
  ·rename_i b' hv
   injection e with e
   subst e
   subst hx
   refine Qx4 ((t,.b b') :: c.2.tm) (fun i av hi=>?_) h
   simp only [List.lookup_cons] at hi
   split at hi
   ·rename_i hj
    have hj:i=t:=by simpa using hj
    subst hj
    injection hi with hi
    subst hi
    exact hv
   exact hi
  cases e
 cases e
def Qxi (rows:List Row):AV->AV
 | .own id k off n=>
  match rows[id]? with
  | some (.flat fz _ _ n' g)=>.d (.sl fz n' g)
  | _=>.own id k off n
 | av=>av
def Qxl (rows:List Row):AV->AV
 | .own id k off n=>
  match rows[id]? with
  | some (.flat _ k' _ n' _)=>.own id k' 0 n'
  | _=>.d .np
 | .d x=>.d x
 | _=>.d .np
theorem Wg5 {rows:List Row} {ρ:Nat->Nat}:∀ {av:AV},av=Qxl rows av->Pass rows [] ρ av (Qxi rows av)
 | .own id k off n,h=>by
  simp only [Qxl] at h
  simp only [Qxi]
  cases hr:rows[id]? with
  | none=>rw [hr] at h;cases h
  | some r=>
   rw [hr] at h
   cases r with
   | flat fz k' ty n' g=>
    simp only [AV.own.injEq,true_and] at h
    obtain ⟨rfl,rfl,rfl⟩:=h
    exact .Qog hr rfl
   | _=>cases h
 | .d x,_=>.same (.d x)
 | .agg _,h=>by cases h
 | .Qn _,h=>by cases h
 | .ptr ..,h=>by cases h
 | .win ..,h=>by cases h
 | .fn ..,h=>by cases h
 | .ifc ..,h=>by cases h
theorem Qun {rows:List Row} {ρ:Nat->Nat}:∀ {Zk:List AV},Zk=Zk.map (Qxl rows)->Qgv rows [] ρ Zk (Zk.map (Qxi rows))
 | [],_=>.nil
 | av :: Zk,h=>by
  simp only [List.map_cons,List.cons.injEq] at h
  exact .cons (Wg5 h.1) (Qun h.2)
def calls (o:Option Cf):Option (FuncId × List AV):=
 match o with
 | some c=>(Qhx c.2 c.1).map fun r=>(r.1,r.2.1.map (Qxi c.2.rows))
 | none=>none
def Wbc (nrm:Bool) (o:Option Cf):Option (List AV):=
 match o with
 | some c=>(Qhx c.2 c.1).map fun r=>bif nrm then r.2.1.map (Qxl c.2.rows) else r.2.1
 | none=>none
def called (Wv:List Row) (ret:AV) (o:Option Cf):Option Cf:=
 match o with
 | some c=>
  match Qhx c.2 c.1 with
  | some (_,_,dst,k')=>(St.put { c.2 with rows:=Qcn c.2.rows [] Wv } dst (Qdm (Qa2 [] c.2.rows.length) ret)).map fun s=>(k',s)
  | none=>none
 | none=>none
theorem qF (hT:Xb X.P T) {P:Program} (n:Nat) {g:FuncId} {args:List AV} {Wv:List Row} {ret:AV} (hP:X.P=P) (he:Enters P g) (hs:Xz P g [] args Wv ret)
  (h:AKo X f Q (called Wv ret (stp T n o))) (e1:calls (stp T n o)=some (g,args):=by kernel_rfl) (e2:Wbc false (stp T n o)=Wbc true (stp T n o):=by kernel_rfl):AKo X f Q o:=by
 subst hP
 refine Qoz hT n ?_
 generalize stp T n o=o' at h e1 e2
 cases o' with
 | none=>cases e1
 | some c=>
  simp only [calls,Wbc,called,Bool.cond_false,Bool.cond_true] at e1 e2 h
  cases hc:Qhx c.2 c.1 with
  | none=>rw [hc] at e1;cases e1
  | some r=>
   obtain ⟨g',Zk,dst,k'⟩:=r
   rw [hc] at e1 e2 h
   simp only [Option.map_some,Option.some.injEq,Prod.mk.injEq] at e1 e2 h
   obtain ⟨rfl,rfl⟩:=e1
   cases hp:St.put { c.2 with rows:=Qcn c.2.rows [] Wv } dst (Qdm (Qa2 [] c.2.rows.length) ret) with
   | none=>rw [hp] at h;cases h
   | some s=>
    rw [hp] at h
    exact Qol [] hc he (Jy _) (Qun e2) hs hp h
def Wln (T:Tab) (o:Option Cf):Option (Int × Int):=
 match o with
 | some c=>(Qrs T c.2 c.1).map fun r=>r.2.2.2
 | none=>none
def Wlo (T:Tab) (o:Option Cf):Option Cf:=
 match o with
 | some c=>(Qrs T c.2 c.1).bind fun r=>(c.2.put r.2.1 r.1).map fun s=>(r.2.2.1,s)
 | none=>none
theorem qX (hT:Xb X.P T) (n:Nat) {i m:Int} (hi:0<=i/\i < m) (h:AKo X f Q (Wlo T (stp T n o))) (e:Wln T (stp T n o)=some (i,m):=by kernel_rfl):AKo X f Q o:=by
 refine Qoz hT n ?_
 generalize stp T n o=o' at h e
 cases o' with
 | none=>cases e
 | some c=>
  simp only [Wln,Wlo] at e h
  cases hc:Qrs T c.2 c.1 with
  | none=>rw [hc] at e;cases e
  | some r=>
   rw [hc] at e h
   simp only [Option.map_some,Option.some.injEq,Option.bind_some] at e h
   cases hp:c.2.put r.2.1 r.1 with
   | none=>rw [hp] at h;cases h
   | some s=>
    rw [hp] at h
    exact Yf hT hi.1 hi.2 (k':=r.2.2.1) (st':=s) (by rw [hc,Option.bind_some,hp,Option.map_some,e]) h
def Wl5 (fn:Func) (o:Option Cf):Option AV:=
 match o with
 | some (.code .ret :: k,st)=>Ql2 st.tm fn.results.toList
 | some ([],st)=>Ql2 st.tm fn.results.toList
 | _=>none
def Wl3 (Zp:List Nat) (o:Option Cf):Option (List (Option Row)):=o.map fun c=>Zp.map fun i=>c.2.rows[i]?
def Wl4 (Zp:List Nat) (Wv:List Row) (o:Option Cf):Option (List (Option Row)):=o.map fun c=>Wv.map fun r=>some (Qeh (Qdf Zp c.2.rows.length) r)
theorem qT (hT:Xb X.P T) (n:Nat) {fn:Func} {Wv:List Row} {ret:AV} {n0:Nat} (hf:X.P.funcs[f]? = some fn) (hX:X.ds=[]/\X.rnd=none) (h0:X.μ0.length=n0) (Zp:List Nat) (nr:∀ r∈Wv,NR r) (na:NA ret)
  (e:Wl5 fn (stp T n o)=(stp T n o).map (fun c:Cf=>Qdm (Qdf Zp c.2.rows.length) ret):=by kernel_rfl) (es:(Wl5 fn (stp T n o)).isSome=true:=by kernel_rfl)
  (hs:Wl3 Zp (stp T n o)=Wl4 Zp Wv (stp T n o):=by kernel_rfl) (hn:Zp.Nodup:=by decide) (h1:Zp.take n0=List.range n0:=by rfl):AKo X f (Yc X Wv ret) o:=by
 refine Qoz hT n ?_
 generalize stp T n o=o' at e hs es
 cases o' with
 | none=>cases es
 | some c=>
  obtain ⟨k,st⟩:=c
  simp only [Option.map_some,Wl3,Wl4,Option.some.injEq] at e hs
  cases k with
  | nil=>exact Qx1 hf hX e Zp (Qbu hs) hn (by rw [h0];exact h1) rfl nr na
  | cons i k=>
   cases i with
   | code c=>
    cases c with
    | ret=>exact Qjd hf hX e Zp (Qbu hs) hn (by rw [h0];exact h1) rfl nr na
    | _=>cases es
   | _=>cases es
end
section
variable {α γ σ ρ δ:Type} {c:Prop} [Decidable c] {g:σ->Option ρ} {r:ρ}
theorem sB {a b:Option (σ ⊕ ρ)} (H:stk (if c then a else b) g=some r):(c/\stk a g=some r)\/(¬ c/\stk b g=some r):=by
 by_cases h:c
 ·exact .inl ⟨h,sT h H⟩
 exact .inr ⟨h,sF h H⟩
theorem iB {a b x:α} (H:(if c then a else b)=x):(c/\a=x)\/(¬ c/\b=x):=by
 by_cases h:c
 ·exact .inl ⟨h,iT h H⟩
 exact .inr ⟨h,iF h H⟩
end
end Go.Sy
