/- Entering a function, coming back from it, calling. -/
import Derived.Test.YticmlllaimjdcaaGreatSyF
set_option linter.unusedSectionVars false
set_option linter.unusedVariables false
set_option linter.unusedSimpArgs false
namespace Go.Sy
mutual
inductive NL:DV->Prop
 | v (x:Value):NL (.v x)
 | agg {xs:List DV} (h:NLs xs):NL (.agg xs)
 | sl {n:Nat} {g:Nat->List DV} (h:∀ i,i < n->NLs (g i)):NL (.sl true n g)
 | sl0 (t:Bool) (g:Nat->List DV):NL (.sl t 0 g)
 | rop {n:Nat} {g:Nat->List DV} {i off:Nat} (h:∀ i,i < n->NLs (g i)):NL (.rop true n g i off)
 | fn {f:FuncId} {xs:List DV} (h:NLs xs):NL (.fn f xs)
 | ifc {t:TypeId} {x:DV} (h:NL x):NL (.ifc t x)
inductive NLs:List DV->Prop
 | nil:NLs []
 | cons {x:DV} {xs:List DV} (h:NL x) (hs:NLs xs):NLs (x :: xs)
end
mutual
inductive NA:AV->Prop
 | d {x:DV} (h:NL x):NA (.d x)
 | agg {xs:List AV} (h:NAs xs):NA (.agg xs)
 | Qq {xs:List AV} (h:NAs xs):NA (.Qq xs)
 | own (id k off n:Nat):NA (.own id k off n)
 | ptr (id k i off:Nat):NA (.ptr id k i off)
 | win (id off n:Nat):NA (.win id off n)
 | fn {f:FuncId} {xs:List AV} (h:NAs xs):NA (.fn f xs)
 | ifc {t:TypeId} {x:AV} (h:NA x):NA (.ifc t x)
inductive NAs:List AV->Prop
 | nil:NAs []
 | cons {x:AV} {xs:List AV} (h:NA x) (hs:NAs xs):NAs (x :: xs)
end
inductive NR:Row->Prop
 | flat {fz:Bool} {k:Nat} {ty:TypeId} {n:Nat} {g:Nat->List DV} (h:∀ i,i < n->NLs (g i)):NR (.flat fz k ty n g)
 | box {ty:TypeId} {cs:List AV} (h:NAs cs):NR (.box ty cs)
 | mix {k:Nat} {ty:TypeId} {n:Nat} {g:Nat->List AV} (h:∀ i,i < n->NAs (g i)):NR (.mix k ty n g)
 | gone:NR .gone
 | loop {l:Nat} {s:LoopState} {fn:FuncId} {nt:Nat} {is:List Nat} {xs:List AV} {ps:Array Tmp} {asg body:Code} (h:NAs xs):NR (.loop l s fn nt is xs ps asg body)
 | dfr (D:Nat):NR (.dfr D)
 | obj (o:Ql1):NR (.obj o)
section
variable {w:World} {ok okr:Bool->Nat->Prop} {μ:List (Option Nat)} (Jl:∀ b,ok true b->okr true b)
include Jl
mutual
theorem VR.perm:∀ {x:DV} {v:Value},VR w ok x v->NL x->VR w okr x v
 | _,_,.v h,_=>.v h
 | _,_,.agg h,.agg k=>.agg (VRs.perm h k)
 | _,_,.sl0,_=>.sl0
 | _,_,.sl k vs h0 hc ho hl hr hm,.sl q=>.sl k vs h0 hc (Jl _ ho) hl (fun i hi=>VRs.perm (hr i hi) (q i hi)) hm
 | _,_,.sl k vs h0 hc ho hl hr hm,.sl0 _ _=>absurd h0 (Nat.lt_irrefl 0)
 | _,_,.rop k vs hi ho hl hr hm,.rop q=>.rop k vs hi (Jl _ ho) hl (fun i hi=>VRs.perm (hr i hi) (q i hi)) hm
 | _,_,.fn h,.fn k=>.fn (VRs.perm h k)
 | _,_,.ifc h,.ifc k=>.ifc (VR.perm h k)
theorem VRs.perm:∀ {x:List DV} {v:List Value},VRs w ok x v->NLs x->VRs w okr x v
 | _,_,.nil,_=>.nil
 | _,_,.cons h1 h hs,.cons k ks=>.cons h1 (VR.perm h k) (VRs.perm hs ks)
end
mutual
theorem AVR.perm:∀ {x:AV} {v:Value},AVR w ok μ x v->NA x->AVR w okr μ x v
 | _,_,.d h,.d k=>.d (VR.perm Jl h k)
 | _,_,.agg h,.agg k=>.agg (Qap.perm h k)
 | _,_,.Qq h,.Qq k=>.Qq (Qbp.perm h k)
 | _,_,.Qbv h,_=>.Qbv h
 | _,_,.own h h1 h2 h3 h4,_=>.own h h1 h2 h3 h4
 | _,_,.ptr h,_=>.ptr h
 | _,_,.win h h1 h2,_=>.win h h1 h2
 | _,_,.fn h,.fn k=>.fn (Qap.perm h k)
 | _,_,.ifc h,.ifc k=>.ifc (AVR.perm h k)
theorem Qap.perm:∀ {x:List AV} {v:List Value},Qap w ok μ x v->NAs x->Qap w okr μ x v
 | _,_,.nil,_=>.nil
 | _,_,.cons h1 h hs,.cons k ks=>.cons h1 (AVR.perm h k) (Qap.perm hs ks)
theorem Qbp.perm:∀ {x:List AV} {v:List Value},Qbp w ok μ x v->NAs x->Qbp w okr μ x v
 | _,_,.nil,_=>.nil
 | _,_,.cons h hs,.cons k ks=>.cons (AVR.perm h k) (Qbp.perm hs ks)
end
theorem Qce.perm {ob:Option Nat} {r:Row} (h:Qce w ok μ ob r) (hr:NR r):Qce w okr μ ob r:=by
 cases ob with
 | none=>cases r<;>first | exact h | exact Ql1.perm _ Jl h
 | some b=>
  cases hr with
  | gone=>trivial
  | loop k=>
   obtain ⟨h0,T,D,vs,h1,h2,h3,h4⟩:=h
   exact ⟨h0,T,D,vs,h1,h2,Qbp.perm Jl h3 k,h4⟩
  | dfr D=>exact h
  | obj o=>exact o.perm Jl h
  | flat k=>
   obtain ⟨cs,vs,h1,h2,h3,h4,h5⟩:=h
   exact ⟨cs,vs,h1,h2,h3,fun i hi=>VRs.perm Jl (h4 i hi) (k i hi),h5⟩
  | mix k=>
   obtain ⟨cs,vs,h1,h2,h3,h4,h5⟩:=h
   exact ⟨cs,vs,h1,h2,h3,fun i hi=>Qap.perm Jl (h4 i hi) (k i hi),h5⟩
  | box k=>
   obtain ⟨vs,h1,h2⟩:=h
   exact ⟨vs,h1,Qap.perm Jl h2 k⟩
end
inductive Sel (rows:List Row) (ρ:Nat->Nat):List Nat->List Row->Prop
 | nil:Sel rows ρ [] []
 | cons {id:Nat} {r:Row} {Je:List Nat} {rs:List Row} (h:rows[id]? = some (Qd0 ρ r)) (hs:Sel rows ρ Je rs):Sel rows ρ (id :: Je) (r :: rs)
theorem Sel.len {rows:List Row} {ρ:Nat->Nat}:∀ {Je:List Nat} {rs:List Row},Sel rows ρ Je rs->Je.length=rs.length
 | _,_,.nil=>rfl
 | _,_,.cons _ hs=>by simp [Sel.len hs]
theorem Sel.at_ {rows:List Row} {ρ:Nat->Nat}:∀ {Je:List Nat} {rs:List Row},Sel rows ρ Je rs->∀ {j:Nat} {r:Row},rs[j]? = some r->∃ id,Je[j]? = some id/\rows[id]? = some (Qd0 ρ r)
 | _,_,.nil,_,_,h=>by simp at h
 | _,_,.cons h hs,0,_,e=>by simp at e;subst e;exact ⟨_,rfl,h⟩
 | _,_,.cons h hs,j+1,_,e=>by simpa using Sel.at_ hs (by simpa using e)
def Qc5 (Je:List Nat) (N:Nat) (j:Nat):Nat:=Je.getD j N
section
variable {X:Ctx} {C:Wp} {Je:List Nat} {rs:List Row}
def Qdh (C:Wp) (Je:List Nat) (rs:List Row):Wp:=⟨Je.map fun i=>(C.μ[i]?).getD none,rs,C.w⟩
structure Qjy (X:Ctx) (C:Wp) (Je:List Nat) (rs:List Row):Prop where
 is:Sel C.rows (Qc5 Je C.rows.length) Je rs
 nodup:Je.Nodup
 first:∀ j,j < X.μ0.length->Je[j]? = some j
theorem Qqi (h:Xz X C) (p:Qjy X C Je rs) {j:Nat} {x:Option Nat}:(Qdh C Je rs).μ[j]? = some x↔∃ id,Je[j]? = some id/\C.μ[id]? = some x:=by
 simp only [Qdh,List.getElem?_map,Option.map_eq_some_iff]
 constructor
 ·rintro ⟨id,h1,h2⟩
  refine ⟨id,h1, ?_⟩
  have hj:=(List.getElem?_eq_some_iff.1 h1).1
  rw [p.is.len] at hj
  obtain ⟨id',e1,e2⟩:=p.is.at_ (List.getElem?_eq_getElem hj)
  rw [h1] at e1
  injection e1 with e1
  subst e1
  obtain ⟨y,hy⟩:=h.Qg3 e2
  rw [hy] at h2 ⊢
  simpa using h2
 rintro ⟨id,h1,h2⟩
 exact ⟨id,h1,by simp [h2]⟩
theorem Qx3 (h:Xz X C) (p:Qjy X C Je rs) {j:Nat} {x:Option Nat} (e:C.μ[Qc5 Je C.rows.length j]? = some x):(Qdh C Je rs).μ[j]? = some x:=by
 rw [Qqi h p]
 by_cases hj:j < Je.length
 ·refine ⟨Je[j],List.getElem?_eq_getElem hj, ?_⟩
  simpa [Qc5,List.getD_eq_getElem?_getD,List.getElem?_eq_getElem hj] using e
 have:=(List.getElem?_eq_some_iff.1 e).1
 simp only [Qc5,List.getD_eq_getElem?_getD,List.getElem?_eq_none (Nat.le_of_not_lt hj),Option.getD_none] at this
 have:=h.len
 omega
theorem Whn (h:Xz X C) (p:Qjy X C Je rs) {b:Nat} (e:(Qdh C Je rs).live b):C.live b:=by
 obtain ⟨j,m,r,h1,h2,h3,h4⟩:=e
 obtain ⟨id,e1,e2⟩:=(Qqi h p).1 h1
 obtain ⟨id',e3,e4⟩:=p.is.at_ h2
 rw [e1] at e3
 injection e3 with e3
 subst e3
 exact ⟨id,m,_,e2,e4,by rw [Qft];exact h3,(Qle _ _ _ _ _).2 h4⟩
theorem Wfp (h:Xz X C) (p:Qjy X C Je rs):∀ t b,C.ok X t b->(Qdh C Je rs).ok X t b:=fun _ _ ⟨h1,h2,h3⟩=>⟨h1,fun e=>h2 (Whn h p e),h3⟩
theorem Qn1 (h:Xz X C) (p:Qjy X C Je rs):Xz X (Qdh C Je rs):=by
 have hat:∀ {j:Nat} {x:Option Nat} {r:Row},(Qdh C Je rs).μ[j]? = some x->rs[j]? = some r->∃ id,Je[j]? = some id/\C.μ[id]? = some x/\C.rows[id]? = some (Qd0 (Qc5 Je C.rows.length) r):=by
  intro j x r h1 h2
  obtain ⟨id,e1,e2⟩:=(Qqi h p).1 h1
  obtain ⟨id',e3,e4⟩:=p.is.at_ h2
  rw [e1] at e3
  injection e3 with e3
  subst e3
  exact ⟨id,e1,e2,e4⟩
 refine ⟨by simp [Qdh,p.is.len],h.os,h.tape,h.output,h.size,h.keep,h.shape, ?_, ?_, ?_, ?_, ?_, ?_⟩
 ·intro j x hx
  have hj:=(List.getElem?_eq_some_iff.1 hx).1
  exact (Qqi h p).2 ⟨j,p.first j hj,h.first j x hx⟩
 ·intro j b hb
  obtain ⟨id,e1,e2⟩:=(Qqi h p).1 hb
  exact h.place id b e2
 ·intro i j b r s h1 h2 h3 h4 h5 h6
  obtain ⟨id,e1,e2,e3⟩:=hat h1 h3
  obtain ⟨jd,f1,f2,f3⟩:=hat h2 h4
  have:=h.apart id jd b _ _ e2 f2 e3 f3 (by rw [Qft];exact h5) (by rw [ne_eq,Qhe];exact h6)
  subst this
  exact (List.getElem?_inj (List.getElem?_eq_some_iff.1 e1).1 p.nodup).1 (e1.trans f1.symm)
 ·intro i m b r h1 h2 h3
  obtain ⟨id,e1,e2,e3⟩:=hat h1 h2
  exact h.Qb7 id m b _ e2 e3 (by rw [Qet];exact h3)
 ·intro i j m n b r s h1 h2 h3 h4 h5 h6
  obtain ⟨id,e1,e2,e3⟩:=hat h1 h3
  obtain ⟨jd,f1,f2,f3⟩:=hat h2 h4
  have:=h.Qbj id jd m n b _ _ e2 f2 e3 f3 (by rw [Qet];exact h5) (by rw [ne_eq,Qhe];exact h6)
  refine ⟨this.1,fun h7=>?_⟩
  have:=this.2 (by rw [Qet];exact h7)
  subst this
  exact (List.getElem?_inj (List.getElem?_eq_some_iff.1 e1).1 p.nodup).1 (e1.trans f1.symm)
 intro j ob r h1 h2
 obtain ⟨id,e1,e2,e3⟩:=hat h1 h2
 exact (h.rel id ob _ e2 e3).Qfw (Wfp h p) (fun _ _ e=>Qx3 h p e)
theorem Qqh (h:Xz X C) (p:Qjy X C Je rs) {av:AV} {v:Value} (k:AVR C.w (C.ok X) C.μ (Qdg (Qc5 Je C.rows.length) av) v):AVR C.w ((Qdh C Je rs).ok X) (Qdh C Je rs).μ av v:=
 k.Qfw (Wfp h p) (fun _ _ e=>Qx3 h p e)
end
theorem Win {X:Ctx} {f:FuncId} {k:List Item} {Q:Frame->Frame->Wp->Prop} {st:St} (Je:List Nat) (rs:List Row) (tm:List (Nat × AV)) (hs:Sel st.rows (Qc5 Je st.rows.length) Je rs) (hn:Je.Nodup)
  (h0:Je.take X.μ0.length=List.range X.μ0.length) (ht:∀ i av,tm.lookup i=some av->st.tm.lookup i=some (Qdg (Qc5 Je st.rows.length) av)) (h:AK X f k Q { nt:=st.nt,tm:=tm,rows:=rs }):AK X f k Q st:=by
 intro a C hC b cs hb hk
 have p:Qjy X C Je rs:=by
  refine ⟨by rw [hC.rows];exact hs,hn,fun j hj=>?_⟩
  have:(Je.take X.μ0.length)[j]? = some j:=by rw [h0];simp [hj]
  rw [List.getElem?_take_of_lt hj] at this
  exact this
 refine h a (Qdh C Je rs) ⟨Qn1 hC.rel p,rfl,hC.defers,hC.nt,fun i av e=>?_⟩ b cs hb hk
 obtain ⟨v,h1,h2⟩:=hC.tm i _ (ht i av e)
 rw [<- hC.rows] at h2
 exact ⟨v,h1,Qqh hC.rel p h2⟩
def Qm9 (tm:List (Nat × AV)):List ResultVar->Option AV
 | [.tmp t]=>tm.lookup t
 | [.tmp t,.tmp u]=>
  match tm.lookup t,tm.lookup u with
  | some a,some b=>some (.Qq [a,b])
  | _,_=>none
 | [.tmp t,.tmp u,.tmp v]=>
  match tm.lookup t,tm.lookup u,tm.lookup v with
  | some a,some b,some c=>some (.Qq [a,b,c])
  | _,_,_=>none
 | []=>some (.Qq [])
 | _=>none
theorem Qvm {X:Ctx} {st:St} {a:Act} {C:Wp} (h:Sim X st a C) {fn:Func} {av:AV} (e:Qm9 st.tm fn.results.toList=some av):
  ∃ v,(results fn a.tmps).run X.P C.w=.ok v C.w/\AVR C.w (C.ok X) C.μ av v:=by
 have hr:fn.results=fn.results.toList.toArray:=by simp
 generalize fn.results.toList=l at e hr
 have get:∀ {t:Nat} {x:AV},st.tm.lookup t=some x->AVR C.w (C.ok X) C.μ x (a.tmps.getD t undef):=by
  intro t x ht
  obtain ⟨v,h1,h2⟩:=h.tm t x ht
  simpa [Array.getD_eq_getD_getElem?,h1] using h2
 unfold Qm9 at e
 split at e
 ·exact ⟨_,by simp [results,hr],get e⟩
 ·split at e
  ·rename_i x y hx hy
   injection e with e
   subst e
   exact ⟨_,by simp [results,hr],.Qq (.cons (get hx) (.cons (get hy) .nil))⟩
  cases e
 ·split at e
  ·rename_i x y z hx hy hz
   injection e with e
   subst e
   exact ⟨_,by simp [results,hr],.Qq (.cons (get hx) (.cons (get hy) (.cons (get hz) .nil)))⟩
  cases e
 ·injection e with e
  subst e
  exact ⟨_,by simp [results,hr],.Qq .nil⟩
 cases e
def Jb (X:Ctx) (Wx:List Row) (ret:AV) (_ fr:Frame) (C:Wp):Prop:=∃ v,C.rows=Wx/\Jc X C ret v/\fr.leaving X.P C.w (.returned v)
theorem Qtg {X:Ctx} {f:FuncId} {fn:Func} {Wx:List Row} {ret av:AV} {st:St} {k:List Item} (hf:X.P.funcs[f]? = some fn) (e:Qm9 st.tm fn.results.toList=some av)
  (Je:List Nat) (hs:Sel st.rows (Qc5 Je st.rows.length) Je Wx) (hn:Je.Nodup) (h0:Je.take X.μ0.length=List.range X.μ0.length) (Qg2:av=Qdg (Qc5 Je st.rows.length) ret)
  (nr:∀ r∈Wx,NR r) (na:NA ret)
  (Xr:∀ (a:Act) (C:Wp),a.defers=X.ds->∀ (b:Frame) (cs:List Frame),b.fn=f->(b.kind=.normal/\b.roundOf=X.rnd)->∃ fr,Steps X.P (lone (b.atR a k) cs C.w) (lone fr cs C.w)/\fr.fn=f/\fr.mode=.returning/\fr.defers=[]/\fr.kind=.normal/\fr.tmps=a.tmps):
  AK X f k (Jb X Wx ret) st:=by
 intro a C hC b cs hb hk
 obtain ⟨v,h1,h2⟩:=Qvm hC e
 have p:Qjy X C Je Wx:=by
  refine ⟨by rw [hC.rows];exact hs,hn,fun j hj=>?_⟩
  have:(Je.take X.μ0.length)[j]? = some j:=by rw [h0];simp [hj]
  rw [List.getElem?_take_of_lt hj] at this
  exact this
 obtain ⟨fr,s1,s2,s3,s4,s5,s6⟩:=Xr a C hC.defers b cs hb hk
 have Jq:=Qn1 hC.rel p
 have Qma:∀ b,(Qdh C Je Wx).ok X true b->(Qdh C Je Wx).okR X true b:=fun _ h=>⟨rfl,h⟩
 refine ⟨Qdh C Je Wx,fr,⟨v,rfl,⟨Jq, ?_, ?_⟩,s3,s4,s5,fn,by rw [s2];exact hf,by rw [s6];exact h1⟩,s1,s2⟩
 ·intro id ob r e1 e2
  exact (Jq.rel id ob r e1 e2).perm Qma (nr r (List.mem_of_getElem? e2))
 rw [Qg2,<- hC.rows] at h2
 exact (Qqh hC.rel p h2).perm Qma na
theorem Qi8 {X:Ctx} {f:FuncId} {fn:Func} {Wx:List Row} {ret av:AV} {st:St} {k:List Item} (hf:X.P.funcs[f]? = some fn) (hX:X.ds=[]/\X.rnd=none) (e:Qm9 st.tm fn.results.toList=some av)
  (Je:List Nat) (hs:Sel st.rows (Qc5 Je st.rows.length) Je Wx) (hn:Je.Nodup) (h0:Je.take X.μ0.length=List.range X.μ0.length) (Qg2:av=Qdg (Qc5 Je st.rows.length) ret)
  (nr:∀ r∈Wx,NR r) (na:NA ret):AK X f (.code .ret :: k) (Jb X Wx ret) st:=
 Qtg hf e Je hs hn h0 Qg2 nr na fun a C hd b cs hb hk=>⟨_,.one (stepR_ret (hk.2.trans hX.2)),hb,rfl,hd.trans hX.1,hk.1,rfl⟩
theorem Wcw {X:Ctx} {f:FuncId} {fn:Func} {Wx:List Row} {ret av:AV} {st:St} (hf:X.P.funcs[f]? = some fn) (hX:X.ds=[]/\X.rnd=none) (e:Qm9 st.tm fn.results.toList=some av)
  (Je:List Nat) (hs:Sel st.rows (Qc5 Je st.rows.length) Je Wx) (hn:Je.Nodup) (h0:Je.take X.μ0.length=List.range X.μ0.length) (Qg2:av=Qdg (Qc5 Je st.rows.length) ret)
  (nr:∀ r∈Wx,NR r) (na:NA ret):AK X f [] (Jb X Wx ret) st:=
 Qtg hf e Je hs hn h0 Qg2 nr na fun a C hd b cs hb hk=>⟨_,.one (stepR_end (hk.2.trans hX.2)),hb,rfl,hd.trans hX.1,hk.1,rfl⟩
def Ctx.plain (X:Ctx):Ctx:={ X with ds:=[],rnd:=none }
theorem Xz.plain {X:Ctx} {C:Wp} (h:Xz X C):Xz X.plain C:=⟨h.len,h.os,h.tape,h.output,h.size,h.keep,h.shape,h.first,h.place,h.apart,h.Qb7,h.Qbj,h.rel⟩
theorem Xz.Wje {X:Ctx} {C:Wp} (h:Xz X.plain C):Xz X C:=⟨h.len,h.os,h.tape,h.output,h.size,h.keep,h.shape,h.first,h.place,h.apart,h.Qb7,h.Qbj,h.rel⟩
def Qly:Nat->List AV->List (Nat × AV)
 | _,[]=>[]
 | i,x :: xs=>(i,x) :: Qly (i+1) xs
theorem Qs3:∀ {xs:List AV} {j i:Nat} {av:AV},(Qly j xs).lookup i=some av->j<=i/\xs[i - j]? = some av
 | [],_,_,_,h=>by simp [Qly] at h
 | x :: xs,j,i,av,h=>by
  simp only [Qly,List.lookup_cons] at h
  split at h
  ·rename_i e
   have e:i=j:=by simpa using e
   subst e
   injection h with h
   subst h
   simp
  rename_i e
  obtain ⟨h1,h2⟩:=Qs3 h
  have:i - j=i - (j+1)+1:=by omega
  exact ⟨by omega,by rw [this];simpa using h2⟩
theorem Qbp.length {w:World} {ok:Bool->Nat->Prop} {μ:List (Option Nat)}:∀ {xs:List AV} {vs:List Value},Qbp w ok μ xs vs->xs.length=vs.length
 | _,_,.nil=>rfl
 | _,_,.cons _ hs=>by simp [Qbp.length hs]
theorem Xt {P:Program} {f:FuncId} {fn:Func} {c:Code} {Yp Wx:List Row} {args:List AV} {ret:AV} {nt:Nat} (hf:P.funcs[f]? = some fn) (hb:fn.body=some c) (hn:fn.ntmps=nt) (hl:args.length<=nt)
  (h:∀ X:Ctx,X.P=P->X.μ0.length=Yp.length->(X.ds=[]/\X.rnd=none)->AK X f [.code c] (Jb X Wx ret) { nt:=nt,tm:=Qly 0 args,rows:=Yp }):Yn P f Yp args Wx ret:=by
 intro X vs hP hX Jq Qeq cs
 have hvl:=Qeq.length
 have hent:Frame.enter P f vs.toArray .normal =
   ({ (default:Frame) with fn:=f,kind:=.normal,roundOf:=none }:Frame).atR { tmps:=vs.toArray ++ Array.replicate (fn.ntmps - vs.toArray.size) undef,defers:=[] } [.code c]:=by
  simp [Frame.enter,Frame.atR,hf,hb]
 have hrel':Xz X.plain ⟨X.μ0,Yp,X.w0⟩:=Jq.plain
 obtain ⟨C',fr,⟨v,hq1,hq2,h4⟩,h2,h3⟩:=h X.plain hP Jq.len ⟨rfl,rfl⟩ { tmps:=vs.toArray ++ Array.replicate (fn.ntmps - vs.toArray.size) undef,defers:=[] } ⟨X.μ0,Yp,X.w0⟩
  ⟨hrel',rfl,rfl,by simp [hn];omega,fun i av e=>by
   obtain ⟨_,e2⟩:=Qs3 e
   obtain ⟨u,h1,h2⟩:=Qeq.at_ e2
   have hi:=(List.getElem?_eq_some_iff.1 h1).1
   refine ⟨u, ?_,h2⟩
   rw [Array.getElem?_append_left (by simpa using hi)]
   simpa using h1⟩ { (default:Frame) with fn:=f,kind:=.normal,roundOf:=none } cs rfl ⟨rfl,rfl⟩
 subst hP
 rw [<- hent] at h2
 obtain ⟨μ',rows',w'⟩:=C'
 simp only at hq1
 subst hq1
 exact ⟨.returned v,w',fr,⟨v,μ',rfl,⟨hq2.rel.Wje,hq2.rows,hq2.ret⟩⟩,h2,h3,h4⟩
def Qjz (st:St):List Item->Option (FuncId × List AV × Option Tmp × List Item)
 | .inRegion ops (i :: rest) :: k=>
  match ops[i]? with
  | some o=>
   match o.op with
   | .call c=>
    match c.callee with
    | .value g=>
     match guardOf st.tm ops o,valOf st.tm g,mapVal (valOf st.tm) c.args.toList with
     | some true,some (.fn fid caps),some xs=>some (fid,xs ++ caps,o.dst,.inRegion ops rest :: k)
     | some true,some (.d (.fn fid caps)),some xs=>some (fid,xs ++ caps.map .d,o.dst,.inRegion ops rest :: k)
     | _,_,_=>none
    | _=>none
   | _=>none
  | none=>none
 | _=>none
theorem Qbp.append {w:World} {ok:Bool->Nat->Prop} {μ:List (Option Nat)}:∀ {xs ys:List AV} {vs us:List Value},Qbp w ok μ xs vs->Qbp w ok μ ys us->Qbp w ok μ (xs ++ ys) (vs ++ us)
 | _,_,_,_,.nil,k=>k
 | _,_,_,_,.cons h hs,k=>.cons h (Qbp.append hs k)
theorem Qap.toL {w:World} {ok:Bool->Nat->Prop} {μ:List (Option Nat)}:∀ {xs:List AV} {vs:List Value},Qap w ok μ xs vs->Qbp w ok μ xs vs
 | _,_,.nil=>.nil
 | _,_,.cons _ h hs=>.cons h (Qap.toL hs)
def Enters (P:Program) (g:FuncId):Prop:=∀ (args:Array Value) (w:World),(callFunc g args).run P w=.ok (.enter g args) w
theorem Xa {P:Program} {g:FuncId} {fn:Func} (hf:P.funcs[g]? = some fn) (hn:(fn.name == "runtime.NumGoroutine")=false) (hb:fn.body.isNone=false):Enters P g:=by
 intro args w
 simp only [callFunc,Sem.run_bind,run_program,Result.andThen_ok,hf,hn,hb]
 rfl
def Wh3 {γ:Type} (P:Program) (f:FuncId) (Yp:List Row) (args:List AV) (G:γ->Prop) (Wx:γ->List Row) (ret:γ->AV):Prop:=
 ∀ (X:Ctx) (vs:List Value),X.P=P->X.Fits->Xz X ⟨X.μ0,Yp,X.w0⟩->Qbp X.w0 ((⟨X.μ0,Yp,X.w0⟩:Wp).ok X) X.μ0 args vs ->
  Calls P f vs.toArray X.w0 fun e w'=>∃ g v μ',G g/\e=.returned v/\Jc X ⟨μ',Wx g,w'⟩ (ret g) v
theorem Wge {γ:Type} {X:Ctx} {f:FuncId} {k k':List Item} {Q:Frame->Frame->Wp->Prop} {st:St} {G:γ->Prop} {st':γ->St} (h:∀ g,G g->AK X f k' Q (st' g))
  (hs:∀ a C,Sim X st a C->∀ (b:Frame) (cs:List Frame),b.fn=f->∃ g a' C',G g/\Sim X (st' g) a' C'/\Steps X.P (lone (b.atR a k) cs C.w) (lone (b.atR a' k') cs C'.w)):AK X f k Q st:=by
 intro a C hC b cs hb hk
 obtain ⟨g,a',C',hg,h1,h2⟩:=hs a C hC b cs hb
 obtain ⟨C2,fr,q,h3,h4⟩:=h g hg a' C' h1 b cs hb hk
 exact ⟨C2,fr,q,h2.trans h3,h4⟩
theorem Wcs {γ:Type} {X:Ctx} {P:Program} {f g:FuncId} {k k':List Item} {Q:Frame->Frame->Wp->Prop} {st:St} {G:γ->Prop} {st':γ->St} {Xw args:List AV} {dst:Option Tmp} (ids:List Nat) {Yp:List Row} {Wx:γ->List Row} {ret:γ->AV}
  (hP:X.P=P) (he:Enters P g) (hs:Wh3 P g Yp args G Wx ret)
  (e:Qjz st k=some (g,Xw,dst,k')) (hh:Qbz st.rows ids Yp) 
  (hp:∀ (C:Wp) (vs:List Value),Xz X C->C.rows=st.rows->Qbp C.w (C.ok X) C.μ Xw vs->Qbp C.w ((Qdm X C ids Yp).ok (Qas X C ids)) (Qas X C ids).μ0 args vs)
  (Qb9:∀ x,St.put { st with rows:=Qch st.rows ids (Wx x) } dst (Qdg (Qaz ids st.rows.length) (ret x))=some (st' x)) (h:∀ x,G x->AK X f k' Q (st' x)):AK X f k Q st:=by
 subst hP
 unfold Qjz at e
 split at e
 ·rename_i ops i rest k0
  split at e
  ·rename_i o ho
   split at e
   ·rename_i c hc
    split at e
    ·rename_i gv hg
     refine Wge h fun a C hC b cs _=>?_
     have Qh4:∃ vs,(execOp a.eval o).run X.P C.w=.ok (.enter g vs.toArray) C.w/\Qbp C.w (C.ok X) C.μ Xw vs/\guardOf st.tm ops o=some true/\o.dst=dst/\k'=.inRegion ops rest :: k0:=by
      have key:∀ (fid:FuncId) (caps:Array Value),a.eval gv=.func (.func fid) #[] caps->fid=g->(execOp a.eval o).run X.P C.w=.ok (.enter g (c.args.map a.eval ++ caps)) C.w:=by
       rintro fid caps hv rfl
       simp only [execOp,hc,resolve,hg,hv,Deferred.ofValue,Sem.run_bind,Sem.run_pure,Result.andThen_ok,invoke]
       rw [he]
       simp
      split at e
      ·rename_i fid caps xs h1 h2 h3
       injection e with e;injection e with e1 e;injection e with e2 e;injection e with e3 e4
       subst e1;subst e2
       have hv:=hC.val _ _ h2
       obtain ⟨cs,hcs,hr⟩:∃ cs,a.eval gv=.func (.func fid) #[] cs.toArray/\Qap C.w (C.ok X) C.μ caps cs:=by
        generalize a.eval gv=u at hv
        cases hv with
        | fn hv=>exact ⟨_,rfl,hv⟩
       refine ⟨c.args.toList.map a.eval ++ cs, ?_,(Qj7 hC.val h3).append hr.toL,h1,e3,e4.symm⟩
       rw [key fid cs.toArray hcs rfl]
       congr 2
       exact Array.ext' (by simp)
      ·rename_i fid caps xs h1 h2 h3
       injection e with e;injection e with e1 e;injection e with e2 e;injection e with e3 e4
       subst e1;subst e2
       have hv:=hC.val _ _ h2
       obtain ⟨cs,hcs,hr⟩:∃ cs,a.eval gv=.func (.func fid) #[] cs.toArray/\VRs C.w (C.ok X) caps cs:=by
        generalize a.eval gv=u at hv
        cases hv with
        | d hv=>
         cases hv with
         | fn hv=>exact ⟨_,rfl,hv⟩
       refine ⟨c.args.toList.map a.eval ++ cs, ?_,(Qj7 hC.val h3).append (hr.toA).toL,h1,e3,e4.symm⟩
       rw [key fid cs.toArray hcs rfl]
       congr 2
       exact Array.ext' (by simp)
      cases e
     obtain ⟨vs,hx,Qeq,hgd,Qw9,rfl⟩:=Qh4
     subst Qw9
     rw [<- hC.rows] at hh Qb9
     have Qlr:=hs (Qas X C ids) vs rfl (Ql5 hC.rel hh) (Qns hC.rel hh) (hp C vs hC.rel hC.rows Qeq)
     obtain ⟨e,w',fr,⟨x,v,μ',hx0,rfl,hd⟩,Qlb,_,Qp4⟩:=Qlr (b.atR a (.inRegion ops (i :: rest) :: k0) :: cs)
     have hgg:=stepGR_op (P:=X.P) (b:=b) (k:=k0) (cs:=cs) (w:=C.w) (rest:=rest) ho (Qe3 hC hgd)
     rw [Oper.semAt_eq _ _ _ (by intro c' hc';rw [hc] at hc';cases hc')] at hgg
     have Ql9:step X.P (lone (b.atR a (.inRegion ops (i :: rest) :: k0)) cs C.w)=.next (lone (Frame.enter X.P g vs.toArray .normal) (b.atR a (.inRegion ops (i :: rest) :: k0) :: cs) C.w):=
      step_lone_go (by rw [hgg];simp [stepG.apply,hx,Frame.atR])
     have Qe4:(b.atR a (.inRegion ops (i :: rest) :: k0)).finish v=b.atR (a.put o.dst v) (.inRegion ops rest :: k0):=by
      rw [Frame.finish_atR,ho];rfl
     have Qj5:Sim X { st with rows:=(Qa8 C ids μ' (Wx x) w').rows } a (Qa8 C ids μ' (Wx x) w'):=hC.Qf6 (Qnq hC.rel hh hd.rel) (Ql4 hC.rel hh hd)
     refine ⟨x,_,Qa8 C ids μ' (Wx x) w',hx0,Qj5.put (Qb9 x) (Qsc hC.rel hh hd),.head Ql9 (Qlb.trans (.one ?_))⟩
     rw [<- Qe4]
     exact step_leave_returned Qp4
    cases e
   cases e
  cases e
 cases e
theorem Yn.toE {P:Program} {f:FuncId} {Yp Wx:List Row} {args:List AV} {ret:AV} (h:Yn P f Yp args Wx ret):Wh3 P f Yp args (fun _:Unit=>True) (fun _=>Wx) (fun _=>ret):=
 fun X vs hP hX hR hA=>(h X vs hP hX hR hA).mono fun _ _ ⟨v,μ',h1,h2⟩=>⟨(),v,μ',trivial,h1,h2⟩
theorem Wct {X:Ctx} {P:Program} {f g:FuncId} {k k':List Item} {Q:Frame->Frame->Wp->Prop} {st st':St} {Xw args:List AV} {dst:Option Tmp} (ids:List Nat) {Yp Wx:List Row} {ret:AV}
  (hP:X.P=P) (he:Enters P g) (hs:Yn P g Yp args Wx ret) (e:Qjz st k=some (g,Xw,dst,k')) (hh:Qbz st.rows ids Yp)
  (hp:∀ (C:Wp) (vs:List Value),Xz X C->C.rows=st.rows->Qbp C.w (C.ok X) C.μ Xw vs->Qbp C.w ((Qdm X C ids Yp).ok (Qas X C ids)) (Qas X C ids).μ0 args vs)
  (hpu:St.put { st with rows:=Qch st.rows ids Wx } dst (Qdg (Qaz ids st.rows.length) ret)=some st') (h:AK X f k' Q st'):AK X f k Q st:=
 Wcs ids hP he hs.toE e hh hp (fun _=>hpu) fun _ _=>h
theorem Wkm {X:Ctx} {st:St} {ids:List Nat} {Yp:List Row} {Xw args:List AV} (hh:Qbz st.rows ids Yp) (hp:Qgj st.rows ids (Qaz ids st.rows.length) Xw args) (C:Wp) (vs:List Value) (hR:Xz X C) (hr:C.rows=st.rows) (hv:Qbp C.w (C.ok X) C.μ Xw vs):
  Qbp C.w ((Qdm X C ids Yp).ok (Qas X C ids)) (Qas X C ids).μ0 args vs:=by
 rw [<- hr] at hh hp
 exact Qju hR hh hp hv
theorem Qqu {X:Ctx} {f g:FuncId} {k k':List Item} {Q:Frame->Frame->Wp->Prop} {st st':St} {Xw args:List AV} {dst:Option Tmp} (ids:List Nat) {Yp Wx:List Row} {ret:AV}
  (e:Qjz st k=some (g,Xw,dst,k')) (he:Enters X.P g) (hh:Qbz st.rows ids Yp) (hp:Qgj st.rows ids (Qaz ids st.rows.length) Xw args) (hs:Yn X.P g Yp args Wx ret)
  (Qb9:St.put { st with rows:=Qch st.rows ids Wx } dst (Qdg (Qaz ids st.rows.length) ret)=some st') (h:AK X f k' Q st'):AK X f k Q st:=
 Wct ids rfl he hs e hh (Wkm hh hp) Qb9 h
end Go.Sy
namespace Go.Sy
section
variable {X:Ctx} {C:Wp}
def Wp.renew (C:Wp) (id:Nat) (ob:Option Nat) (r:Row):Wp:=⟨C.μ ++ [ob],C.rows.set id .gone ++ [r],C.w⟩
theorem Wbq (h:Xz X C) {id:Nat} {ob:Option Nat} {r:Row} (hμ:C.μ[id]? = some ob) (hr:C.rows[id]? = some r) {b:Nat}:(C.renew id ob r).live b->C.live b:=by
 have hlt:=(List.getElem?_eq_some_iff.1 hr).1
 rintro ⟨i,m,s,h1,h2,h3,h4⟩
 simp only [Wp.renew] at h1 h2
 rcases Qac.1 h1 with h1 | ⟨e1,h1⟩<;>rcases Qac.1 h2 with h2 | ⟨e2,h2⟩
 ·rcases (Qbh hlt).1 h2 with ⟨_,rfl⟩ | ⟨_,h2⟩
  ·cases h3
  exact ⟨i,m,s,h1,h2,h3,h4⟩
 ·have:=(List.getElem?_eq_some_iff.1 h1).1
  have:=h.len
  simp at e2
  omega
 ·have k1:=(List.getElem?_eq_some_iff.1 h2).1
  have k2:=h.len
  simp at k1
  omega
 subst h1
 subst h2
 exact ⟨id,_,r,hμ,hr,h3,h4⟩
theorem Qoe (h:Xz X C) {id:Nat} {ob:Option Nat} {r:Row} (hμ:C.μ[id]? = some ob) (hr:C.rows[id]? = some r):Ev X C (C.renew id ob r):=
 ⟨Nat.le_refl _,fun _ _ _=>rfl,fun b _ hl k=>hl (Wbq h hμ hr k),fun _ _ _ k=>⟨_,k,rfl⟩,fun _ _ hx=>Qcu hx⟩
theorem Qm7 (h:Xz X C) {id:Nat} {ob:Option Nat} {r:Row} (hμ:C.μ[id]? = some ob) (hr:C.rows[id]? = some r) (Qjh:r.live=true):Xz X (C.renew id ob r):=by
 have ev:=Qoe h hμ hr
 have hlt:=(List.getElem?_eq_some_iff.1 hr).1
 have hlen:=h.len
 have hat:∀ {i:Nat} {b:Option Nat} {s:Row},(C.renew id ob r).μ[i]? = some b->(C.renew id ob r).rows[i]? = some s->s≠.gone->∃ i',C.μ[i']? = some b/\C.rows[i']? = some s/\((i=C.rows.length/\i'=id)\/(i'=i/\i≠id)):=by
  intro i b s h1 h2 hg
  simp only [Wp.renew] at h1 h2
  rcases Qac.1 h1 with h1 | ⟨e1,h1⟩<;>rcases Qac.1 h2 with h2 | ⟨e2,h2⟩
  ·rcases (Qbh hlt).1 h2 with ⟨_,rfl⟩ | ⟨n1,h2⟩
   ·exact absurd rfl hg
   exact ⟨i,h1,h2,.inr ⟨rfl,Ne.symm n1⟩⟩
  ·have:=(List.getElem?_eq_some_iff.1 h1).1
   simp at e2
   omega
  ·have:=(List.getElem?_eq_some_iff.1 h2).1
   simp at this
   omega
  subst h1
  subst h2
  simp at e2
  exact ⟨id,hμ,hr,.inl ⟨e2,rfl⟩⟩
 refine ⟨by simp [Wp.renew,hlen],h.os,h.tape,h.output,h.size,h.keep,h.shape,fun i x hx=>Qcu (h.first i x hx), ?_, ?_, ?_, ?_, ?_⟩
 ·intro i b hb
  simp only [Wp.renew] at hb
  rcases Qac.1 hb with hb | ⟨_,hb⟩
  ·exact h.place i b hb
  subst hb
  exact h.place id b hμ
 ·intro i j b p q h1 h2 h3 h4 h5 h6
  obtain ⟨i',a1,a2,a3⟩:=hat h1 h3 (by rintro rfl;cases h5)
  obtain ⟨j',b1,b2,b3⟩:=hat h2 h4 h6
  have:=h.apart i' j' b p q a1 b1 a2 b2 h5 h6
  omega
 ·intro i m b p h1 h2 h3
  obtain ⟨i',a1,a2,a3⟩:=hat h1 h2 (by rintro rfl;cases h3)
  exact h.Qb7 i' m b p a1 a2 h3
 ·intro i j m n b p q h1 h2 h3 h4 h5 h6
  obtain ⟨i',a1,a2,a3⟩:=hat h1 h3 (by rintro rfl;cases h5)
  obtain ⟨j',b1,b2,b3⟩:=hat h2 h4 h6
  have:=h.Qbj i' j' m n b p q a1 b1 a2 b2 h5 h6
  exact ⟨this.1,fun h7=>by have:=this.2 h7;omega⟩
 intro i o s h1 h2
 simp only [Wp.renew] at h1 h2
 rcases Qac.1 h1 with h1 | ⟨e1,h1⟩<;>rcases Qac.1 h2 with h2 | ⟨e2,h2⟩
 ·rcases (Qbh hlt).1 h2 with ⟨_,rfl⟩ | ⟨n1,h2⟩
  ·cases o<;>trivial
  exact (h.rel i o s h1 h2).mono ev.ok ev.same ev.pre ev.shape (fun _ _=>rfl) (fun _ _=>rfl)
 ·have:=(List.getElem?_eq_some_iff.1 h1).1
  simp at e2
  omega
 ·have:=(List.getElem?_eq_some_iff.1 h2).1
  simp at this
  omega
 subst h1
 subst h2
 exact (h.rel id ob r hμ hr).mono ev.ok ev.same ev.pre ev.shape (fun _ _=>rfl) (fun _ _=>rfl)
theorem Qj4 (h:Xz X C) {id b:Nat} {r:Row} (hμ:C.μ[id]? = some (some b)) (hr:C.rows[id]? = some r) (hl:r.live=true) (hx:∀ w m,r.ext w m=[]:=by intros;rfl):Qip X C id b r .gone C.w:=
 ⟨hμ,hr,hl,rfl,rfl,⟨rfl,Nat.le_refl _⟩,rfl,fun _ _=>rfl,fun _ _ k=>⟨_,k,rfl⟩,hx,fun _ _=>rfl⟩
theorem Wfy (h:Xz X C) {id:Nat} (hμ:C.μ[id]? = some none):Xz X ⟨C.μ,C.rows.set id .gone,C.w⟩/\Ev X C ⟨C.μ,C.rows.set id .gone,C.w⟩:=by
 have Qjh:∀ {b:Nat},(⟨C.μ,C.rows.set id .gone,C.w⟩:Wp).live b->C.live b:=by
  rintro b ⟨i,m,s,h1,h2,h3,h4⟩
  simp only [List.getElem?_set] at h2
  split at h2
  ·split at h2
   ·injection h2 with h2;subst h2;cases h3
   cases h2
  exact ⟨i,m,s,h1,h2,h3,h4⟩
 have ev:Ev X C ⟨C.μ,C.rows.set id .gone,C.w⟩:=⟨Nat.le_refl _,fun _ _ _=>rfl,fun _ _ hl k=>hl (Qjh k),fun _ _ _ k=>⟨_,k,rfl⟩,fun _ _ hx=>hx⟩
 have Qhn:∀ {i:Nat} {s:Row},(C.rows.set id .gone)[i]? = some s->s≠.gone->C.rows[i]? = some s:=by
  intro i s h2 hg
  simp only [List.getElem?_set] at h2
  split at h2
  ·split at h2
   ·injection h2 with h2;exact absurd h2.symm hg
   cases h2
  exact h2
 refine ⟨⟨by simp [h.len],h.os,h.tape,h.output,h.size,h.keep,h.shape,h.first,h.place, ?_, ?_, ?_, ?_⟩,ev⟩
 ·intro i j b p q h1 h2 h3 h4 h5 h6
  exact h.apart i j b p q h1 h2 (Qhn h3 (by rintro rfl;cases h5)) (Qhn h4 h6) h5 h6
 ·intro i m b p h1 h2 h3
  exact h.Qb7 i m b p h1 (Qhn h2 (by rintro rfl;cases h3)) h3
 ·intro i j m n b p q h1 h2 h3 h4 h5 h6
  exact h.Qbj i j m n b p q h1 h2 (Qhn h3 (by rintro rfl;cases h5)) (Qhn h4 h6) h5 h6
 intro i o s h1 h2
 by_cases hg:s=.gone
 ·subst hg;cases o<;>trivial
 exact (h.rel i o s h1 (Qhn h2 hg)).mono ev.ok ev.same ev.pre ev.shape (fun _ _=>rfl) (fun _ _=>rfl)
structure Source (C:Wp) (X:Ctx) (k m:Nat) (gs:Nat->List DV) (u:Value) (news:List Value):Prop where
 shape:∃ A c,u=.slice A m c/\(0 < m->∃ ad,A=some ad/\∀ (j:Nat) v,news[j]? = some v->C.w.cell? (ad.add j)=some v)
 len:news.length=m * k
 rel:∀ i,i < m->VRs C.w (C.ok X) (gs i) ((news.drop (i * k)).take k)
 one:∀ v∈news,v.oneCell'=true
theorem Qvo {vs:Nat->List Value} {k n:Nat} (hk:∀ i,i < n->(vs i).length=k):∃ xs:List Value,xs.length=n * k/\(∀ i j v,i < n->(vs i)[j]? = some v->xs[i * k+j]? = some v)/\(∀ i,i < n->(xs.drop (i * k)).take k=vs i)/\(∀ v∈xs,∃ i,i < n/\v∈vs i):=by
 let ls:=(List.range n).map vs
 have hl:∀ l∈ls,l.length=k:=by
  intro l h
  obtain ⟨i,hi,rfl⟩:=List.mem_map.1 h
  exact hk i (by simpa using hi)
 have hat:∀ i,i < n->ls[i]? = some (vs i):=by
  intro i hi
  simp [ls,hi]
 refine ⟨ls.flatten,by rw [Qog hl];simp [ls],fun i j v hi hj=>Ql8 hl (hat i hi) hj,fun i hi=>?_,fun v hv=>?_⟩
 ·apply List.ext_getElem?
  intro j
  rw [List.getElem?_take]
  split
  ·rename_i hj
   rw [List.getElem?_drop]
   have hj':j < (vs i).length:=by rw [hk i hi];exact hj
   rw [Ql8 hl (hat i hi) (List.getElem?_eq_getElem hj'),List.getElem?_eq_getElem hj']
  rename_i hj
  rw [List.getElem?_eq_none (by rw [hk i hi];omega)]
 obtain ⟨l,h1,h2⟩:=List.mem_flatten.1 hv
 obtain ⟨i,hi,rfl⟩:=List.mem_map.1 h1
 exact ⟨i,by simpa using hi,h2⟩
variable {T:Tab}
set_option maxHeartbeats 1000000 in
theorem Qrt (hT:Xl X.P T) (h:Xz X C) {id k m n by':Nat} {t e ty:TypeId} {z:List Value} {g gs g':Nat->List DV} {v u:Value} {news:List Value}
  (hr:C.rows[id]? = some (.flat false k e n g)) (hv:AVR C.w (C.ok X) C.μ (.own id k 0 n) v) (ht:T.Qc0.lookup t=some e) (hi:T.info.lookup e=some (k,by',z)) (hz:z.length=k) (hk:0 < k)
  (src:Source C X k m gs u news) (hb:(n+m) * by'<=140737488355328) (Qt9:n+m<=9223372036854775807) (h1:∀ i,i < n->g' i=g i) (h2:∀ i,i < m->g' (n+i)=gs i):
  ∃ v' C',(Builtin.append_ #[t,t] ty #[v,u]).run X.P C.w=.ok v' C'.w/\C'.rows=C.rows.set id .gone ++ [.flat false k e (n+m) g']/\Xz X C'/\Ev X C C'/\AVR C'.w (C'.ok X) C'.μ (.own C.rows.length k 0 (n+m)) v':=by
 obtain ⟨i0,hi0,hs0,hb0,hz0⟩:=hT.infoAt hi
 obtain ⟨zv,hzv,hzc⟩:=Option.map_eq_some_iff.1 hz0
 have hu:=hT.slice ht
 obtain ⟨A,c,rfl,Quc⟩:=src.shape
 have hzs:zv.cells.size=k:=by rw [hzc];simpa using hz
 have hlt:=(List.getElem?_eq_some_iff.1 hr).1
 -- what the new row's cells are
 have Qt4:∀ (old:List Value) (cur:Array Value),old.length=n * k->(∀ i,i < n->VRs C.w (C.ok X) (g i) ((old.drop (i * k)).take k))->cur.toList.take ((n+m) * k)=old ++ news ->
   (n+m) * k<=cur.size->∀ (C':Wp),Ev X C C'->∀ b,C'.w.heap[b]? = some (.cells cur e (0,0))->Qce C'.w (C'.ok X) C'.μ (some b) (.flat false k e (n+m) g'):=by
  intro old cur ho Jq htk hsz C' ev b hh
  have hlen:(old ++ news).length=(n+m) * k:=by rw [List.length_append,ho,src.len,Nat.add_mul]
  refine ⟨cur,fun i=>((old ++ news).drop (i * k)).take k,hh,hsz, ?_, ?_, ?_⟩
  ·intro i hi
   rw [List.length_take,List.length_drop,hlen]
   have:i * k+k<=(n+m) * k:=by rw [<- Nat.succ_mul];exact Nat.mul_le_mul_right k hi
   omega
  ·intro i hi
   show VRs _ _ (g' i) (((old ++ news).drop (i * k)).take k)
   by_cases hin:i < n
   ·rw [h1 i hin]
    have e1:i * k+k<=n * k:=by rw [<- Nat.succ_mul];exact Nat.mul_le_mul_right k hin
    have:((old ++ news).drop (i * k)).take k=(old.drop (i * k)).take k:=by
     rw [List.drop_append_of_le_length (by rw [ho];omega),List.take_append_of_le_length (by rw [List.length_drop,ho];omega)]
    rw [this]
    exact (Jq i hin).mono ev.ok ev.same
   obtain ⟨q,rfl⟩:∃ q,i=n+q:=⟨i - n,by omega⟩
   rw [h2 q (by omega)]
   have:((old ++ news).drop ((n+q) * k)).take k=(news.drop (q * k)).take k:=by
    rw [Nat.add_mul,List.drop_append,List.drop_of_length_le (by rw [ho];omega),List.nil_append,ho,Nat.add_sub_cancel_left]
   rw [this]
   exact (src.rel q (by omega)).mono ev.ok ev.same
  intro i j w hi hj
  have:=Qlq hj
  rw [<- htk] at this
  rw [List.getElem?_take] at this
  split at this
  ·simpa using this
  cases this
 have Wg3:∀ (C':Wp) (b c':Nat) (cur:Array Value),C'.μ[C.rows.length]? = some (some b)->C'.w.heap[b]? = some (.cells cur e (0,0))->c' * k=cur.size->n+m<=c'->c'<=maxLen ->
   AVR C'.w (C'.ok X) C'.μ (.own C.rows.length k 0 (n+m)) (.slice (some ⟨b,0,none⟩) (n+m) c'):=by
  intro C' b c' cur e1 e2 e3 e4 e5
  have:=AVR.own (w:=C'.w) (ok:=C'.ok X) (μ:=C'.μ) (off:=0) (k:=k) (n:=n+m) e1 e2 (by rw [Nat.zero_add];exact e3) e4 e5
  rwa [Nat.zero_mul] at this
 -- a new array
 have fresh:∀ (C1:Wp),Xz X C1->Ev X C C1->C1.rows=C.rows.set id .gone->∀ (old:List Value) (q:Nat),q < n+m->old.length=n * k->(∀ i,i < n->VRs C.w (C.ok X) (g i) ((old.drop (i * k)).take k)) ->
   C1.w=C.w->(Builtin.append_ #[t,t] ty #[v,.slice A m c]).run X.P C.w=.ok (.slice (some ⟨C.w.heap.size,0,none⟩) (n+m) (grownCap C.w (n+m) q e))
    (C.w.drew.alloc (.cells (old.toArray ++ news.toArray ++ Builtin.zeroCells zv.cells (grownCap C.w (n+m) q e - (n+m))) e)) ->
   ∃ v' C',(Builtin.append_ #[t,t] ty #[v,.slice A m c]).run X.P C.w=.ok v' C'.w/\C'.rows=C.rows.set id .gone ++ [.flat false k e (n+m) g']/\Xz X C'/\Ev X C C'/\AVR C'.w (C'.ok X) C'.μ (.own C.rows.length k 0 (n+m)) v':=by
  intro C1 hC1 ev1 Qh7 old q hq ho Jq hw Qh4
  have hge:=grownCap_ge C.w (n+m) q e
  have hcm:grownCap C.w (n+m) q e<=maxLen:=grownCap_le_maxLen C.w (n+m) q e (by simp only [maxLen];omega)
  let cur:Array Value:=old.toArray ++ news.toArray ++ Builtin.zeroCells zv.cells (grownCap C.w (n+m) q e - (n+m))
  have hcs:cur.size=grownCap C.w (n+m) q e * k:=by
   simp only [cur,Array.size_append,List.size_toArray,size_zeroCells,hzs,ho,src.len,<- Nat.add_mul]
   congr 1
   omega
  have htk:cur.toList.take ((n+m) * k)=old ++ news:=by
   have hlen:(old ++ news).length=(n+m) * k:=by rw [List.length_append,ho,src.len,Nat.add_mul]
   simp only [cur,Array.toList_append,List.append_assoc]
   rw [<- List.append_assoc,<- hlen]
   exact List.take_left
  have hd:=hC1.drew
  have ev2:=Ev.push hd (.cells cur e) (.flat false k e (n+m) g')
  have ev:=(ev1.trans Ev.drew).trans ev2
  have Qmz:C1.drew.w.heap.size=C.w.heap.size:=by rw [Wp.drew,hw];rfl
  refine ⟨.slice (some ⟨C.w.heap.size,0,none⟩) (n+m) (grownCap C.w (n+m) q e),C1.drew.push (.cells cur e) (.flat false k e (n+m) g'), ?_,by simp [Wp.push,Wp.drew,Qh7],Xz.push hd ?_,ev, ?_⟩
  ·rw [Qh4,Wp.push,Wp.drew,hw]
  ·exact Qt4 old cur ho Jq htk (by rw [hcs];exact Nat.mul_le_mul_right k hge) _ ev _ (heap_alloc_new _ _)
  refine Wg3 _ C.w.heap.size _ cur ?_ ?_ hcs.symm hge hcm
  ·have:C1.μ.length=C.rows.length:=by rw [hC1.len,Qh7];simp
   simp [Wp.push,<- this,Qmz,Wp.drew]
   rw [hw]
  rw [<- Qmz]
  exact heap_alloc_new _ _
 cases hv with
 | Qbv hμ=>
  obtain ⟨hg1,hg2⟩:=Wfy h hμ
  by_cases hm:m=0
  ·subst hm
   have hn:news=[]:=List.eq_nil_of_length_eq_zero (by simpa using src.len)
   subst hn
   have Qh4:(Builtin.append_ #[t,t] ty #[.slice none 0 0,.slice A 0 c]).run X.P C.w=.ok (.slice none 0 0) C.w:=by
    cases A<;>simp [Builtin.append_,run_underlying hu,sizeOf,typeInfo,hi0,Builtin.lenOf,Builtin.firstCells,loadCells,loadCellsFrom]
   have hvr:Xz X ((⟨C.μ,C.rows.set id .gone,C.w⟩:Wp).Qc8 (.flat false k e 0 g')):=Xz.Qc8 hg1 rfl
   refine ⟨_,(⟨C.μ,C.rows.set id .gone,C.w⟩:Wp).Qc8 (.flat false k e 0 g'),Qh4,rfl,hvr,hg2.trans (Ev.Qc8 hg1 _), ?_⟩
   refine .Qbv ?_
   simp [Wp.Qc8,<- h.len]
  obtain ⟨ad,rfl,Qgo⟩:=Quc (by omega)
  have hr2:=run_append_nil (P:=X.P) C.w t ty e i0 zv hu hi0 hzv ad m c news (by rw [hs0];exact src.len) Qgo (by omega) (by omega) (by rw [hb0];simp only [Nat.zero_add] at hb;omega)
  refine fresh _ hg1 hg2 rfl [] 0 (by omega) (by simp) (fun i hi=>by omega) rfl ?_
  simpa using hr2
 | own hμ hh hs hn hc=>
  rename_i b cap cur ty'
  simp only [Nat.zero_mul,Nat.zero_add] at hs fresh ⊢
  obtain ⟨cur',vs,e1,e2,e3,e4,e5⟩:=h.rel id _ _ hμ hr
  rw [hh] at e1
  injection e1 with e1
  injection e1 with e1 e1'
  subst e1
  have e1':=e1'.symm
  subst e1'
  obtain ⟨old,o1,o2,o3,o4⟩:=Qvo e3
  have hold:old=cur.toList.take (n * k):=by
   apply List.ext_getElem?
   intro j
   by_cases hj:j < n * k
   ·have hi':j / k < n:=Nat.div_lt_of_lt_mul (by rwa [Nat.mul_comm] at hj)
    have hjj:j % k < (vs (j / k)).length:=by rw [e3 _ hi'];exact Nat.mod_lt _ hk
    have key:j / k * k+j % k=j:=by rw [Nat.mul_comm];exact Nat.div_add_mod j k
    have a1:=o2 (j / k) (j % k) _ hi' (List.getElem?_eq_getElem hjj)
    have a2:=e5 (j / k) (j % k) _ hi' (List.getElem?_eq_getElem hjj)
    rw [key] at a1 a2
    rw [a1,List.getElem?_take_of_lt hj]
    simpa using a2.symm
   rw [List.getElem?_eq_none (by omega),List.getElem?_eq_none (by simp;omega)]
  have Jq:∀ i,i < n->VRs C.w (C.ok X) (g i) ((old.drop (i * k)).take k):=fun i hi=>by rw [o3 i hi];exact e4 i hi
  by_cases hm:m=0
  ·subst hm
   have hn0:news=[]:=List.eq_nil_of_length_eq_zero (by simpa using src.len)
   subst hn0
   have Qh4:(Builtin.append_ #[t,t] ty #[.slice (some ⟨b,0,none⟩) n cap,.slice A 0 c]).run X.P C.w=.ok (.slice (some ⟨b,0,none⟩) n cap) C.w:=by
    cases A<;>simp [Builtin.append_,run_underlying hu,sizeOf,typeInfo,hi0,Builtin.lenOf,Builtin.firstCells,loadCells,loadCellsFrom,hn,storeCells]
   have tu:Qip X C id b (.flat false k e n g) (.flat false k e (n+0) g') C.w:=⟨hμ,hr,rfl,rfl,rfl,⟨rfl,Nat.le_refl _⟩,rfl,fun _ _=>rfl,fun _ _ k=>⟨_,k,rfl⟩,fun _ _=>rfl,fun _ _=>rfl⟩
   have ev1:=Ev.Qaa h tu
   have hC1:=Xz.Qaa h tu (.inl (by simp)) (Qt4 old cur o1 Jq (by simpa using hold.symm) (by simpa using e2) _ ev1 b hh)
   have hr1:(C.Qaa id (.flat false k e (n+0) g') C.w).rows[id]? = some (.flat false k e (n+0) g'):=by simp [Wp.Qaa,hlt]
   have hμ1:(C.Qaa id (.flat false k e (n+0) g') C.w).μ[id]? = some (some b):=hμ
   refine ⟨.slice (some ⟨b,0,none⟩) n cap,(C.Qaa id (.flat false k e (n+0) g') C.w).renew id (some b) (.flat false k e (n+0) g'),Qh4, ?_,Qm7 hC1 hμ1 hr1 rfl,ev1.trans (Qoe hC1 hμ1 hr1), ?_⟩
   ·simp [Wp.renew,Wp.Qaa]
   refine Wg3 _ b cap cur ?_ hh hs hn hc
   simp [Wp.renew,Wp.Qaa,<- h.len]
  obtain ⟨ad,rfl,Qgo⟩:=Quc (by omega)
  by_cases Qk1:n+m<=cap
  ·have Wba:n * i0.size+news.length<=cur.size:=by
    rw [src.len,<- hs,hs0,<- Nat.add_mul]
    exact Nat.mul_le_mul_right _ Qk1
   have Qh4:=run_append_room (P:=X.P) C.w t ty e i0 hu hi0 b n cap cur hh ad m c news (by rw [hs0];exact src.len) Qgo src.one Qk1 Wba
   rw [hs0] at Qh4 Wba
   let Qlj:Array Value:=(cur.toList.take (n * k) ++ news ++ cur.toList.drop (n * k+news.length)).toArray
   have Qud:Qlj.size=cur.size:=by
    simp only [Qlj,List.size_toArray,List.length_append,List.length_take,List.length_drop,Array.length_toList]
    omega
   have tu:Qip X C id b (.flat false k e n g) (.flat false k e (n+m) g') (C.w.setRow b Qlj):=Qim h hμ hr rfl hh Qud
   have ev1:=Ev.Qaa h tu
   have hh2:(C.w.setRow b Qlj).heap[b]? = some (.cells Qlj e (0,0)):=setRow_heap _ _ _ _ _ _ hh
   have htk:Qlj.toList.take ((n+m) * k)=old ++ news:=by
    have hlen:(old ++ news).length=(n+m) * k:=by rw [List.length_append,o1,src.len,Nat.add_mul]
    simp only [Qlj]
    rw [<- hold,<- hlen]
    exact List.take_left
   have hC1:=Xz.Qaa h tu (.inl (by simp)) (Qt4 old Qlj o1 Jq htk (by rw [Qud,<- hs];exact Nat.mul_le_mul_right k Qk1) _ ev1 b hh2)
   have hr1:(C.Qaa id (.flat false k e (n+m) g') (C.w.setRow b Qlj)).rows[id]? = some (.flat false k e (n+m) g'):=by simp [Wp.Qaa,hlt]
   have hμ1:(C.Qaa id (.flat false k e (n+m) g') (C.w.setRow b Qlj)).μ[id]? = some (some b):=hμ
   refine ⟨.slice (some ⟨b,0,none⟩) (n+m) cap,(C.Qaa id (.flat false k e (n+m) g') (C.w.setRow b Qlj)).renew id (some b) (.flat false k e (n+m) g'),Qh4, ?_,Qm7 hC1 hμ1 hr1 rfl,ev1.trans (Qoe hC1 hμ1 hr1), ?_⟩
   ·simp [Wp.renew,Wp.Qaa]
   refine Wg3 _ b cap Qlj ?_ hh2 (by rw [Qud];exact hs) Qk1 hc
   simp [Wp.renew,Wp.Qaa,<- h.len]
  have hholds:∀ (j:Nat) v,old[j]? = some v->C.w.cell? ((⟨b,0,none⟩:Addr).add j)=some v:=by
   intro j v hj
   rw [Qh9,Nat.zero_add,cell_of_row _ _ _ _ _ _ hh]
   rw [hold] at hj
   have:=hj
   rw [List.getElem?_take] at this
   split at this
   ·simpa using this
   cases this
  have Qh4:=run_append_grow (P:=X.P) C.w t ty e i0 zv hu hi0 hzv ⟨b,0,none⟩ n cap old (by rw [hs0];exact o1) hholds ad m c news (by rw [hs0];exact src.len) Qgo (by omega) (by omega) (growslice_fits (by omega) (by rw [hb0];exact hb))
  have tu:=Qj4 h hμ hr rfl
  have ev1:=Ev.Qaa h tu
  have hC1:=Xz.Qaa h tu (.inr rfl) trivial
  exact fresh _ hC1 ev1 rfl old cap (by omega) o1 Jq rfl Qh4
end
end Go.Sy
